-- written by wip/wprint, a program of this session
import Derived.Test.YtkngkfjjgkfcnaaQLexCoversx0
import Derived.Test.YtkngkfjjgkfcnaaQLexCoversx5
import Derived.Test.YtkngkfjjgkfcnaaQLexCoversx6
namespace Go.Proofs.Ytkngkfjjgkfcnaa.QLexCovers
open Go.RowKit Go.Proofs.YtkngkfjjgkfcnaaW.PrintWords Go.Proofs.YtkngkfjjgkfcnaaW.PrintLast Go.Proofs.YtkngkfjjgkfcnaaW.PrintMore
attribute [local go_sem] max2_int min2_int max_two min_two max_three min_three max_four min_four   -- for this text's walks alone
set_option linter.unusedVariables false
set_option linter.unusedSimpArgs false

/-! ### whetstonelaw08_LexCovers: function 4 -/
mutual
def whetstonelaw08_LexCovers.j0 : Nat → List Int → Bool → Option (Bool)
  | 0, _, _ => none
  | k + 1, x0, x17 => if x17 = true then ((whetstonelaw08_parted.f k).bind fun t179 => (some t179)) else ((lex_Tokens.f k x0).bind fun bt180 => (if bt180.2.2 = 0 then ((whetstoneref08_Marks.f k x0).bind fun t185 => (whetstonelaw08_LexCovers.l0 k x0 bt180.1 t185 0 0)) else (if bt180.2.1 ≥ 0 then (if bt180.2.1 < (x0.length : Int) then (some ((bt180.1.length : Int) == 0)) else (some false)) else (some false))))
def whetstonelaw08_LexCovers.l0 : Nat → List Int → List (S34) → List Int → Int → Int → Option (Bool)
  | 0, _, _, _, _, _ => none
  | k + 1, x0, x3, x6, x7, x8 => if x8 < (x3.length : Int) then (if 0 ≤ x8 then (if ((rd_T34 x3 x8).f2.f0) < x7 then (whetstonelaw08_LexCovers.j2 k x0 x3 x6 x7 x8 true ((rd_T34 x3 x8).f2.f0) ((rd_T34 x3 x8).f2.f1)) else (if ((rd_T34 x3 x8).f2.f1) < ((rd_T34 x3 x8).f2.f0) then (whetstonelaw08_LexCovers.j2 k x0 x3 x6 x7 x8 true ((rd_T34 x3 x8).f2.f0) ((rd_T34 x3 x8).f2.f1)) else (if ((rd_T34 x3 x8).f2.f1) > (x0.length : Int) then (whetstonelaw08_LexCovers.j2 k x0 x3 x6 x7 x8 true ((rd_T34 x3 x8).f2.f0) ((rd_T34 x3 x8).f2.f1)) else (if 0 ≤ ((rd_T34 x3 x8).f2.f0) then (if ((rd_T34 x3 x8).f2.f0) ≤ ((rd_T34 x3 x8).f2.f1) then (if ((rd_T34 x3 x8).f2.f1) ≤ (x0.length : Int) then (if (strOfNums ((x0.take (((rd_T34 x3 x8).f2.f1) : Int).toNat).drop (((rd_T34 x3 x8).f2.f0) : Int).toNat)).toList = ((rd_T34 x3 x8).f1).toList then (whetstonelaw08_LexCovers.j2 k x0 x3 x6 x7 x8 ((((rd_T34 x3 x8).f2.f0) == ((rd_T34 x3 x8).f2.f1)) != (x8 == (wrap64 ((x3.length : Int) - 1)))) ((rd_T34 x3 x8).f2.f0) ((rd_T34 x3 x8).f2.f1)) else (whetstonelaw08_LexCovers.j2 k x0 x3 x6 x7 x8 true ((rd_T34 x3 x8).f2.f0) ((rd_T34 x3 x8).f2.f1))) else (none)) else (none)) else (none))))) else (none)) else (if x7 = (x0.length : Int) then (if (x3.length : Int) > 0 then (if 0 ≤ (wrap64 ((x3.length : Int) - 1)) then (if (wrap64 ((x3.length : Int) - 1)) < (x3.length : Int) then (some (((rd_T34 x3 (wrap64 ((x3.length : Int) - 1))).f0) == 0)) else (none)) else (none)) else (some false)) else (some false))
def whetstonelaw08_LexCovers.j2 : Nat → List Int → List (S34) → List Int → Int → Int → Bool → Int → Int → Option (Bool)
  | 0, _, _, _, _, _, _, _, _ => none
  | k + 1, x0, x3, x6, x7, x8, x98, x191000, x191001 => if x98 = true then (some false) else (whetstonelaw08_LexCovers.l1 k x0 x3 x6 x8 x7 x191000 x191001)
def whetstonelaw08_LexCovers.l1 : Nat → List Int → List (S34) → List Int → Int → Int → Int → Int → Option (Bool)
  | 0, _, _, _, _, _, _, _ => none
  | k + 1, x0, x3, x6, x8, x10, x191000, x191001 => if x10 < x191000 then (if 0 ≤ x10 then (if x10 < (x6.length : Int) then (if (rd x6 x10) = 0 then (some false) else (whetstonelaw08_LexCovers.l1 k x0 x3 x6 x8 (wrap64 (x10 + 1)) x191000 x191001)) else (none)) else (none)) else (whetstonelaw08_LexCovers.l0 k x0 x3 x6 x191001 (wrap64 (x8 + 1)))
end
def whetstonelaw08_LexCovers.f (k : Nat) (l0 : List Int) : Option (Bool) := (whetstonelaw08_parted.f k).bind fun t178 => (if t178 = true then (whetstonelaw08_LexCovers.j0 k l0 (decide ((l0.length : Int) > 2000))) else (whetstonelaw08_LexCovers.j0 k l0 true))
theorem whetstonelaw08_LexCovers.mono_l : ∀ k, (∀ y0 y1, LeO (whetstonelaw08_LexCovers.j0 k y0 y1) (whetstonelaw08_LexCovers.j0 (k + 1) y0 y1)) ∧ (∀ y0 y1 y2 y3 y4, LeO (whetstonelaw08_LexCovers.l0 k y0 y1 y2 y3 y4) (whetstonelaw08_LexCovers.l0 (k + 1) y0 y1 y2 y3 y4)) ∧ (∀ y0 y1 y2 y3 y4 y5 y6 y7, LeO (whetstonelaw08_LexCovers.j2 k y0 y1 y2 y3 y4 y5 y6 y7) (whetstonelaw08_LexCovers.j2 (k + 1) y0 y1 y2 y3 y4 y5 y6 y7)) ∧ (∀ y0 y1 y2 y3 y4 y5 y6, LeO (whetstonelaw08_LexCovers.l1 k y0 y1 y2 y3 y4 y5 y6) (whetstonelaw08_LexCovers.l1 (k + 1) y0 y1 y2 y3 y4 y5 y6))
  | 0 => ⟨fun _ _ r h => by simp [whetstonelaw08_LexCovers.j0] at h, fun _ _ _ _ _ r h => by simp [whetstonelaw08_LexCovers.l0] at h, fun _ _ _ _ _ _ _ _ r h => by simp [whetstonelaw08_LexCovers.j2] at h, fun _ _ _ _ _ _ _ r h => by simp [whetstonelaw08_LexCovers.l1] at h⟩
  | k + 1 => by
    obtain ⟨ih0, ih1, ih2, ih3⟩ := whetstonelaw08_LexCovers.mono_l k
    refine ⟨?_, ?_, ?_, ?_⟩
    · intro y0 y1
      unfold whetstonelaw08_LexCovers.j0
      repeat' first
      | (with_reducible exact ih0 _ _)
      | (with_reducible exact ih1 _ _ _ _ _)
      | (with_reducible exact ih2 _ _ _ _ _ _ _ _)
      | (with_reducible exact ih3 _ _ _ _ _ _ _)
      | (with_reducible exact lex_Tokens.mono _ _)
      | (with_reducible exact whetstonelaw08_parted.mono _)
      | (with_reducible exact whetstoneref08_Marks.mono _ _)
      | (with_reducible exact LeO.refl _)
      | (with_reducible exact LeO.none _)
      | (with_reducible refine LeO.ite ?_ ?_)
      | (with_reducible refine LeO.bind ?_ (fun _ => ?_))
      | exact ih0 _ _
      | exact ih1 _ _ _ _ _
      | exact ih2 _ _ _ _ _ _ _ _
      | exact ih3 _ _ _ _ _ _ _
      | exact lex_Tokens.mono _ _
      | exact whetstonelaw08_parted.mono _
      | exact whetstoneref08_Marks.mono _ _
      | exact LeO.none _
      | refine LeO.ite ?_ ?_
      | refine LeO.bind ?_ (fun _ => ?_)
    · intro y0 y1 y2 y3 y4
      unfold whetstonelaw08_LexCovers.l0
      repeat' first
      | (with_reducible exact ih0 _ _)
      | (with_reducible exact ih1 _ _ _ _ _)
      | (with_reducible exact ih2 _ _ _ _ _ _ _ _)
      | (with_reducible exact ih3 _ _ _ _ _ _ _)
      | (with_reducible exact lex_Tokens.mono _ _)
      | (with_reducible exact whetstonelaw08_parted.mono _)
      | (with_reducible exact whetstoneref08_Marks.mono _ _)
      | (with_reducible exact LeO.refl _)
      | (with_reducible exact LeO.none _)
      | (with_reducible refine LeO.ite ?_ ?_)
      | (with_reducible refine LeO.bind ?_ (fun _ => ?_))
      | exact ih0 _ _
      | exact ih1 _ _ _ _ _
      | exact ih2 _ _ _ _ _ _ _ _
      | exact ih3 _ _ _ _ _ _ _
      | exact lex_Tokens.mono _ _
      | exact whetstonelaw08_parted.mono _
      | exact whetstoneref08_Marks.mono _ _
      | exact LeO.none _
      | refine LeO.ite ?_ ?_
      | refine LeO.bind ?_ (fun _ => ?_)
    · intro y0 y1 y2 y3 y4 y5 y6 y7
      unfold whetstonelaw08_LexCovers.j2
      repeat' first
      | (with_reducible exact ih0 _ _)
      | (with_reducible exact ih1 _ _ _ _ _)
      | (with_reducible exact ih2 _ _ _ _ _ _ _ _)
      | (with_reducible exact ih3 _ _ _ _ _ _ _)
      | (with_reducible exact lex_Tokens.mono _ _)
      | (with_reducible exact whetstonelaw08_parted.mono _)
      | (with_reducible exact whetstoneref08_Marks.mono _ _)
      | (with_reducible exact LeO.refl _)
      | (with_reducible exact LeO.none _)
      | (with_reducible refine LeO.ite ?_ ?_)
      | (with_reducible refine LeO.bind ?_ (fun _ => ?_))
      | exact ih0 _ _
      | exact ih1 _ _ _ _ _
      | exact ih2 _ _ _ _ _ _ _ _
      | exact ih3 _ _ _ _ _ _ _
      | exact lex_Tokens.mono _ _
      | exact whetstonelaw08_parted.mono _
      | exact whetstoneref08_Marks.mono _ _
      | exact LeO.none _
      | refine LeO.ite ?_ ?_
      | refine LeO.bind ?_ (fun _ => ?_)
    · intro y0 y1 y2 y3 y4 y5 y6
      unfold whetstonelaw08_LexCovers.l1
      repeat' first
      | (with_reducible exact ih0 _ _)
      | (with_reducible exact ih1 _ _ _ _ _)
      | (with_reducible exact ih2 _ _ _ _ _ _ _ _)
      | (with_reducible exact ih3 _ _ _ _ _ _ _)
      | (with_reducible exact lex_Tokens.mono _ _)
      | (with_reducible exact whetstonelaw08_parted.mono _)
      | (with_reducible exact whetstoneref08_Marks.mono _ _)
      | (with_reducible exact LeO.refl _)
      | (with_reducible exact LeO.none _)
      | (with_reducible refine LeO.ite ?_ ?_)
      | (with_reducible refine LeO.bind ?_ (fun _ => ?_))
      | exact ih0 _ _
      | exact ih1 _ _ _ _ _
      | exact ih2 _ _ _ _ _ _ _ _
      | exact ih3 _ _ _ _ _ _ _
      | exact lex_Tokens.mono _ _
      | exact whetstonelaw08_parted.mono _
      | exact whetstoneref08_Marks.mono _ _
      | exact LeO.none _
      | refine LeO.ite ?_ ?_
      | refine LeO.bind ?_ (fun _ => ?_)
theorem whetstonelaw08_LexCovers.mono : ∀ a0 k, LeO (whetstonelaw08_LexCovers.f k a0) (whetstonelaw08_LexCovers.f (k + 1) a0) := by
  intro a0 k
  obtain ⟨ih0, ih1, ih2, ih3⟩ := whetstonelaw08_LexCovers.mono_l k
  unfold whetstonelaw08_LexCovers.f
  repeat' first
      | (with_reducible exact ih0 _ _)
      | (with_reducible exact ih1 _ _ _ _ _)
      | (with_reducible exact ih2 _ _ _ _ _ _ _ _)
      | (with_reducible exact ih3 _ _ _ _ _ _ _)
      | (with_reducible exact lex_Tokens.mono _ _)
      | (with_reducible exact whetstonelaw08_parted.mono _)
      | (with_reducible exact whetstoneref08_Marks.mono _ _)
      | (with_reducible exact LeO.refl _)
      | (with_reducible exact LeO.none _)
      | (with_reducible refine LeO.ite ?_ ?_)
      | (with_reducible refine LeO.bind ?_ (fun _ => ?_))
      | exact ih0 _ _
      | exact ih1 _ _ _ _ _
      | exact ih2 _ _ _ _ _ _ _ _
      | exact ih3 _ _ _ _ _ _ _
      | exact lex_Tokens.mono _ _
      | exact whetstonelaw08_parted.mono _
      | exact whetstoneref08_Marks.mono _ _
      | exact LeO.none _
      | refine LeO.ite ?_ ?_
      | refine LeO.bind ?_ (fun _ => ?_)
set_option maxHeartbeats 8000000 in
set_option maxRecDepth 100000 in
theorem whetstonelaw08_LexCovers.calls (k : Nat) (A0 : Option Addr) (c0 : Nat) (l0 : List Int) (r : Bool) (w : World) (hr0 : Kd.C (Kd.int .u8) w A0 l0.length l0) (hc0 : l0.length ≤ c0) (h : whetstonelaw08_LexCovers.f k l0 = some r) :
    Calls Try.prog 4 #[.slice A0 l0.length c0] w fun e w' => e = .returned (.bool r) ∧ Below w.heap.size w w' := by
  have hu32 := Try.underlying32
  have HR0 := Aside0.mk hr0
  have HC0 := Aside0.mk hc0
  clear hr0 hc0
  have HB := Aside0.mk (Below.refl w.heap.size w)
  have H : ((whetstonelaw08_parted.f k).bind fun t178 => (if t178 = true then (whetstonelaw08_LexCovers.j0 k l0 (decide ((l0.length : Int) > 2000))) else (whetstonelaw08_LexCovers.j0 k l0 true))) = some r := h
  clear h
  have HC2 := Aside0.mk H
  clear H
  go_enter Try.func4, Try.ntmps4
  go_upto_region 1 with (fail)
  repeat (go_quiet (fail); go_upto_region 1 with (fail))
  go_cut [17] from 1 to 0 (fun v17 wc => ∃ (kq : Nat) (x17_1 : Bool), v17 = .bool x17_1 ∧ Aside0 (whetstonelaw08_LexCovers.j0 kq l0 x17_1 = some r) ∧ Aside0 (kq ≤ k) ∧ Aside0 (Below w.heap.size w wc))
  case first =>
    have H := HC2.out
    clear HC2
    replace H := Option.bind_eq_some_iff.mp H
    obtain ⟨t178, A30, H⟩ := H
    replace H : (if t178 = true then (whetstonelaw08_LexCovers.j0 k l0 (decide ((l0.length : Int) > 2000))) else (whetstonelaw08_LexCovers.j0 k l0 true)) = some r := H
    have A3 := Aside0.mk A30
    clear A30
    by_cases c4 : t178 = true
    · subst c4
      have H1 : (whetstonelaw08_LexCovers.j0 k l0 (decide ((l0.length : Int) > 2000))) = some r := by rw [if_pos rfl] at H; exact H
      clear H
      have H := H1
      clear H1
      have H' := Aside0.mk H
      clear H
      go_wp2_with (first | (go_at_call 9; (with_reducible refine (whetstonelaw08_parted.calls k  true _ A3.out).mono ?_); rintro e w5 ⟨rfl, hb⟩; have n0_ := Aside0.mk (below_step (by repeat (first | (with_reducible first | exact HB.out | apply below_alloc | apply pw_below_drewN | apply below_drew1) | exact HB.out)) hb); clear HB; have HB := n0_; clear n0_; (try clear hb); (try clear hb2); (try clear hk); (try clear hi)))
      repeat (go_quiet (first | (go_at_call 9; (with_reducible refine (whetstonelaw08_parted.calls k  true _ A3.out).mono ?_); rintro e w5 ⟨rfl, hb⟩; have n0_ := Aside0.mk (below_step (by repeat (first | (with_reducible first | exact HB.out | apply below_alloc | apply pw_below_drewN | apply below_drew1) | exact HB.out)) hb); clear HB; have HB := n0_; clear n0_; (try clear hb); (try clear hb2); (try clear hk); (try clear hi))); try go_wp2_with (first | (go_at_call 9; (with_reducible refine (whetstonelaw08_parted.calls k  true _ A3.out).mono ?_); rintro e w5 ⟨rfl, hb⟩; have n0_ := Aside0.mk (below_step (by repeat (first | (with_reducible first | exact HB.out | apply below_alloc | apply pw_below_drewN | apply below_drew1) | exact HB.out)) hb); clear HB; have HB := n0_; clear n0_; (try clear hb); (try clear hb2); (try clear hk); (try clear hi))))
      go_meet
      case rel => exact ⟨_, (decide ((l0.length : Int) > 2000)), (by first | rfl | (simp; done) | (simp [*]; done)), H', ⟨by first | omega | exact Nat.le_refl _⟩, ⟨by repeat (first | (with_reducible first | exact HB.out | apply below_alloc | apply pw_below_drewN | apply below_drew1) | exact HB.out)⟩⟩
    · replace c4 := Bool.eq_false_iff.mpr c4
      subst c4
      have H1 : (whetstonelaw08_LexCovers.j0 k l0 true) = some r := by rw [if_neg (show ¬ (false = true) by decide)] at H; exact H
      clear H
      have H := H1
      clear H1
      have H' := Aside0.mk H
      clear H
      go_wp2_with (first | (go_at_call 9; (with_reducible refine (whetstonelaw08_parted.calls k  false _ A3.out).mono ?_); rintro e w6 ⟨rfl, hb⟩; have n0_ := Aside0.mk (below_step (by repeat (first | (with_reducible first | exact HB.out | apply below_alloc | apply pw_below_drewN | apply below_drew1) | exact HB.out)) hb); clear HB; have HB := n0_; clear n0_; (try clear hb); (try clear hb2); (try clear hk); (try clear hi)))
      repeat (go_quiet (first | (go_at_call 9; (with_reducible refine (whetstonelaw08_parted.calls k  false _ A3.out).mono ?_); rintro e w6 ⟨rfl, hb⟩; have n0_ := Aside0.mk (below_step (by repeat (first | (with_reducible first | exact HB.out | apply below_alloc | apply pw_below_drewN | apply below_drew1) | exact HB.out)) hb); clear HB; have HB := n0_; clear n0_; (try clear hb); (try clear hb2); (try clear hk); (try clear hi))); try go_wp2_with (first | (go_at_call 9; (with_reducible refine (whetstonelaw08_parted.calls k  false _ A3.out).mono ?_); rintro e w6 ⟨rfl, hb⟩; have n0_ := Aside0.mk (below_step (by repeat (first | (with_reducible first | exact HB.out | apply below_alloc | apply pw_below_drewN | apply below_drew1) | exact HB.out)) hb); clear HB; have HB := n0_; clear n0_; (try clear hb); (try clear hb2); (try clear hk); (try clear hi))))
      go_meet
      case rel => exact ⟨_, (true), (by first | rfl | (simp; done) | (simp [*]; done)), H', ⟨by first | omega | exact Nat.le_refl _⟩, ⟨by repeat (first | (with_reducible first | exact HB.out | apply below_alloc | apply pw_below_drewN | apply below_drew1) | exact HB.out)⟩⟩
  case rest =>
    clear HC2
    try clear p2
    try clear c4
    obtain ⟨kq, x17_1, rfl, HA, HJ1, HB⟩ := hcut
    cases kq with
    | zero => exact absurd HA.out (by simp [whetstonelaw08_LexCovers.j0])
    | succ kj1 =>
      have H := HA.out
      clear HA
      simp only [whetstonelaw08_LexCovers.j0] at H
      by_cases c7 : x17_1 = true
      · subst c7
        have H1 : ((whetstonelaw08_parted.f kj1).bind fun t179 => (some t179)) = some r := by rw [if_pos rfl] at H; exact H
        clear H
        have H := H1
        clear H1
        replace H := Option.bind_eq_some_iff.mp H
        obtain ⟨t179, A80, H⟩ := H
        replace H : (some t179) = some r := H
        have A8 := Aside0.mk A80
        clear A80
        obtain rfl := Option.some.inj H
        go_wp2_with (first | (go_at_call 9; (with_reducible refine (whetstonelaw08_parted.calls kj1  t179 _ A8.out).mono ?_); rintro e w9 ⟨rfl, hb⟩; have n0_ := Aside0.mk (below_step (by repeat (first | (with_reducible first | exact HB.out | apply below_alloc | apply pw_below_drewN | apply below_drew1) | exact HB.out)) hb); clear HB; have HB := n0_; clear n0_; (try clear hb); (try clear hb2); (try clear hk); (try clear hi)))
        repeat (go_quiet (first | (go_at_call 9; (with_reducible refine (whetstonelaw08_parted.calls kj1  t179 _ A8.out).mono ?_); rintro e w9 ⟨rfl, hb⟩; have n0_ := Aside0.mk (below_step (by repeat (first | (with_reducible first | exact HB.out | apply below_alloc | apply pw_below_drewN | apply below_drew1) | exact HB.out)) hb); clear HB; have HB := n0_; clear n0_; (try clear hb); (try clear hb2); (try clear hk); (try clear hi))); try go_wp2_with (first | (go_at_call 9; (with_reducible refine (whetstonelaw08_parted.calls kj1  t179 _ A8.out).mono ?_); rintro e w9 ⟨rfl, hb⟩; have n0_ := Aside0.mk (below_step (by repeat (first | (with_reducible first | exact HB.out | apply below_alloc | apply pw_below_drewN | apply below_drew1) | exact HB.out)) hb); clear HB; have HB := n0_; clear n0_; (try clear hb); (try clear hb2); (try clear hk); (try clear hi))))
        go_ret
        exact ⟨by first | rfl | (simp [errW_none, errW_some] <;> rfl) | (simp [*, errW_none, errW_some] <;> rfl), by repeat (first | (with_reducible first | exact HB.out | apply below_alloc | apply pw_below_drewN | apply below_drew1) | exact HB.out)⟩
      · replace c7 := Bool.eq_false_iff.mpr c7
        subst c7
        have H1 : ((lex_Tokens.f kj1 l0).bind fun bt180 => (if bt180.2.2 = 0 then ((whetstoneref08_Marks.f kj1 l0).bind fun t185 => (whetstonelaw08_LexCovers.l0 kj1 l0 bt180.1 t185 0 0)) else (if bt180.2.1 ≥ 0 then (if bt180.2.1 < (l0.length : Int) then (some ((bt180.1.length : Int) == 0)) else (some false)) else (some false)))) = some r := by rw [if_neg (show ¬ (false = true) by decide)] at H; exact H
        clear H
        have H := H1
        clear H1
        replace H := Option.bind_eq_some_iff.mp H
        obtain ⟨⟨t180, t181, t182⟩, A100, H⟩ := H
        replace H : (if t182 = 0 then ((whetstoneref08_Marks.f kj1 l0).bind fun t185 => (whetstonelaw08_LexCovers.l0 kj1 l0 t180 t185 0 0)) else (if t181 ≥ 0 then (if t181 < (l0.length : Int) then (some ((t180.length : Int) == 0)) else (some false)) else (some false))) = some r := H
        have A10 := Aside0.mk A100
        clear A100
        by_cases c11 : t182 = 0
        · rw [if_pos c11] at H
          have c11b0 : (t182 == 0) = true := beq_iff_eq.mpr c11
          have c11b1 : (t182 != 0) = false := bne_eq_false_iff_eq.mpr c11
          clear c11
          replace H := Option.bind_eq_some_iff.mp H
          obtain ⟨t185, A120, H⟩ := H
          replace H : (whetstonelaw08_LexCovers.l0 kj1 l0 t180 t185 0 0) = some r := H
          have A12 := Aside0.mk A120
          clear A120
          have H' := Aside0.mk H
          clear H
          go_wp2_with (first | (go_at_call 10; (with_reducible refine (lex_Tokens.calls kj1 _ _ l0 t180 t181 t182 _ ?side1 ?side2 A10.out).mono ?_); (case side1 => repeat (first | exact (Kd.C_below HR0.out HB.out) | (with_reducible refine Kd.C_alloc ?_ _) | (with_reducible refine Kd.C_drewN ?_ _) | (with_reducible refine Kd.C_drew ?_))); (case side2 => exact HC0.out); rintro e w13 ⟨v183, rfl, ho0, hb⟩; have n0_ := Aside0.mk (Kd.R_lower ho0 (below_size (by repeat (first | (with_reducible first | exact HB.out | apply below_alloc | apply pw_below_drewN | apply below_drew1) | exact HB.out)))); have n1_ := Aside0.mk (below_step (by repeat (first | (with_reducible first | exact HB.out | apply below_alloc | apply pw_below_drewN | apply below_drew1) | exact HB.out)) hb); clear HB; have HO184 := n0_; have HB := n1_; clear n0_ n1_; (try clear hb); (try clear hb2); (try clear hk); (try clear hi); (try clear ho0)) | (go_at_call 12; (with_reducible refine (whetstoneref08_Marks.calls kj1 _ _ l0 t185 _ ?side1 ?side2 A12.out).mono ?_); (case side1 => repeat (first | exact (Kd.C_below HR0.out HB.out) | (with_reducible refine Kd.C_alloc ?_ _) | (with_reducible refine Kd.C_drewN ?_ _) | (with_reducible refine Kd.C_drew ?_))); (case side2 => exact HC0.out); rintro e w14 ⟨v186, rfl, ho0, hb⟩; have n0_ := Aside0.mk (Kd.R_below (by (with_reducible repeat (first | apply Kd.R_alloc | apply Kd.R_drewN | apply Kd.R_drew)); exact HO184.out) hb); have n1_ := Aside0.mk (Kd.R_lower ho0 (below_size (by repeat (first | (with_reducible first | exact HB.out | apply below_alloc | apply pw_below_drewN | apply below_drew1) | exact HB.out)))); have n2_ := Aside0.mk (below_step (by repeat (first | (with_reducible first | exact HB.out | apply below_alloc | apply pw_below_drewN | apply below_drew1) | exact HB.out)) hb); clear HO184; clear HB; have HO184 := n0_; have HO187 := n1_; have HB := n2_; clear n0_ n1_ n2_; (try clear hb); (try clear hb2); (try clear hk); (try clear hi); (try clear ho0)))
          repeat (go_quiet (first | (go_at_call 10; (with_reducible refine (lex_Tokens.calls kj1 _ _ l0 t180 t181 t182 _ ?side1 ?side2 A10.out).mono ?_); (case side1 => repeat (first | exact (Kd.C_below HR0.out HB.out) | (with_reducible refine Kd.C_alloc ?_ _) | (with_reducible refine Kd.C_drewN ?_ _) | (with_reducible refine Kd.C_drew ?_))); (case side2 => exact HC0.out); rintro e w13 ⟨v183, rfl, ho0, hb⟩; have n0_ := Aside0.mk (Kd.R_lower ho0 (below_size (by repeat (first | (with_reducible first | exact HB.out | apply below_alloc | apply pw_below_drewN | apply below_drew1) | exact HB.out)))); have n1_ := Aside0.mk (below_step (by repeat (first | (with_reducible first | exact HB.out | apply below_alloc | apply pw_below_drewN | apply below_drew1) | exact HB.out)) hb); clear HB; have HO184 := n0_; have HB := n1_; clear n0_ n1_; (try clear hb); (try clear hb2); (try clear hk); (try clear hi); (try clear ho0)) | (go_at_call 12; (with_reducible refine (whetstoneref08_Marks.calls kj1 _ _ l0 t185 _ ?side1 ?side2 A12.out).mono ?_); (case side1 => repeat (first | exact (Kd.C_below HR0.out HB.out) | (with_reducible refine Kd.C_alloc ?_ _) | (with_reducible refine Kd.C_drewN ?_ _) | (with_reducible refine Kd.C_drew ?_))); (case side2 => exact HC0.out); rintro e w14 ⟨v186, rfl, ho0, hb⟩; have n0_ := Aside0.mk (Kd.R_below (by (with_reducible repeat (first | apply Kd.R_alloc | apply Kd.R_drewN | apply Kd.R_drew)); exact HO184.out) hb); have n1_ := Aside0.mk (Kd.R_lower ho0 (below_size (by repeat (first | (with_reducible first | exact HB.out | apply below_alloc | apply pw_below_drewN | apply below_drew1) | exact HB.out)))); have n2_ := Aside0.mk (below_step (by repeat (first | (with_reducible first | exact HB.out | apply below_alloc | apply pw_below_drewN | apply below_drew1) | exact HB.out)) hb); clear HO184; clear HB; have HO184 := n0_; have HO187 := n1_; have HB := n2_; clear n0_ n1_ n2_; (try clear hb); (try clear hb2); (try clear hk); (try clear hi); (try clear ho0))); try go_wp2_with (first | (go_at_call 10; (with_reducible refine (lex_Tokens.calls kj1 _ _ l0 t180 t181 t182 _ ?side1 ?side2 A10.out).mono ?_); (case side1 => repeat (first | exact (Kd.C_below HR0.out HB.out) | (with_reducible refine Kd.C_alloc ?_ _) | (with_reducible refine Kd.C_drewN ?_ _) | (with_reducible refine Kd.C_drew ?_))); (case side2 => exact HC0.out); rintro e w13 ⟨v183, rfl, ho0, hb⟩; have n0_ := Aside0.mk (Kd.R_lower ho0 (below_size (by repeat (first | (with_reducible first | exact HB.out | apply below_alloc | apply pw_below_drewN | apply below_drew1) | exact HB.out)))); have n1_ := Aside0.mk (below_step (by repeat (first | (with_reducible first | exact HB.out | apply below_alloc | apply pw_below_drewN | apply below_drew1) | exact HB.out)) hb); clear HB; have HO184 := n0_; have HB := n1_; clear n0_ n1_; (try clear hb); (try clear hb2); (try clear hk); (try clear hi); (try clear ho0)) | (go_at_call 12; (with_reducible refine (whetstoneref08_Marks.calls kj1 _ _ l0 t185 _ ?side1 ?side2 A12.out).mono ?_); (case side1 => repeat (first | exact (Kd.C_below HR0.out HB.out) | (with_reducible refine Kd.C_alloc ?_ _) | (with_reducible refine Kd.C_drewN ?_ _) | (with_reducible refine Kd.C_drew ?_))); (case side2 => exact HC0.out); rintro e w14 ⟨v186, rfl, ho0, hb⟩; have n0_ := Aside0.mk (Kd.R_below (by (with_reducible repeat (first | apply Kd.R_alloc | apply Kd.R_drewN | apply Kd.R_drew)); exact HO184.out) hb); have n1_ := Aside0.mk (Kd.R_lower ho0 (below_size (by repeat (first | (with_reducible first | exact HB.out | apply below_alloc | apply pw_below_drewN | apply below_drew1) | exact HB.out)))); have n2_ := Aside0.mk (below_step (by repeat (first | (with_reducible first | exact HB.out | apply below_alloc | apply pw_below_drewN | apply below_drew1) | exact HB.out)) hb); clear HO184; clear HB; have HO184 := n0_; have HO187 := n1_; have HB := n2_; clear n0_ n1_ n2_; (try clear hb); (try clear hb2); (try clear hk); (try clear hi); (try clear ho0))))
          go_loopg [7, 8] kj1 (fun kq v7 v8 w' => ∃ (x7_2 : Int) (x8_2 : Int), v7 = .int .i64 x7_2 ∧ v8 = .int .i64 x8_2 ∧ Aside0 (whetstonelaw08_LexCovers.l0 kq l0 t180 t185 x7_2 x8_2 = some r) ∧ Aside0 (kq ≤ kj1) ∧ Aside0 (Kd.R k34 34 w' w.heap.size (fun _ => True) v183 t180) ∧ Aside0 (Kd.R (Kd.int .i64) 3 w' w.heap.size (fun _ => True) v186 t185) ∧ Aside0 (Below w.heap.size w w'))
          case atStart => exact ⟨(0), (0), (by first | rfl | (simp; done) | (simp [*]; done)), (by first | rfl | (simp; done) | (simp [*]; done)), H', ⟨Nat.le_refl _⟩, ⟨by (with_reducible repeat (first | apply Kd.R_alloc | apply Kd.R_drewN | apply Kd.R_drew)); exact HO184.out⟩, ⟨by (with_reducible repeat (first | apply Kd.R_alloc | apply Kd.R_drewN | apply Kd.R_drew)); exact HO187.out⟩, ⟨by repeat (first | (with_reducible first | exact HB.out | apply below_alloc | apply pw_below_drewN | apply below_drew1) | exact HB.out)⟩⟩
          case round =>
            clear H'
            try clear c1
            try clear p2
            try clear c4
            try clear c7
            try clear c11
            try clear c11b0
            try clear c11b1
            try clear p2
            obtain ⟨x7_2, x8_2, rfl, rfl, HA, HK2, HO_3, HO_6, HB⟩ := hrel
            cases gk with
            | zero => exact absurd HA.out (by simp [whetstonelaw08_LexCovers.l0])
            | succ k2 =>
              have H := HA.out
              clear HA
              simp only [whetstonelaw08_LexCovers.l0] at H
              by_cases c15 : x8_2 < (t180.length : Int)
              · rw [if_pos c15] at H
                have c15b0 : decide (x8_2 < (t180.length : Int)) = true := decide_eq_true c15
                clear c15
                by_cases c16 : 0 ≤ x8_2
                · rw [if_pos c16] at H
                  have c16b0 : decide (0 ≤ x8_2) = true := decide_eq_true c16
                  clear c16
                  have HC17 := Aside0.mk H
                  clear H
                  obtain ⟨Ao18, co18, eo18⟩ := Kd.R_slice HO_3.out
                  subst eo18
                  have p189 : 0 ≤ (x8_2 : Int) := of_decide_eq_true (by first | (with_reducible assumption) | assumption)
                  have q189 : x8_2 < (t180.length : Int) := of_decide_eq_true (by first | (with_reducible assumption) | assumption)
                  obtain ⟨ad189, e189, hx189_0, hx189_1, hx189_2, hx189_3⟩ := at_T34 (Kd.R_reads' HO_3.out).2.2 x8_2 p189 q189
                  cases e189
                  replace p189 := eq_true p189
                  replace q189 := eq_true q189
                  go_upto_region 12 with (first | ((with_reducible refine gate_dst (N := 9) rfl ?_); (try (refine gate_guard (by rfl) ?_; dsimp only)); refine box_event ?hg (N := 9) ?hd (cs := #[.int .i64 0, .int .i64 0]) (t := 32) ?hr ?_; (case hd => rfl); (case hg => rfl); (case hr => first | (go_simp; done) | (go_simp; rfl)); intro gb190 hg w19 hbox hb; have n0_ := Aside0.mk (Kd.R_below (by (with_reducible repeat (first | apply Kd.R_alloc | apply Kd.R_drewN | apply Kd.R_drew)); exact HO_3.out) hb); have n1_ := Aside0.mk (Kd.R_below (by (with_reducible repeat (first | apply Kd.R_alloc | apply Kd.R_drewN | apply Kd.R_drew)); exact HO_6.out) hb); have n2_ := Aside0.mk (below_step (by repeat (first | (with_reducible first | exact HB.out | apply below_alloc | apply pw_below_drewN | apply below_drew1) | exact HB.out)) hb); have n3_ := Aside0.mk (hbox); have n4_ := Aside0.mk ((by rw [hg]; exact (below_size (by repeat (first | (with_reducible first | exact HB.out | apply below_alloc | apply pw_below_drewN | apply below_drew1) | exact HB.out))) : w.heap.size ≤ gb190)); have n5_ := Aside0.mk ((by rw [hg]; exact (below_size (by repeat (first | (with_reducible first | exact HB.out | apply below_alloc | apply pw_below_drewN | apply below_drew1) | exact HB.out))) : w.heap.size ≤ gb190)); clear HO_3; clear HO_6; clear HB; have HO_3 := n0_; have HO_6 := n1_; have HB := n2_; have BK190 := n3_; have GW190 := n4_; have GE190 := n5_; clear n0_ n1_ n2_ n3_ n4_ n5_; clear hb hbox hg; have hcz20_0 : w19.cell? ⟨gb190, 0, none⟩ = some (.int .i64 0) := (blk_cell BK190.out 0).trans rfl; have hcz20_1 : w19.cell? ⟨gb190, 1, none⟩ = some (.int .i64 0) := (blk_cell BK190.out 1).trans rfl; have hfz20_0 := blk_frozen BK190.out 0; have hfz20_1 := blk_frozen BK190.out 1))
                  repeat (go_quiet (first | ((with_reducible refine gate_dst (N := 9) rfl ?_); (try (refine gate_guard (by rfl) ?_; dsimp only)); refine box_event ?hg (N := 9) ?hd (cs := #[.int .i64 0, .int .i64 0]) (t := 32) ?hr ?_; (case hd => rfl); (case hg => rfl); (case hr => first | (go_simp; done) | (go_simp; rfl)); intro gb190 hg w19 hbox hb; have n0_ := Aside0.mk (Kd.R_below (by (with_reducible repeat (first | apply Kd.R_alloc | apply Kd.R_drewN | apply Kd.R_drew)); exact HO_3.out) hb); have n1_ := Aside0.mk (Kd.R_below (by (with_reducible repeat (first | apply Kd.R_alloc | apply Kd.R_drewN | apply Kd.R_drew)); exact HO_6.out) hb); have n2_ := Aside0.mk (below_step (by repeat (first | (with_reducible first | exact HB.out | apply below_alloc | apply pw_below_drewN | apply below_drew1) | exact HB.out)) hb); have n3_ := Aside0.mk (hbox); have n4_ := Aside0.mk ((by rw [hg]; exact (below_size (by repeat (first | (with_reducible first | exact HB.out | apply below_alloc | apply pw_below_drewN | apply below_drew1) | exact HB.out))) : w.heap.size ≤ gb190)); have n5_ := Aside0.mk ((by rw [hg]; exact (below_size (by repeat (first | (with_reducible first | exact HB.out | apply below_alloc | apply pw_below_drewN | apply below_drew1) | exact HB.out))) : w.heap.size ≤ gb190)); clear HO_3; clear HO_6; clear HB; have HO_3 := n0_; have HO_6 := n1_; have HB := n2_; have BK190 := n3_; have GW190 := n4_; have GE190 := n5_; clear n0_ n1_ n2_ n3_ n4_ n5_; clear hb hbox hg; have hcz20_0 : w19.cell? ⟨gb190, 0, none⟩ = some (.int .i64 0) := (blk_cell BK190.out 0).trans rfl; have hcz20_1 : w19.cell? ⟨gb190, 1, none⟩ = some (.int .i64 0) := (blk_cell BK190.out 1).trans rfl; have hfz20_0 := blk_frozen BK190.out 0; have hfz20_1 := blk_frozen BK190.out 1)); go_upto_region 12 with (first | ((with_reducible refine gate_dst (N := 9) rfl ?_); (try (refine gate_guard (by rfl) ?_; dsimp only)); refine box_event ?hg (N := 9) ?hd (cs := #[.int .i64 0, .int .i64 0]) (t := 32) ?hr ?_; (case hd => rfl); (case hg => rfl); (case hr => first | (go_simp; done) | (go_simp; rfl)); intro gb190 hg w19 hbox hb; have n0_ := Aside0.mk (Kd.R_below (by (with_reducible repeat (first | apply Kd.R_alloc | apply Kd.R_drewN | apply Kd.R_drew)); exact HO_3.out) hb); have n1_ := Aside0.mk (Kd.R_below (by (with_reducible repeat (first | apply Kd.R_alloc | apply Kd.R_drewN | apply Kd.R_drew)); exact HO_6.out) hb); have n2_ := Aside0.mk (below_step (by repeat (first | (with_reducible first | exact HB.out | apply below_alloc | apply pw_below_drewN | apply below_drew1) | exact HB.out)) hb); have n3_ := Aside0.mk (hbox); have n4_ := Aside0.mk ((by rw [hg]; exact (below_size (by repeat (first | (with_reducible first | exact HB.out | apply below_alloc | apply pw_below_drewN | apply below_drew1) | exact HB.out))) : w.heap.size ≤ gb190)); have n5_ := Aside0.mk ((by rw [hg]; exact (below_size (by repeat (first | (with_reducible first | exact HB.out | apply below_alloc | apply pw_below_drewN | apply below_drew1) | exact HB.out))) : w.heap.size ≤ gb190)); clear HO_3; clear HO_6; clear HB; have HO_3 := n0_; have HO_6 := n1_; have HB := n2_; have BK190 := n3_; have GW190 := n4_; have GE190 := n5_; clear n0_ n1_ n2_ n3_ n4_ n5_; clear hb hbox hg; have hcz20_0 : w19.cell? ⟨gb190, 0, none⟩ = some (.int .i64 0) := (blk_cell BK190.out 0).trans rfl; have hcz20_1 : w19.cell? ⟨gb190, 1, none⟩ = some (.int .i64 0) := (blk_cell BK190.out 1).trans rfl; have hfz20_0 := blk_frozen BK190.out 0; have hfz20_1 := blk_frozen BK190.out 1)))
                  (try simp only [Act.put, List.setIfInBounds_toArray, List.set_cons_zero, List.set_cons_succ])
                  go_cut [98] from 1 to 0 (fun v98 wc => ∃ (kq : Nat) (x98_16 : Bool), v98 = .bool x98_16 ∧ Aside0 (whetstonelaw08_LexCovers.j2 kq l0 t180 t185 x7_2 x8_2 x98_16 ((rd_T34 t180 x8_2).f2.f0) ((rd_T34 t180 x8_2).f2.f1) = some r) ∧ Aside0 (kq ≤ k2) ∧ Aside0 (Kd.R k34 34 wc w.heap.size (fun _ => True) (.slice (some ad189) t180.length co18) t180) ∧ Aside0 (Kd.R (Kd.int .i64) 3 wc w.heap.size (fun _ => True) v186 t185) ∧ Aside0 (wc.heap[gb190]? = some (.cells #[.int .i64 ((rd_T34 t180 x8_2).f2.f0), .int .i64 ((rd_T34 t180 x8_2).f2.f1)] 32 (0, 0))) ∧ Aside0 (Below w.heap.size w wc))
                  case first =>
                    have H := HC17.out
                    clear HC17
                    by_cases c21 : ((rd_T34 t180 x8_2).f2.f0) < x7_2
                    · rw [if_pos c21] at H
                      have c21b0 : decide (((rd_T34 t180 x8_2).f2.f0) < x7_2) = true := decide_eq_true c21
                      clear c21
                      (first | rw [c21b0] | (simp only [i64_w, i32_w]; rw [c21b0]) | skip)
                      have H' := Aside0.mk H
                      clear H
                      have hcz22_0 : w19.cell? ⟨gb190, 0, none⟩ = some (.int .i64 0) := (blk_cell BK190.out 0).trans rfl
                      have hcz22_1 : w19.cell? ⟨gb190, 1, none⟩ = some (.int .i64 0) := (blk_cell BK190.out 1).trans rfl
                      have hfz22_0 := blk_frozen BK190.out 0
                      have hfz22_1 := blk_frozen BK190.out 1
                      go_wp2
                      repeat (go_quiet (fail); try go_wp2)
                      go_meet
                      case rel => exact ⟨_, (true), (by first | rfl | (simp; done) | (simp [*]; done)), H', ⟨by have := HJ1.out; have := HK2.out; first | omega | exact Nat.le_refl _⟩, ⟨by (with_reducible repeat (first | apply Kd.R_alloc | apply Kd.R_drewN | apply Kd.R_drew)); exact Kd.R_mono (Kd.R_far (p := ⟨gb190, 1, none⟩) (Kd.R_far (p := ⟨gb190, 0, none⟩) (Kd.R_types HO_3.out BK190.out (by decide)) (fun _ hk => hk.2) (.int .i64 ((rd_T34 t180 x8_2).f2.f0))) (fun _ hk => hk.2) (.int .i64 ((rd_T34 t180 x8_2).f2.f1))) (fun _ hk => trivial)⟩, ⟨by (with_reducible repeat (first | apply Kd.R_alloc | apply Kd.R_drewN | apply Kd.R_drew)); exact Kd.R_mono (Kd.R_far (p := ⟨gb190, 1, none⟩) (Kd.R_far (p := ⟨gb190, 0, none⟩) (Kd.R_types HO_6.out BK190.out (by decide)) (fun _ hk => hk.2) (.int .i64 ((rd_T34 t180 x8_2).f2.f0))) (fun _ hk => hk.2) (.int .i64 ((rd_T34 t180 x8_2).f2.f1))) (fun _ hk => trivial)⟩, ⟨by (with_reducible repeat (first | refine blk_drewN ?_ _ | refine blk_drew ?_ | refine blk_alloc ?_ _)); refine blk_put (cs := #[.int .i64 ((rd_T34 t180 x8_2).f2.f0), .int .i64 0]) ?_ 1 _ rfl; (with_reducible repeat (first | refine blk_drewN ?_ _ | refine blk_drew ?_ | refine blk_alloc ?_ _)); refine blk_put (cs := #[.int .i64 0, .int .i64 0]) ?_ 0 _ rfl; (with_reducible repeat (first | refine blk_drewN ?_ _ | refine blk_drew ?_ | refine blk_alloc ?_ _)); exact BK190.out⟩, ⟨by repeat (first | (with_reducible first | exact HB.out | apply below_alloc | apply pw_below_drewN | apply below_drew1 | refine below_set ?_ GE190.out) | exact HB.out)⟩⟩
                    · rw [if_neg c21] at H
                      have c21b0 : decide (((rd_T34 t180 x8_2).f2.f0) < x7_2) = false := decide_eq_false c21
                      clear c21
                      (first | rw [c21b0] | (simp only [i64_w, i32_w]; rw [c21b0]) | skip)
                      by_cases c23 : ((rd_T34 t180 x8_2).f2.f1) < ((rd_T34 t180 x8_2).f2.f0)
                      · rw [if_pos c23] at H
                        have c23b0 : decide (((rd_T34 t180 x8_2).f2.f1) < ((rd_T34 t180 x8_2).f2.f0)) = true := decide_eq_true c23
                        clear c23
                        have H' := Aside0.mk H
                        clear H
                        have hcz24_0 : w19.cell? ⟨gb190, 0, none⟩ = some (.int .i64 0) := (blk_cell BK190.out 0).trans rfl
                        have hcz24_1 : w19.cell? ⟨gb190, 1, none⟩ = some (.int .i64 0) := (blk_cell BK190.out 1).trans rfl
                        have hfz24_0 := blk_frozen BK190.out 0
                        have hfz24_1 := blk_frozen BK190.out 1
                        go_wp2
                        repeat (go_quiet (fail); try go_wp2)
                        go_meet
                        case rel => exact ⟨_, (true), (by first | rfl | (simp; done) | (simp [*]; done)), H', ⟨by have := HJ1.out; have := HK2.out; first | omega | exact Nat.le_refl _⟩, ⟨by (with_reducible repeat (first | apply Kd.R_alloc | apply Kd.R_drewN | apply Kd.R_drew)); exact Kd.R_mono (Kd.R_far (p := ⟨gb190, 1, none⟩) (Kd.R_far (p := ⟨gb190, 0, none⟩) (Kd.R_types HO_3.out BK190.out (by decide)) (fun _ hk => hk.2) (.int .i64 ((rd_T34 t180 x8_2).f2.f0))) (fun _ hk => hk.2) (.int .i64 ((rd_T34 t180 x8_2).f2.f1))) (fun _ hk => trivial)⟩, ⟨by (with_reducible repeat (first | apply Kd.R_alloc | apply Kd.R_drewN | apply Kd.R_drew)); exact Kd.R_mono (Kd.R_far (p := ⟨gb190, 1, none⟩) (Kd.R_far (p := ⟨gb190, 0, none⟩) (Kd.R_types HO_6.out BK190.out (by decide)) (fun _ hk => hk.2) (.int .i64 ((rd_T34 t180 x8_2).f2.f0))) (fun _ hk => hk.2) (.int .i64 ((rd_T34 t180 x8_2).f2.f1))) (fun _ hk => trivial)⟩, ⟨by (with_reducible repeat (first | refine blk_drewN ?_ _ | refine blk_drew ?_ | refine blk_alloc ?_ _)); refine blk_put (cs := #[.int .i64 ((rd_T34 t180 x8_2).f2.f0), .int .i64 0]) ?_ 1 _ rfl; (with_reducible repeat (first | refine blk_drewN ?_ _ | refine blk_drew ?_ | refine blk_alloc ?_ _)); refine blk_put (cs := #[.int .i64 0, .int .i64 0]) ?_ 0 _ rfl; (with_reducible repeat (first | refine blk_drewN ?_ _ | refine blk_drew ?_ | refine blk_alloc ?_ _)); exact BK190.out⟩, ⟨by repeat (first | (with_reducible first | exact HB.out | apply below_alloc | apply pw_below_drewN | apply below_drew1 | refine below_set ?_ GE190.out) | exact HB.out)⟩⟩
                      · rw [if_neg c23] at H
                        have c23b0 : decide (((rd_T34 t180 x8_2).f2.f1) < ((rd_T34 t180 x8_2).f2.f0)) = false := decide_eq_false c23
                        clear c23
                        by_cases c25 : ((rd_T34 t180 x8_2).f2.f1) > (l0.length : Int)
                        · rw [if_pos c25] at H
                          have c25b0 : decide ((l0.length : Int) < ((rd_T34 t180 x8_2).f2.f1)) = true := decide_eq_true c25
                          clear c25
                          have H' := Aside0.mk H
                          clear H
                          have hcz26_0 : w19.cell? ⟨gb190, 0, none⟩ = some (.int .i64 0) := (blk_cell BK190.out 0).trans rfl
                          have hcz26_1 : w19.cell? ⟨gb190, 1, none⟩ = some (.int .i64 0) := (blk_cell BK190.out 1).trans rfl
                          have hfz26_0 := blk_frozen BK190.out 0
                          have hfz26_1 := blk_frozen BK190.out 1
                          go_wp2
                          repeat (go_quiet (fail); try go_wp2)
                          go_meet
                          case rel => exact ⟨_, (true), (by first | rfl | (simp; done) | (simp [*]; done)), H', ⟨by have := HJ1.out; have := HK2.out; first | omega | exact Nat.le_refl _⟩, ⟨by (with_reducible repeat (first | apply Kd.R_alloc | apply Kd.R_drewN | apply Kd.R_drew)); exact Kd.R_mono (Kd.R_far (p := ⟨gb190, 1, none⟩) (Kd.R_far (p := ⟨gb190, 0, none⟩) (Kd.R_types HO_3.out BK190.out (by decide)) (fun _ hk => hk.2) (.int .i64 ((rd_T34 t180 x8_2).f2.f0))) (fun _ hk => hk.2) (.int .i64 ((rd_T34 t180 x8_2).f2.f1))) (fun _ hk => trivial)⟩, ⟨by (with_reducible repeat (first | apply Kd.R_alloc | apply Kd.R_drewN | apply Kd.R_drew)); exact Kd.R_mono (Kd.R_far (p := ⟨gb190, 1, none⟩) (Kd.R_far (p := ⟨gb190, 0, none⟩) (Kd.R_types HO_6.out BK190.out (by decide)) (fun _ hk => hk.2) (.int .i64 ((rd_T34 t180 x8_2).f2.f0))) (fun _ hk => hk.2) (.int .i64 ((rd_T34 t180 x8_2).f2.f1))) (fun _ hk => trivial)⟩, ⟨by (with_reducible repeat (first | refine blk_drewN ?_ _ | refine blk_drew ?_ | refine blk_alloc ?_ _)); refine blk_put (cs := #[.int .i64 ((rd_T34 t180 x8_2).f2.f0), .int .i64 0]) ?_ 1 _ rfl; (with_reducible repeat (first | refine blk_drewN ?_ _ | refine blk_drew ?_ | refine blk_alloc ?_ _)); refine blk_put (cs := #[.int .i64 0, .int .i64 0]) ?_ 0 _ rfl; (with_reducible repeat (first | refine blk_drewN ?_ _ | refine blk_drew ?_ | refine blk_alloc ?_ _)); exact BK190.out⟩, ⟨by repeat (first | (with_reducible first | exact HB.out | apply below_alloc | apply pw_below_drewN | apply below_drew1 | refine below_set ?_ GE190.out) | exact HB.out)⟩⟩
                        · rw [if_neg c25] at H
                          have c25b0 : decide ((l0.length : Int) < ((rd_T34 t180 x8_2).f2.f1)) = false := decide_eq_false c25
                          clear c25
                          by_cases c27 : 0 ≤ ((rd_T34 t180 x8_2).f2.f0)
                          · rw [if_pos c27] at H
                            have c27b0 := eq_true c27
                            have c27b1 : decide (0 ≤ ((rd_T34 t180 x8_2).f2.f0)) = true := decide_eq_true c27
                            clear c27
                            by_cases c28 : ((rd_T34 t180 x8_2).f2.f0) ≤ ((rd_T34 t180 x8_2).f2.f1)
                            · rw [if_pos c28] at H
                              have c28b0 := eq_true c28
                              have c28b1 : decide (((rd_T34 t180 x8_2).f2.f0) ≤ ((rd_T34 t180 x8_2).f2.f1)) = true := decide_eq_true c28
                              clear c28
                              by_cases c29 : ((rd_T34 t180 x8_2).f2.f1) ≤ (l0.length : Int)
                              · rw [if_pos c29] at H
                                have c29b0 := eq_true c29
                                have c29b1 : decide (((rd_T34 t180 x8_2).f2.f1) ≤ (l0.length : Int)) = true := decide_eq_true c29
                                clear c29
                                by_cases c30 : (strOfNums ((l0.take (((rd_T34 t180 x8_2).f2.f1) : Int).toNat).drop (((rd_T34 t180 x8_2).f2.f0) : Int).toNat)).toList = ((rd_T34 t180 x8_2).f1).toList
                                · rw [if_pos c30] at H
                                  have c30b0 : ((strOfNums ((l0.take (((rd_T34 t180 x8_2).f2.f1) : Int).toNat).drop (((rd_T34 t180 x8_2).f2.f0) : Int).toNat)).toList == ((rd_T34 t180 x8_2).f1).toList) = true := beq_iff_eq.mpr c30
                                  have c30b1 : ((strOfNums ((l0.take (((rd_T34 t180 x8_2).f2.f1) : Int).toNat).drop (((rd_T34 t180 x8_2).f2.f0) : Int).toNat)).toList != ((rd_T34 t180 x8_2).f1).toList) = false := bne_eq_false_iff_eq.mpr c30
                                  clear c30
                                  have H' := Aside0.mk H
                                  clear H
                                  have hcz31_0 : w19.cell? ⟨gb190, 0, none⟩ = some (.int .i64 0) := (blk_cell BK190.out 0).trans rfl
                                  have hcz31_1 : w19.cell? ⟨gb190, 1, none⟩ = some (.int .i64 0) := (blk_cell BK190.out 1).trans rfl
                                  have hfz31_0 := blk_frozen BK190.out 0
                                  have hfz31_1 := blk_frozen BK190.out 1
                                  obtain ⟨i032, hi032, _, hsz32, _⟩ := info_parts info5
                                  obtain ⟨A32, hcut32, hA32, hC32⟩ := print_mid_of (P := Try.prog) (Value.int .u8) 0 22 5 .i64 .i64 Try.underlying22 hi032 hsz32 A0 c0 l0 ((rd_T34 t180 x8_2).f2.f0) ((rd_T34 t180 x8_2).f2.f1) (of_decide_eq_true (by first | (with_reducible assumption) | assumption)) (by first | omega | exact of_decide_eq_true (by first | (with_reducible assumption) | assumption)) (of_decide_eq_true (by first | (with_reducible assumption) | assumption)) HC0.out
                                  have HR191 := Aside0.mk (Kd.C_of_reads (h1 := fun _ => rfl) (hA32 _ (Kd.reads_of_C HR0.out)))
                                  have HC191 := Aside0.mk hC32
                                  clear hA32 hC32 hi032 hsz32
                                  have hcv33 := Kd.C_string (P := Try.prog) (A := A32) (c := (c0 - ((rd_T34 t180 x8_2).f2.f0).toNat)) Try.underlying22 Try.underlying5 Try.underlying9 (Kd.C_below HR191.out HB.out)
                                  (try (have hcvs33_ := hcv33; rw [(show ((l0.take (((rd_T34 t180 x8_2).f2.f1) : Int).toNat).drop (((rd_T34 t180 x8_2).f2.f0) : Int).toNat).length = (((rd_T34 t180 x8_2).f2.f1) : Int).toNat - (((rd_T34 t180 x8_2).f2.f0) : Int).toNat from by rw [List.length_drop, List.length_take, Nat.min_eq_left (by have h_ : ((rd_T34 t180 x8_2).f2.f1) ≤ (l0.length : Int) := (by first | (with_reducible assumption) | assumption | omega | exact of_decide_eq_true (by first | (with_reducible assumption) | assumption)); omega)])] at hcvs33_))
                                  (try (have hcvd33_ := fun m_ : Nat => Kd.C_string (P := Try.prog) (A := A32) (c := (c0 - ((rd_T34 t180 x8_2).f2.f0).toNat)) Try.underlying22 Try.underlying5 Try.underlying9 (Kd.C_below (Kd.C_below HR191.out HB.out) (pw_below_drewN (Below.refl _ _) m_)); rw [(show ((l0.take (((rd_T34 t180 x8_2).f2.f1) : Int).toNat).drop (((rd_T34 t180 x8_2).f2.f0) : Int).toNat).length = (((rd_T34 t180 x8_2).f2.f1) : Int).toNat - (((rd_T34 t180 x8_2).f2.f0) : Int).toNat from by rw [List.length_drop, List.length_take, Nat.min_eq_left (by have h_ : ((rd_T34 t180 x8_2).f2.f1) ≤ (l0.length : Int) := (by first | (with_reducible assumption) | assumption | omega | exact of_decide_eq_true (by first | (with_reducible assumption) | assumption)); omega)])] at hcvd33_))
                                  (try (have hcve33_ := fun n_ : Nat => Kd.C_string (P := Try.prog) (A := A32) (c := (c0 - ((rd_T34 t180 x8_2).f2.f0).toNat)) Try.underlying22 Try.underlying5 Try.underlying9 (Kd.C_below HR191.out (show Below w.heap.size w (((w19.setCell ⟨gb190, 0, none⟩ (.int .i64 ((rd_T34 t180 x8_2).f2.f0))).setCell ⟨gb190, 1, none⟩ (.int .i64 ((rd_T34 t180 x8_2).f2.f1))).drewN n_) from by repeat (first | (with_reducible first | exact HB.out | apply below_alloc | apply pw_below_drewN | apply below_drew1 | refine below_set ?_ GE190.out) | exact HB.out))); rw [(show ((l0.take (((rd_T34 t180 x8_2).f2.f1) : Int).toNat).drop (((rd_T34 t180 x8_2).f2.f0) : Int).toNat).length = (((rd_T34 t180 x8_2).f2.f1) : Int).toNat - (((rd_T34 t180 x8_2).f2.f0) : Int).toNat from by rw [List.length_drop, List.length_take, Nat.min_eq_left (by have h_ : ((rd_T34 t180 x8_2).f2.f1) ≤ (l0.length : Int) := (by first | (with_reducible assumption) | assumption | omega | exact of_decide_eq_true (by first | (with_reducible assumption) | assumption)); omega)])] at hcve33_))
                                  have p192 : 0 ≤ (x8_2 : Int) := of_decide_eq_true (by first | (with_reducible assumption) | assumption)
                                  have q192 : x8_2 < (t180.length : Int) := of_decide_eq_true (by first | (with_reducible assumption) | assumption)
                                  obtain ⟨ad192, e192, hx192_0, hx192_1, hx192_2, hx192_3⟩ := at_T34 (Kd.R_reads' HO_3.out).2.2 x8_2 p192 q192
                                  obtain rfl : ad189 = ad192 := (by injection e192)
                                  have hn192_0 : ad189.block ≠ gb190 := Kd.own_blk (Kd.R_ne HO_3.out BK190.out (by decide))
                                  have hn192_1 : ad189.block ≠ gb190 := Kd.own_blk (Kd.R_ne HO_3.out BK190.out (by decide))
                                  replace hx192_0 := (cell_far (p := ⟨gb190, 0, none⟩) (by first | (rw [add_block]; exact hn192_0) | (show (Addr.add _ _).block ≠ _; rw [add_block]; exact hn192_0) | exact hn192_0) (.int .i64 ((rd_T34 t180 x8_2).f2.f0))).trans hx192_0
                                  replace hx192_1 := (cell_far (p := ⟨gb190, 0, none⟩) (by first | (rw [add_block]; exact hn192_0) | (show (Addr.add _ _).block ≠ _; rw [add_block]; exact hn192_0) | exact hn192_0) (.int .i64 ((rd_T34 t180 x8_2).f2.f0))).trans hx192_1
                                  replace hx192_2 := (cell_far (p := ⟨gb190, 0, none⟩) (by first | (rw [add_block]; exact hn192_0) | (show (Addr.add _ _).block ≠ _; rw [add_block]; exact hn192_0) | exact hn192_0) (.int .i64 ((rd_T34 t180 x8_2).f2.f0))).trans hx192_2
                                  replace hx192_3 := (cell_far (p := ⟨gb190, 0, none⟩) (by first | (rw [add_block]; exact hn192_0) | (show (Addr.add _ _).block ≠ _; rw [add_block]; exact hn192_0) | exact hn192_0) (.int .i64 ((rd_T34 t180 x8_2).f2.f0))).trans hx192_3
                                  replace hx192_0 := (cell_far (p := ⟨gb190, 1, none⟩) (by first | (rw [add_block]; exact hn192_1) | (show (Addr.add _ _).block ≠ _; rw [add_block]; exact hn192_1) | exact hn192_1) (.int .i64 ((rd_T34 t180 x8_2).f2.f1))).trans hx192_0
                                  replace hx192_1 := (cell_far (p := ⟨gb190, 1, none⟩) (by first | (rw [add_block]; exact hn192_1) | (show (Addr.add _ _).block ≠ _; rw [add_block]; exact hn192_1) | exact hn192_1) (.int .i64 ((rd_T34 t180 x8_2).f2.f1))).trans hx192_1
                                  replace hx192_2 := (cell_far (p := ⟨gb190, 1, none⟩) (by first | (rw [add_block]; exact hn192_1) | (show (Addr.add _ _).block ≠ _; rw [add_block]; exact hn192_1) | exact hn192_1) (.int .i64 ((rd_T34 t180 x8_2).f2.f1))).trans hx192_2
                                  replace hx192_3 := (cell_far (p := ⟨gb190, 1, none⟩) (by first | (rw [add_block]; exact hn192_1) | (show (Addr.add _ _).block ≠ _; rw [add_block]; exact hn192_1) | exact hn192_1) (.int .i64 ((rd_T34 t180 x8_2).f2.f1))).trans hx192_3
                                  (try have hy192_0 := fun (n_ : Nat) => (show ((((w19.drewN n_).setCell ⟨gb190, 0, none⟩ (.int .i64 ((rd_T34 t180 x8_2).f2.f0))).setCell ⟨gb190, 1, none⟩ (.int .i64 ((rd_T34 t180 x8_2).f2.f1)))).cell? _ = some _ from hx192_0))
                                  (try have hy192_1 := fun (n_ : Nat) => (show ((((w19.drewN n_).setCell ⟨gb190, 0, none⟩ (.int .i64 ((rd_T34 t180 x8_2).f2.f0))).setCell ⟨gb190, 1, none⟩ (.int .i64 ((rd_T34 t180 x8_2).f2.f1)))).cell? _ = some _ from hx192_1))
                                  (try have hy192_2 := fun (n_ : Nat) => (show ((((w19.drewN n_).setCell ⟨gb190, 0, none⟩ (.int .i64 ((rd_T34 t180 x8_2).f2.f0))).setCell ⟨gb190, 1, none⟩ (.int .i64 ((rd_T34 t180 x8_2).f2.f1)))).cell? _ = some _ from hx192_2))
                                  (try have hy192_3 := fun (n_ : Nat) => (show ((((w19.drewN n_).setCell ⟨gb190, 0, none⟩ (.int .i64 ((rd_T34 t180 x8_2).f2.f0))).setCell ⟨gb190, 1, none⟩ (.int .i64 ((rd_T34 t180 x8_2).f2.f1)))).cell? _ = some _ from hx192_3))
                                  clear hn192_0
                                  clear hn192_1
                                  replace p192 := eq_true p192
                                  replace q192 := eq_true q192
                                  go_wp2
                                  repeat (go_quiet (fail); try go_wp2)
                                  go_meet
                                  case rel => exact ⟨_, (((((rd_T34 t180 x8_2).f2.f0) == ((rd_T34 t180 x8_2).f2.f1)) != (x8_2 == (wrap64 ((t180.length : Int) - 1))))), (by first | rfl | (simp; done) | (simp [*]; done)), H', ⟨by have := HJ1.out; have := HK2.out; first | omega | exact Nat.le_refl _⟩, ⟨by (with_reducible repeat (first | apply Kd.R_alloc | apply Kd.R_drewN | apply Kd.R_drew)); exact Kd.R_mono (Kd.R_far (p := ⟨gb190, 1, none⟩) (Kd.R_far (p := ⟨gb190, 0, none⟩) (Kd.R_types HO_3.out BK190.out (by decide)) (fun _ hk => hk.2) (.int .i64 ((rd_T34 t180 x8_2).f2.f0))) (fun _ hk => hk.2) (.int .i64 ((rd_T34 t180 x8_2).f2.f1))) (fun _ hk => trivial)⟩, ⟨by (with_reducible repeat (first | apply Kd.R_alloc | apply Kd.R_drewN | apply Kd.R_drew)); exact Kd.R_mono (Kd.R_far (p := ⟨gb190, 1, none⟩) (Kd.R_far (p := ⟨gb190, 0, none⟩) (Kd.R_types HO_6.out BK190.out (by decide)) (fun _ hk => hk.2) (.int .i64 ((rd_T34 t180 x8_2).f2.f0))) (fun _ hk => hk.2) (.int .i64 ((rd_T34 t180 x8_2).f2.f1))) (fun _ hk => trivial)⟩, ⟨by (with_reducible repeat (first | refine blk_drewN ?_ _ | refine blk_drew ?_ | refine blk_alloc ?_ _)); refine blk_put (cs := #[.int .i64 ((rd_T34 t180 x8_2).f2.f0), .int .i64 0]) ?_ 1 _ rfl; (with_reducible repeat (first | refine blk_drewN ?_ _ | refine blk_drew ?_ | refine blk_alloc ?_ _)); refine blk_put (cs := #[.int .i64 0, .int .i64 0]) ?_ 0 _ rfl; (with_reducible repeat (first | refine blk_drewN ?_ _ | refine blk_drew ?_ | refine blk_alloc ?_ _)); exact BK190.out⟩, ⟨by repeat (first | (with_reducible first | exact HB.out | apply below_alloc | apply pw_below_drewN | apply below_drew1 | refine below_set ?_ GE190.out) | exact HB.out)⟩⟩
                                · rw [if_neg c30] at H
                                  have c30b0 : ((strOfNums ((l0.take (((rd_T34 t180 x8_2).f2.f1) : Int).toNat).drop (((rd_T34 t180 x8_2).f2.f0) : Int).toNat)).toList == ((rd_T34 t180 x8_2).f1).toList) = false := beq_eq_false_iff_ne.mpr c30
                                  have c30b1 : ((strOfNums ((l0.take (((rd_T34 t180 x8_2).f2.f1) : Int).toNat).drop (((rd_T34 t180 x8_2).f2.f0) : Int).toNat)).toList != ((rd_T34 t180 x8_2).f1).toList) = true := bne_iff_ne.mpr c30
                                  have H' := Aside0.mk H
                                  clear H
                                  have hcz34_0 : w19.cell? ⟨gb190, 0, none⟩ = some (.int .i64 0) := (blk_cell BK190.out 0).trans rfl
                                  have hcz34_1 : w19.cell? ⟨gb190, 1, none⟩ = some (.int .i64 0) := (blk_cell BK190.out 1).trans rfl
                                  have hfz34_0 := blk_frozen BK190.out 0
                                  have hfz34_1 := blk_frozen BK190.out 1
                                  obtain ⟨i035, hi035, _, hsz35, _⟩ := info_parts info5
                                  obtain ⟨A35, hcut35, hA35, hC35⟩ := print_mid_of (P := Try.prog) (Value.int .u8) 0 22 5 .i64 .i64 Try.underlying22 hi035 hsz35 A0 c0 l0 ((rd_T34 t180 x8_2).f2.f0) ((rd_T34 t180 x8_2).f2.f1) (of_decide_eq_true (by first | (with_reducible assumption) | assumption)) (by first | omega | exact of_decide_eq_true (by first | (with_reducible assumption) | assumption)) (of_decide_eq_true (by first | (with_reducible assumption) | assumption)) HC0.out
                                  have HR191 := Aside0.mk (Kd.C_of_reads (h1 := fun _ => rfl) (hA35 _ (Kd.reads_of_C HR0.out)))
                                  have HC191 := Aside0.mk hC35
                                  clear hA35 hC35 hi035 hsz35
                                  have hcv36 := Kd.C_string (P := Try.prog) (A := A35) (c := (c0 - ((rd_T34 t180 x8_2).f2.f0).toNat)) Try.underlying22 Try.underlying5 Try.underlying9 (Kd.C_below HR191.out HB.out)
                                  (try (have hcvs36_ := hcv36; rw [(show ((l0.take (((rd_T34 t180 x8_2).f2.f1) : Int).toNat).drop (((rd_T34 t180 x8_2).f2.f0) : Int).toNat).length = (((rd_T34 t180 x8_2).f2.f1) : Int).toNat - (((rd_T34 t180 x8_2).f2.f0) : Int).toNat from by rw [List.length_drop, List.length_take, Nat.min_eq_left (by have h_ : ((rd_T34 t180 x8_2).f2.f1) ≤ (l0.length : Int) := (by first | (with_reducible assumption) | assumption | omega | exact of_decide_eq_true (by first | (with_reducible assumption) | assumption)); omega)])] at hcvs36_))
                                  (try (have hcvd36_ := fun m_ : Nat => Kd.C_string (P := Try.prog) (A := A35) (c := (c0 - ((rd_T34 t180 x8_2).f2.f0).toNat)) Try.underlying22 Try.underlying5 Try.underlying9 (Kd.C_below (Kd.C_below HR191.out HB.out) (pw_below_drewN (Below.refl _ _) m_)); rw [(show ((l0.take (((rd_T34 t180 x8_2).f2.f1) : Int).toNat).drop (((rd_T34 t180 x8_2).f2.f0) : Int).toNat).length = (((rd_T34 t180 x8_2).f2.f1) : Int).toNat - (((rd_T34 t180 x8_2).f2.f0) : Int).toNat from by rw [List.length_drop, List.length_take, Nat.min_eq_left (by have h_ : ((rd_T34 t180 x8_2).f2.f1) ≤ (l0.length : Int) := (by first | (with_reducible assumption) | assumption | omega | exact of_decide_eq_true (by first | (with_reducible assumption) | assumption)); omega)])] at hcvd36_))
                                  (try (have hcve36_ := fun n_ : Nat => Kd.C_string (P := Try.prog) (A := A35) (c := (c0 - ((rd_T34 t180 x8_2).f2.f0).toNat)) Try.underlying22 Try.underlying5 Try.underlying9 (Kd.C_below HR191.out (show Below w.heap.size w (((w19.setCell ⟨gb190, 0, none⟩ (.int .i64 ((rd_T34 t180 x8_2).f2.f0))).setCell ⟨gb190, 1, none⟩ (.int .i64 ((rd_T34 t180 x8_2).f2.f1))).drewN n_) from by repeat (first | (with_reducible first | exact HB.out | apply below_alloc | apply pw_below_drewN | apply below_drew1 | refine below_set ?_ GE190.out) | exact HB.out))); rw [(show ((l0.take (((rd_T34 t180 x8_2).f2.f1) : Int).toNat).drop (((rd_T34 t180 x8_2).f2.f0) : Int).toNat).length = (((rd_T34 t180 x8_2).f2.f1) : Int).toNat - (((rd_T34 t180 x8_2).f2.f0) : Int).toNat from by rw [List.length_drop, List.length_take, Nat.min_eq_left (by have h_ : ((rd_T34 t180 x8_2).f2.f1) ≤ (l0.length : Int) := (by first | (with_reducible assumption) | assumption | omega | exact of_decide_eq_true (by first | (with_reducible assumption) | assumption)); omega)])] at hcve36_))
                                  have p192 : 0 ≤ (x8_2 : Int) := of_decide_eq_true (by first | (with_reducible assumption) | assumption)
                                  have q192 : x8_2 < (t180.length : Int) := of_decide_eq_true (by first | (with_reducible assumption) | assumption)
                                  obtain ⟨ad192, e192, hx192_0, hx192_1, hx192_2, hx192_3⟩ := at_T34 (Kd.R_reads' HO_3.out).2.2 x8_2 p192 q192
                                  obtain rfl : ad189 = ad192 := (by injection e192)
                                  have hn192_0 : ad189.block ≠ gb190 := Kd.own_blk (Kd.R_ne HO_3.out BK190.out (by decide))
                                  have hn192_1 : ad189.block ≠ gb190 := Kd.own_blk (Kd.R_ne HO_3.out BK190.out (by decide))
                                  replace hx192_0 := (cell_far (p := ⟨gb190, 0, none⟩) (by first | (rw [add_block]; exact hn192_0) | (show (Addr.add _ _).block ≠ _; rw [add_block]; exact hn192_0) | exact hn192_0) (.int .i64 ((rd_T34 t180 x8_2).f2.f0))).trans hx192_0
                                  replace hx192_1 := (cell_far (p := ⟨gb190, 0, none⟩) (by first | (rw [add_block]; exact hn192_0) | (show (Addr.add _ _).block ≠ _; rw [add_block]; exact hn192_0) | exact hn192_0) (.int .i64 ((rd_T34 t180 x8_2).f2.f0))).trans hx192_1
                                  replace hx192_2 := (cell_far (p := ⟨gb190, 0, none⟩) (by first | (rw [add_block]; exact hn192_0) | (show (Addr.add _ _).block ≠ _; rw [add_block]; exact hn192_0) | exact hn192_0) (.int .i64 ((rd_T34 t180 x8_2).f2.f0))).trans hx192_2
                                  replace hx192_3 := (cell_far (p := ⟨gb190, 0, none⟩) (by first | (rw [add_block]; exact hn192_0) | (show (Addr.add _ _).block ≠ _; rw [add_block]; exact hn192_0) | exact hn192_0) (.int .i64 ((rd_T34 t180 x8_2).f2.f0))).trans hx192_3
                                  replace hx192_0 := (cell_far (p := ⟨gb190, 1, none⟩) (by first | (rw [add_block]; exact hn192_1) | (show (Addr.add _ _).block ≠ _; rw [add_block]; exact hn192_1) | exact hn192_1) (.int .i64 ((rd_T34 t180 x8_2).f2.f1))).trans hx192_0
                                  replace hx192_1 := (cell_far (p := ⟨gb190, 1, none⟩) (by first | (rw [add_block]; exact hn192_1) | (show (Addr.add _ _).block ≠ _; rw [add_block]; exact hn192_1) | exact hn192_1) (.int .i64 ((rd_T34 t180 x8_2).f2.f1))).trans hx192_1
                                  replace hx192_2 := (cell_far (p := ⟨gb190, 1, none⟩) (by first | (rw [add_block]; exact hn192_1) | (show (Addr.add _ _).block ≠ _; rw [add_block]; exact hn192_1) | exact hn192_1) (.int .i64 ((rd_T34 t180 x8_2).f2.f1))).trans hx192_2
                                  replace hx192_3 := (cell_far (p := ⟨gb190, 1, none⟩) (by first | (rw [add_block]; exact hn192_1) | (show (Addr.add _ _).block ≠ _; rw [add_block]; exact hn192_1) | exact hn192_1) (.int .i64 ((rd_T34 t180 x8_2).f2.f1))).trans hx192_3
                                  (try have hy192_0 := fun (n_ : Nat) => (show ((((w19.drewN n_).setCell ⟨gb190, 0, none⟩ (.int .i64 ((rd_T34 t180 x8_2).f2.f0))).setCell ⟨gb190, 1, none⟩ (.int .i64 ((rd_T34 t180 x8_2).f2.f1)))).cell? _ = some _ from hx192_0))
                                  (try have hy192_1 := fun (n_ : Nat) => (show ((((w19.drewN n_).setCell ⟨gb190, 0, none⟩ (.int .i64 ((rd_T34 t180 x8_2).f2.f0))).setCell ⟨gb190, 1, none⟩ (.int .i64 ((rd_T34 t180 x8_2).f2.f1)))).cell? _ = some _ from hx192_1))
                                  (try have hy192_2 := fun (n_ : Nat) => (show ((((w19.drewN n_).setCell ⟨gb190, 0, none⟩ (.int .i64 ((rd_T34 t180 x8_2).f2.f0))).setCell ⟨gb190, 1, none⟩ (.int .i64 ((rd_T34 t180 x8_2).f2.f1)))).cell? _ = some _ from hx192_2))
                                  (try have hy192_3 := fun (n_ : Nat) => (show ((((w19.drewN n_).setCell ⟨gb190, 0, none⟩ (.int .i64 ((rd_T34 t180 x8_2).f2.f0))).setCell ⟨gb190, 1, none⟩ (.int .i64 ((rd_T34 t180 x8_2).f2.f1)))).cell? _ = some _ from hx192_3))
                                  clear hn192_0
                                  clear hn192_1
                                  replace p192 := eq_true p192
                                  replace q192 := eq_true q192
                                  go_wp2
                                  repeat (go_quiet (fail); try go_wp2)
                                  go_meet
                                  case rel => exact ⟨_, (true), (by first | rfl | (simp; done) | (simp [*]; done)), H', ⟨by have := HJ1.out; have := HK2.out; first | omega | exact Nat.le_refl _⟩, ⟨by (with_reducible repeat (first | apply Kd.R_alloc | apply Kd.R_drewN | apply Kd.R_drew)); exact Kd.R_mono (Kd.R_far (p := ⟨gb190, 1, none⟩) (Kd.R_far (p := ⟨gb190, 0, none⟩) (Kd.R_types HO_3.out BK190.out (by decide)) (fun _ hk => hk.2) (.int .i64 ((rd_T34 t180 x8_2).f2.f0))) (fun _ hk => hk.2) (.int .i64 ((rd_T34 t180 x8_2).f2.f1))) (fun _ hk => trivial)⟩, ⟨by (with_reducible repeat (first | apply Kd.R_alloc | apply Kd.R_drewN | apply Kd.R_drew)); exact Kd.R_mono (Kd.R_far (p := ⟨gb190, 1, none⟩) (Kd.R_far (p := ⟨gb190, 0, none⟩) (Kd.R_types HO_6.out BK190.out (by decide)) (fun _ hk => hk.2) (.int .i64 ((rd_T34 t180 x8_2).f2.f0))) (fun _ hk => hk.2) (.int .i64 ((rd_T34 t180 x8_2).f2.f1))) (fun _ hk => trivial)⟩, ⟨by (with_reducible repeat (first | refine blk_drewN ?_ _ | refine blk_drew ?_ | refine blk_alloc ?_ _)); refine blk_put (cs := #[.int .i64 ((rd_T34 t180 x8_2).f2.f0), .int .i64 0]) ?_ 1 _ rfl; (with_reducible repeat (first | refine blk_drewN ?_ _ | refine blk_drew ?_ | refine blk_alloc ?_ _)); refine blk_put (cs := #[.int .i64 0, .int .i64 0]) ?_ 0 _ rfl; (with_reducible repeat (first | refine blk_drewN ?_ _ | refine blk_drew ?_ | refine blk_alloc ?_ _)); exact BK190.out⟩, ⟨by repeat (first | (with_reducible first | exact HB.out | apply below_alloc | apply pw_below_drewN | apply below_drew1 | refine below_set ?_ GE190.out) | exact HB.out)⟩⟩
                              · rw [if_neg c29] at H
                                exact absurd H (by simp)
                            · rw [if_neg c28] at H
                              exact absurd H (by simp)
                          · rw [if_neg c27] at H
                            exact absurd H (by simp)
                  case rest =>
                    clear HC17
                    try clear c1
                    try clear p1
                    try clear q1
                    try clear hx1
                    try clear c2
                    try clear p2
                    try clear c3
                    try clear hcv3
                    try clear c4
                    try clear p6
                    try clear c7
                    try clear c11
                    try clear c11b0
                    try clear c11b1
                    try clear c15
                    try clear c15b0
                    try clear c16
                    try clear c16b0
                    try clear p18
                    try clear q18
                    try clear hx18
                    try clear p19
                    try clear q19
                    try clear hx19
                    try clear c21
                    try clear c21b0
                    try clear c23
                    try clear c23b0
                    try clear c25
                    try clear c25b0
                    try clear c27
                    try clear c27b0
                    try clear c27b1
                    try clear c28
                    try clear c28b0
                    try clear c28b1
                    try clear c29
                    try clear c29b0
                    try clear c29b1
                    try clear c30
                    try clear c30b0
                    try clear c30b1
                    try clear hcv33
                    try clear hcv36
                    try clear hcz20_0
                    try clear hcz20_1
                    try clear hcz22_0
                    try clear hcz22_1
                    try clear hcz24_0
                    try clear hcz24_1
                    try clear hcz26_0
                    try clear hcz26_1
                    try clear hcz31_0
                    try clear hcz31_1
                    try clear hcz34_0
                    try clear hcz34_1
                    try clear hfz20_0
                    try clear hfz20_1
                    try clear hfz22_0
                    try clear hfz22_1
                    try clear hfz24_0
                    try clear hfz24_1
                    try clear hfz26_0
                    try clear hfz26_1
                    try clear hfz31_0
                    try clear hfz31_1
                    try clear hfz34_0
                    try clear hfz34_1
                    try clear hx189_0
                    try clear hx189_1
                    try clear hx189_2
                    try clear hx189_3
                    try clear hx192_0
                    try clear hx192_1
                    try clear hx192_2
                    try clear hx192_3
                    try clear p189
                    try clear p192
                    try clear p2
                    try clear q189
                    try clear q192
                    obtain ⟨kq, x98_16, rfl, HA, HJ16, HO_3, HO_6, BK190, HB⟩ := hcut
                    cases kq with
                    | zero => exact absurd HA.out (by simp [whetstonelaw08_LexCovers.j2])
                    | succ kj16 =>
                      have H := HA.out
                      clear HA
                      simp only [whetstonelaw08_LexCovers.j2] at H
                      by_cases c37 : x98_16 = true
                      · subst c37
                        have H1 : (some false) = some r := by rw [if_pos rfl] at H; exact H
                        clear H
                        have H := H1
                        clear H1
                        obtain rfl := Option.some.inj H
                        go_wp2
                        repeat (go_quiet (fail); try go_wp2)
                        go_ret
                        exact ⟨by first | rfl | (simp [errW_none, errW_some] <;> rfl) | (simp [*, errW_none, errW_some] <;> rfl), by repeat (first | (with_reducible first | exact HB.out | apply below_alloc | apply pw_below_drewN | apply below_drew1 | refine below_set ?_ GE190.out) | exact HB.out)⟩
                      · replace c37 := Bool.eq_false_iff.mpr c37
                        subst c37
                        have H1 : (whetstonelaw08_LexCovers.l1 kj16 l0 t180 t185 x8_2 x7_2 ((rd_T34 t180 x8_2).f2.f0) ((rd_T34 t180 x8_2).f2.f1)) = some r := by rw [if_neg (show ¬ (false = true) by decide)] at H; exact H
                        clear H
                        have H := H1
                        clear H1
                        have H' := Aside0.mk H
                        clear H
                        go_wp2
                        repeat (go_quiet (fail); try go_wp2)
                        go_loopg [10] kj16 (fun kq v10 w' => ∃ (x10_4 : Int), v10 = .int .i64 x10_4 ∧ Aside0 (whetstonelaw08_LexCovers.l1 kq l0 t180 t185 x8_2 x10_4 ((rd_T34 t180 x8_2).f2.f0) ((rd_T34 t180 x8_2).f2.f1) = some r) ∧ Aside0 (kq ≤ kj16) ∧ Aside0 (Kd.R k34 34 w' w.heap.size (fun _ => True) (.slice (some ad189) t180.length co18) t180) ∧ Aside0 (Kd.R (Kd.int .i64) 3 w' w.heap.size (fun _ => True) v186 t185) ∧ Aside0 (w'.heap[gb190]? = some (.cells #[.int .i64 ((rd_T34 t180 x8_2).f2.f0), .int .i64 ((rd_T34 t180 x8_2).f2.f1)] 32 (0, 0))) ∧ Aside0 (Below w.heap.size w w'))
                        case atStart => exact ⟨(x7_2), (by first | rfl | (simp; done) | (simp [*]; done)), H', ⟨Nat.le_refl _⟩, ⟨by (with_reducible repeat (first | apply Kd.R_alloc | apply Kd.R_drewN | apply Kd.R_drew)); exact HO_3.out⟩, ⟨by (with_reducible repeat (first | apply Kd.R_alloc | apply Kd.R_drewN | apply Kd.R_drew)); exact HO_6.out⟩, ⟨by (with_reducible repeat (first | refine blk_drewN ?_ _ | refine blk_drew ?_ | refine blk_alloc ?_ _)); exact BK190.out⟩, ⟨by repeat (first | (with_reducible first | exact HB.out | apply below_alloc | apply pw_below_drewN | apply below_drew1 | refine below_set ?_ GE190.out) | exact HB.out)⟩⟩
                        case round =>
                          clear H'
                          try clear c1
                          try clear p1
                          try clear q1
                          try clear hx1
                          try clear c2
                          try clear p2
                          try clear c3
                          try clear hcv3
                          try clear c4
                          try clear p6
                          try clear c7
                          try clear c11
                          try clear c11b0
                          try clear c11b1
                          try clear c15
                          try clear c15b0
                          try clear c16
                          try clear c16b0
                          try clear p18
                          try clear q18
                          try clear hx18
                          try clear p19
                          try clear q19
                          try clear hx19
                          try clear c21
                          try clear c21b0
                          try clear c23
                          try clear c23b0
                          try clear c25
                          try clear c25b0
                          try clear c27
                          try clear c27b0
                          try clear c27b1
                          try clear c28
                          try clear c28b0
                          try clear c28b1
                          try clear c29
                          try clear c29b0
                          try clear c29b1
                          try clear c30
                          try clear c30b0
                          try clear c30b1
                          try clear hcv33
                          try clear hcv36
                          try clear c37
                          try clear hcz20_0
                          try clear hcz20_1
                          try clear hcz22_0
                          try clear hcz22_1
                          try clear hcz24_0
                          try clear hcz24_1
                          try clear hcz26_0
                          try clear hcz26_1
                          try clear hcz31_0
                          try clear hcz31_1
                          try clear hcz34_0
                          try clear hcz34_1
                          try clear hfz20_0
                          try clear hfz20_1
                          try clear hfz22_0
                          try clear hfz22_1
                          try clear hfz24_0
                          try clear hfz24_1
                          try clear hfz26_0
                          try clear hfz26_1
                          try clear hfz31_0
                          try clear hfz31_1
                          try clear hfz34_0
                          try clear hfz34_1
                          try clear hx189_0
                          try clear hx189_1
                          try clear hx189_2
                          try clear hx189_3
                          try clear hx192_0
                          try clear hx192_1
                          try clear hx192_2
                          try clear hx192_3
                          try clear p1
                          try clear p18
                          try clear p189
                          try clear p19
                          try clear p192
                          try clear p2
                          try clear p6
                          try clear q1
                          try clear q18
                          try clear q189
                          try clear q19
                          try clear q192
                          obtain ⟨x10_4, rfl, HA, HK4, HO_3, HO_6, BK190, HB⟩ := hrel
                          cases gk with
                          | zero => exact absurd HA.out (by simp [whetstonelaw08_LexCovers.l1])
                          | succ k4 =>
                            have H := HA.out
                            clear HA
                            simp only [whetstonelaw08_LexCovers.l1] at H
                            by_cases c38 : x10_4 < ((rd_T34 t180 x8_2).f2.f0)
                            · rw [if_pos c38] at H
                              have c38b0 : decide (x10_4 < ((rd_T34 t180 x8_2).f2.f0)) = true := decide_eq_true c38
                              clear c38
                              by_cases c39 : 0 ≤ x10_4
                              · rw [if_pos c39] at H
                                have c39b0 : decide (0 ≤ x10_4) = true := decide_eq_true c39
                                clear c39
                                by_cases c40 : x10_4 < (t185.length : Int)
                                · rw [if_pos c40] at H
                                  have c40b0 : decide (x10_4 < (t185.length : Int)) = true := decide_eq_true c40
                                  clear c40
                                  by_cases c41 : (rd t185 x10_4) = 0
                                  · rw [if_pos c41] at H
                                    have c41b0 : ((rd t185 x10_4) == 0) = true := beq_iff_eq.mpr c41
                                    have c41b1 : ((rd t185 x10_4) != 0) = false := bne_eq_false_iff_eq.mpr c41
                                    clear c41
                                    obtain rfl := Option.some.inj H
                                    have hcz42_0 : wr.cell? ⟨gb190, 0, none⟩ = some (.int .i64 ((rd_T34 t180 x8_2).f2.f0)) := (blk_cell BK190.out 0).trans rfl
                                    have hcz42_1 : wr.cell? ⟨gb190, 1, none⟩ = some (.int .i64 ((rd_T34 t180 x8_2).f2.f1)) := (blk_cell BK190.out 1).trans rfl
                                    have hfz42_0 := blk_frozen BK190.out 0
                                    have hfz42_1 := blk_frozen BK190.out 1
                                    obtain ⟨Ao43, co43, eo43⟩ := Kd.R_slice HO_6.out
                                    subst eo43
                                    have p193 : 0 ≤ (x10_4 : Int) := of_decide_eq_true (by first | (with_reducible assumption) | assumption)
                                    have q193 : x10_4 < (t185.length : Int) := of_decide_eq_true (by first | (with_reducible assumption) | assumption)
                                    obtain ⟨ad193, e193, hx193_0⟩ := Kd.at_int (Kd.R_reads' HO_6.out).2.2 x10_4 p193 q193
                                    cases e193
                                    replace p193 := eq_true p193
                                    replace q193 := eq_true q193
                                    go_wp2
                                    repeat (go_quiet (fail); try go_wp2)
                                    go_ret
                                    exact ⟨by first | rfl | (simp [errW_none, errW_some] <;> rfl) | (simp [*, errW_none, errW_some] <;> rfl), by repeat (first | (with_reducible first | exact HB.out | apply below_alloc | apply pw_below_drewN | apply below_drew1 | refine below_set ?_ GE190.out) | exact HB.out)⟩
                                  · rw [if_neg c41] at H
                                    have c41b0 : ((rd t185 x10_4) == 0) = false := beq_eq_false_iff_ne.mpr c41
                                    have c41b1 : ((rd t185 x10_4) != 0) = true := bne_iff_ne.mpr c41
                                    have H' := Aside0.mk H
                                    clear H
                                    have hcz44_0 : wr.cell? ⟨gb190, 0, none⟩ = some (.int .i64 ((rd_T34 t180 x8_2).f2.f0)) := (blk_cell BK190.out 0).trans rfl
                                    have hcz44_1 : wr.cell? ⟨gb190, 1, none⟩ = some (.int .i64 ((rd_T34 t180 x8_2).f2.f1)) := (blk_cell BK190.out 1).trans rfl
                                    have hfz44_0 := blk_frozen BK190.out 0
                                    have hfz44_1 := blk_frozen BK190.out 1
                                    obtain ⟨Ao45, co45, eo45⟩ := Kd.R_slice HO_6.out
                                    subst eo45
                                    have p193 : 0 ≤ (x10_4 : Int) := of_decide_eq_true (by first | (with_reducible assumption) | assumption)
                                    have q193 : x10_4 < (t185.length : Int) := of_decide_eq_true (by first | (with_reducible assumption) | assumption)
                                    obtain ⟨ad193, e193, hx193_0⟩ := Kd.at_int (Kd.R_reads' HO_6.out).2.2 x10_4 p193 q193
                                    cases e193
                                    replace p193 := eq_true p193
                                    replace q193 := eq_true q193
                                    go_wp2
                                    repeat (go_quiet (fail); try go_wp2)
                                    go_roundg k4
                                    case measure => have := HJ1.out; have := HK2.out; have := HJ16.out; have := HK4.out; omega
                                    case rel => exact ⟨(wrap64 (x10_4 + 1)), (by first | rfl | (simp; done) | (simp [*]; done)), H', ⟨by have := HJ1.out; have := HK2.out; have := HJ16.out; have := HK4.out; omega⟩, ⟨by (with_reducible repeat (first | apply Kd.R_alloc | apply Kd.R_drewN | apply Kd.R_drew)); exact HO_3.out⟩, ⟨by (with_reducible repeat (first | apply Kd.R_alloc | apply Kd.R_drewN | apply Kd.R_drew)); exact HO_6.out⟩, ⟨by (with_reducible repeat (first | refine blk_drewN ?_ _ | refine blk_drew ?_ | refine blk_alloc ?_ _)); exact BK190.out⟩, ⟨by repeat (first | (with_reducible first | exact HB.out | apply below_alloc | apply pw_below_drewN | apply below_drew1 | refine below_set ?_ GE190.out) | exact HB.out)⟩⟩
                                · rw [if_neg c40] at H
                                  exact absurd H (by simp)
                              · rw [if_neg c39] at H
                                exact absurd H (by simp)
                            · rw [if_neg c38] at H
                              have c38b0 : decide (x10_4 < ((rd_T34 t180 x8_2).f2.f0)) = false := decide_eq_false c38
                              clear c38
                              have H' := Aside0.mk H
                              clear H
                              have hcz46_0 : wr.cell? ⟨gb190, 0, none⟩ = some (.int .i64 ((rd_T34 t180 x8_2).f2.f0)) := (blk_cell BK190.out 0).trans rfl
                              have hcz46_1 : wr.cell? ⟨gb190, 1, none⟩ = some (.int .i64 ((rd_T34 t180 x8_2).f2.f1)) := (blk_cell BK190.out 1).trans rfl
                              have hfz46_0 := blk_frozen BK190.out 0
                              have hfz46_1 := blk_frozen BK190.out 1
                              go_wp2
                              repeat (go_quiet (fail); try go_wp2)
                              go_roundg k4
                              case measure => have := HJ1.out; have := HK2.out; have := HJ16.out; have := HK4.out; omega
                              case rel => exact ⟨(((rd_T34 t180 x8_2).f2.f1)), (wrap64 (x8_2 + 1)), (by first | rfl | (simp; done) | (simp [*]; done)), (by first | rfl | (simp; done) | (simp [*]; done)), H', ⟨by have := HJ1.out; have := HK2.out; have := HJ16.out; have := HK4.out; omega⟩, ⟨by (with_reducible repeat (first | apply Kd.R_alloc | apply Kd.R_drewN | apply Kd.R_drew)); exact HO_3.out⟩, ⟨by (with_reducible repeat (first | apply Kd.R_alloc | apply Kd.R_drewN | apply Kd.R_drew)); exact HO_6.out⟩, ⟨by repeat (first | (with_reducible first | exact HB.out | apply below_alloc | apply pw_below_drewN | apply below_drew1 | refine below_set ?_ GE190.out) | exact HB.out)⟩⟩
                · rw [if_neg c16] at H
                  exact absurd H (by simp)
              · rw [if_neg c15] at H
                have c15b0 : decide (x8_2 < (t180.length : Int)) = false := decide_eq_false c15
                clear c15
                by_cases c47 : x7_2 = (l0.length : Int)
                · rw [if_pos c47] at H
                  have c47b0 : (x7_2 == (l0.length : Int)) = true := beq_iff_eq.mpr c47
                  have c47b1 : (x7_2 != (l0.length : Int)) = false := bne_eq_false_iff_eq.mpr c47
                  clear c47
                  by_cases c48 : (t180.length : Int) > 0
                  · rw [if_pos c48] at H
                    have c48b0 : decide (0 < (t180.length : Int)) = true := decide_eq_true c48
                    have c48b1 : decide (0 < t180.length) = true := decide_eq_true (by omega)
                    clear c48
                    obtain ⟨ji49, hji49⟩ : ∃ j_ : Int, (wrap64 ((t180.length : Int) - 1)) = j_ := ⟨_, rfl⟩
                    replace H : (if 0 ≤ (ji49) then (if (ji49) < (t180.length : Int) then (some (((rd_T34 t180 (ji49)).f0) == 0)) else (none)) else (none)) = some r := by first | (rw [hji49] at H; exact H) | (simp only [hji49] at H ⊢; exact H)
                    have hji49w : (IntKind.i64.wrap ((t180.length : Int) - 1)) = ji49 := (i64_w _).trans hji49
                    by_cases c50 : 0 ≤ (ji49)
                    · rw [if_pos c50] at H
                      have c50b0 : decide (0 ≤ (ji49)) = true := decide_eq_true c50
                      clear c50
                      by_cases c51 : (ji49) < (t180.length : Int)
                      · rw [if_pos c51] at H
                        have c51b0 : decide ((ji49) < (t180.length : Int)) = true := decide_eq_true c51
                        clear c51
                        obtain rfl := Option.some.inj H
                        obtain ⟨Ao52, co52, eo52⟩ := Kd.R_slice HO_3.out
                        subst eo52
                        have p188 : 0 ≤ ((ji49) : Int) := of_decide_eq_true (by first | (with_reducible assumption) | assumption)
                        have q188 : (ji49) < (t180.length : Int) := of_decide_eq_true (by first | (with_reducible assumption) | assumption)
                        obtain ⟨ad188, e188, hx188_0, hx188_1, hx188_2, hx188_3⟩ := at_T34 (Kd.R_reads' HO_3.out).2.2 (ji49) p188 q188
                        cases e188
                        replace p188 := eq_true p188
                        replace q188 := eq_true q188
                        go_wp2
                        repeat (go_quiet (fail); try go_wp2)
                        go_ret
                        exact ⟨by first | rfl | (simp [errW_none, errW_some] <;> rfl) | (simp only [← hji49]; first | rfl | (simp [errW_none, errW_some] <;> rfl)) | (simp [*, errW_none, errW_some] <;> rfl), by repeat (first | (with_reducible first | exact HB.out | apply below_alloc | apply pw_below_drewN | apply below_drew1) | exact HB.out)⟩
                      · rw [if_neg c51] at H
                        exact absurd H (by simp)
                    · rw [if_neg c50] at H
                      exact absurd H (by simp)
                  · rw [if_neg c48] at H
                    have c48b0 : decide (0 < (t180.length : Int)) = false := decide_eq_false c48
                    have c48b1 : decide (0 < t180.length) = false := decide_eq_false (by omega)
                    clear c48
                    obtain rfl := Option.some.inj H
                    obtain ⟨Ao53, co53, eo53⟩ := Kd.R_slice HO_3.out
                    subst eo53
                    go_wp2
                    repeat (go_quiet (fail); try go_wp2)
                    go_ret
                    exact ⟨by first | rfl | (simp [errW_none, errW_some] <;> rfl) | (simp [*, errW_none, errW_some] <;> rfl), by repeat (first | (with_reducible first | exact HB.out | apply below_alloc | apply pw_below_drewN | apply below_drew1) | exact HB.out)⟩
                · rw [if_neg c47] at H
                  have c47b0 : (x7_2 == (l0.length : Int)) = false := beq_eq_false_iff_ne.mpr c47
                  have c47b1 : (x7_2 != (l0.length : Int)) = true := bne_iff_ne.mpr c47
                  obtain rfl := Option.some.inj H
                  obtain ⟨Ao54, co54, eo54⟩ := Kd.R_slice HO_3.out
                  subst eo54
                  go_wp2
                  repeat (go_quiet (fail); try go_wp2)
                  go_ret
                  exact ⟨by first | rfl | (simp [errW_none, errW_some] <;> rfl) | (simp [*, errW_none, errW_some] <;> rfl), by repeat (first | (with_reducible first | exact HB.out | apply below_alloc | apply pw_below_drewN | apply below_drew1) | exact HB.out)⟩
        · rw [if_neg c11] at H
          have c11b0 : (t182 == 0) = false := beq_eq_false_iff_ne.mpr c11
          have c11b1 : (t182 != 0) = true := bne_iff_ne.mpr c11
          by_cases c55 : t181 ≥ 0
          · rw [if_pos c55] at H
            have c55b0 : decide (0 ≤ t181) = true := decide_eq_true c55
            clear c55
            by_cases c56 : t181 < (l0.length : Int)
            · rw [if_pos c56] at H
              have c56b0 : decide (t181 < (l0.length : Int)) = true := decide_eq_true c56
              clear c56
              obtain rfl := Option.some.inj H
              go_wp2_with (first | (go_at_call 10; (with_reducible refine (lex_Tokens.calls kj1 _ _ l0 t180 t181 t182 _ ?side1 ?side2 A10.out).mono ?_); (case side1 => repeat (first | exact (Kd.C_below HR0.out HB.out) | (with_reducible refine Kd.C_alloc ?_ _) | (with_reducible refine Kd.C_drewN ?_ _) | (with_reducible refine Kd.C_drew ?_))); (case side2 => exact HC0.out); rintro e w57 ⟨v183, rfl, ho0, hb⟩; have n0_ := Aside0.mk (Kd.R_lower ho0 (below_size (by repeat (first | (with_reducible first | exact HB.out | apply below_alloc | apply pw_below_drewN | apply below_drew1) | exact HB.out)))); have n1_ := Aside0.mk (below_step (by repeat (first | (with_reducible first | exact HB.out | apply below_alloc | apply pw_below_drewN | apply below_drew1) | exact HB.out)) hb); clear HB; have HO184 := n0_; have HB := n1_; clear n0_ n1_; (try clear hb); (try clear hb2); (try clear hk); (try clear hi); (try clear ho0); obtain ⟨Ao58, co58, eo58⟩ := Kd.R_slice HO184.out; subst eo58))
              repeat (go_quiet (first | (go_at_call 10; (with_reducible refine (lex_Tokens.calls kj1 _ _ l0 t180 t181 t182 _ ?side1 ?side2 A10.out).mono ?_); (case side1 => repeat (first | exact (Kd.C_below HR0.out HB.out) | (with_reducible refine Kd.C_alloc ?_ _) | (with_reducible refine Kd.C_drewN ?_ _) | (with_reducible refine Kd.C_drew ?_))); (case side2 => exact HC0.out); rintro e w57 ⟨v183, rfl, ho0, hb⟩; have n0_ := Aside0.mk (Kd.R_lower ho0 (below_size (by repeat (first | (with_reducible first | exact HB.out | apply below_alloc | apply pw_below_drewN | apply below_drew1) | exact HB.out)))); have n1_ := Aside0.mk (below_step (by repeat (first | (with_reducible first | exact HB.out | apply below_alloc | apply pw_below_drewN | apply below_drew1) | exact HB.out)) hb); clear HB; have HO184 := n0_; have HB := n1_; clear n0_ n1_; (try clear hb); (try clear hb2); (try clear hk); (try clear hi); (try clear ho0); obtain ⟨Ao58, co58, eo58⟩ := Kd.R_slice HO184.out; subst eo58)); try go_wp2_with (first | (go_at_call 10; (with_reducible refine (lex_Tokens.calls kj1 _ _ l0 t180 t181 t182 _ ?side1 ?side2 A10.out).mono ?_); (case side1 => repeat (first | exact (Kd.C_below HR0.out HB.out) | (with_reducible refine Kd.C_alloc ?_ _) | (with_reducible refine Kd.C_drewN ?_ _) | (with_reducible refine Kd.C_drew ?_))); (case side2 => exact HC0.out); rintro e w57 ⟨v183, rfl, ho0, hb⟩; have n0_ := Aside0.mk (Kd.R_lower ho0 (below_size (by repeat (first | (with_reducible first | exact HB.out | apply below_alloc | apply pw_below_drewN | apply below_drew1) | exact HB.out)))); have n1_ := Aside0.mk (below_step (by repeat (first | (with_reducible first | exact HB.out | apply below_alloc | apply pw_below_drewN | apply below_drew1) | exact HB.out)) hb); clear HB; have HO184 := n0_; have HB := n1_; clear n0_ n1_; (try clear hb); (try clear hb2); (try clear hk); (try clear hi); (try clear ho0); obtain ⟨Ao58, co58, eo58⟩ := Kd.R_slice HO184.out; subst eo58)))
              go_ret
              exact ⟨by first | rfl | (simp [errW_none, errW_some] <;> rfl) | (simp [*, errW_none, errW_some] <;> rfl), by repeat (first | (with_reducible first | exact HB.out | apply below_alloc | apply pw_below_drewN | apply below_drew1) | exact HB.out)⟩
            · rw [if_neg c56] at H
              have c56b0 : decide (t181 < (l0.length : Int)) = false := decide_eq_false c56
              clear c56
              obtain rfl := Option.some.inj H
              go_wp2_with (first | (go_at_call 10; (with_reducible refine (lex_Tokens.calls kj1 _ _ l0 t180 t181 t182 _ ?side1 ?side2 A10.out).mono ?_); (case side1 => repeat (first | exact (Kd.C_below HR0.out HB.out) | (with_reducible refine Kd.C_alloc ?_ _) | (with_reducible refine Kd.C_drewN ?_ _) | (with_reducible refine Kd.C_drew ?_))); (case side2 => exact HC0.out); rintro e w59 ⟨v183, rfl, ho0, hb⟩; have n0_ := Aside0.mk (Kd.R_lower ho0 (below_size (by repeat (first | (with_reducible first | exact HB.out | apply below_alloc | apply pw_below_drewN | apply below_drew1) | exact HB.out)))); have n1_ := Aside0.mk (below_step (by repeat (first | (with_reducible first | exact HB.out | apply below_alloc | apply pw_below_drewN | apply below_drew1) | exact HB.out)) hb); clear HB; have HO184 := n0_; have HB := n1_; clear n0_ n1_; (try clear hb); (try clear hb2); (try clear hk); (try clear hi); (try clear ho0)))
              repeat (go_quiet (first | (go_at_call 10; (with_reducible refine (lex_Tokens.calls kj1 _ _ l0 t180 t181 t182 _ ?side1 ?side2 A10.out).mono ?_); (case side1 => repeat (first | exact (Kd.C_below HR0.out HB.out) | (with_reducible refine Kd.C_alloc ?_ _) | (with_reducible refine Kd.C_drewN ?_ _) | (with_reducible refine Kd.C_drew ?_))); (case side2 => exact HC0.out); rintro e w59 ⟨v183, rfl, ho0, hb⟩; have n0_ := Aside0.mk (Kd.R_lower ho0 (below_size (by repeat (first | (with_reducible first | exact HB.out | apply below_alloc | apply pw_below_drewN | apply below_drew1) | exact HB.out)))); have n1_ := Aside0.mk (below_step (by repeat (first | (with_reducible first | exact HB.out | apply below_alloc | apply pw_below_drewN | apply below_drew1) | exact HB.out)) hb); clear HB; have HO184 := n0_; have HB := n1_; clear n0_ n1_; (try clear hb); (try clear hb2); (try clear hk); (try clear hi); (try clear ho0))); try go_wp2_with (first | (go_at_call 10; (with_reducible refine (lex_Tokens.calls kj1 _ _ l0 t180 t181 t182 _ ?side1 ?side2 A10.out).mono ?_); (case side1 => repeat (first | exact (Kd.C_below HR0.out HB.out) | (with_reducible refine Kd.C_alloc ?_ _) | (with_reducible refine Kd.C_drewN ?_ _) | (with_reducible refine Kd.C_drew ?_))); (case side2 => exact HC0.out); rintro e w59 ⟨v183, rfl, ho0, hb⟩; have n0_ := Aside0.mk (Kd.R_lower ho0 (below_size (by repeat (first | (with_reducible first | exact HB.out | apply below_alloc | apply pw_below_drewN | apply below_drew1) | exact HB.out)))); have n1_ := Aside0.mk (below_step (by repeat (first | (with_reducible first | exact HB.out | apply below_alloc | apply pw_below_drewN | apply below_drew1) | exact HB.out)) hb); clear HB; have HO184 := n0_; have HB := n1_; clear n0_ n1_; (try clear hb); (try clear hb2); (try clear hk); (try clear hi); (try clear ho0))))
              go_ret
              exact ⟨by first | rfl | (simp [errW_none, errW_some] <;> rfl) | (simp [*, errW_none, errW_some] <;> rfl), by repeat (first | (with_reducible first | exact HB.out | apply below_alloc | apply pw_below_drewN | apply below_drew1) | exact HB.out)⟩
          · rw [if_neg c55] at H
            have c55b0 : decide (0 ≤ t181) = false := decide_eq_false c55
            clear c55
            obtain rfl := Option.some.inj H
            go_wp2_with (first | (go_at_call 10; (with_reducible refine (lex_Tokens.calls kj1 _ _ l0 t180 t181 t182 _ ?side1 ?side2 A10.out).mono ?_); (case side1 => repeat (first | exact (Kd.C_below HR0.out HB.out) | (with_reducible refine Kd.C_alloc ?_ _) | (with_reducible refine Kd.C_drewN ?_ _) | (with_reducible refine Kd.C_drew ?_))); (case side2 => exact HC0.out); rintro e w60 ⟨v183, rfl, ho0, hb⟩; have n0_ := Aside0.mk (Kd.R_lower ho0 (below_size (by repeat (first | (with_reducible first | exact HB.out | apply below_alloc | apply pw_below_drewN | apply below_drew1) | exact HB.out)))); have n1_ := Aside0.mk (below_step (by repeat (first | (with_reducible first | exact HB.out | apply below_alloc | apply pw_below_drewN | apply below_drew1) | exact HB.out)) hb); clear HB; have HO184 := n0_; have HB := n1_; clear n0_ n1_; (try clear hb); (try clear hb2); (try clear hk); (try clear hi); (try clear ho0)))
            repeat (go_quiet (first | (go_at_call 10; (with_reducible refine (lex_Tokens.calls kj1 _ _ l0 t180 t181 t182 _ ?side1 ?side2 A10.out).mono ?_); (case side1 => repeat (first | exact (Kd.C_below HR0.out HB.out) | (with_reducible refine Kd.C_alloc ?_ _) | (with_reducible refine Kd.C_drewN ?_ _) | (with_reducible refine Kd.C_drew ?_))); (case side2 => exact HC0.out); rintro e w60 ⟨v183, rfl, ho0, hb⟩; have n0_ := Aside0.mk (Kd.R_lower ho0 (below_size (by repeat (first | (with_reducible first | exact HB.out | apply below_alloc | apply pw_below_drewN | apply below_drew1) | exact HB.out)))); have n1_ := Aside0.mk (below_step (by repeat (first | (with_reducible first | exact HB.out | apply below_alloc | apply pw_below_drewN | apply below_drew1) | exact HB.out)) hb); clear HB; have HO184 := n0_; have HB := n1_; clear n0_ n1_; (try clear hb); (try clear hb2); (try clear hk); (try clear hi); (try clear ho0))); try go_wp2_with (first | (go_at_call 10; (with_reducible refine (lex_Tokens.calls kj1 _ _ l0 t180 t181 t182 _ ?side1 ?side2 A10.out).mono ?_); (case side1 => repeat (first | exact (Kd.C_below HR0.out HB.out) | (with_reducible refine Kd.C_alloc ?_ _) | (with_reducible refine Kd.C_drewN ?_ _) | (with_reducible refine Kd.C_drew ?_))); (case side2 => exact HC0.out); rintro e w60 ⟨v183, rfl, ho0, hb⟩; have n0_ := Aside0.mk (Kd.R_lower ho0 (below_size (by repeat (first | (with_reducible first | exact HB.out | apply below_alloc | apply pw_below_drewN | apply below_drew1) | exact HB.out)))); have n1_ := Aside0.mk (below_step (by repeat (first | (with_reducible first | exact HB.out | apply below_alloc | apply pw_below_drewN | apply below_drew1) | exact HB.out)) hb); clear HB; have HO184 := n0_; have HB := n1_; clear n0_ n1_; (try clear hb); (try clear hb2); (try clear hk); (try clear hi); (try clear ho0))))
            go_ret
            exact ⟨by first | rfl | (simp [errW_none, errW_some] <;> rfl) | (simp [*, errW_none, errW_some] <;> rfl), by repeat (first | (with_reducible first | exact HB.out | apply below_alloc | apply pw_below_drewN | apply below_drew1) | exact HB.out)⟩

/-- THE ONE PURE STATEMENT of whetstonelaw08_LexCovers: yours. -/
def whetstonelaw08_LexCovers.Pure : Prop := ∀ (l0 : List Int), l0.length ≤ maxLen → l0.length * 1 ≤ 140737488351232 → (∀ x ∈ l0, (Lit.int .u8 x).wf = true) → ∃ k, whetstonelaw08_LexCovers.f k l0 = some true
theorem whetstonelaw08_LexCovers.walk (P : whetstonelaw08_LexCovers.Pure) (a0 : Option Addr) (len0 cap0 : Nat) (z0 : List Int) (w : World) (w0 : (a0 = none ∧ len0 = 0 ∧ cap0 = 0 ∧ z0 = []) ∨ ∃ x, a0 = some x ∧ len0 ≤ cap0 ∧ cap0 ≤ maxLen ∧ z0.length = cap0 ∧ (∀ i, i < z0.length → w.cell? (x.add i) = some (.int .u8 (z0.getD i 0))) ∧ ∀ n ∈ z0, (Lit.int .u8 n).wf = true) (y0 : len0 * 1 ≤ 140737488351232) :
    Calls Try.prog 4 #[.slice a0 len0 cap0] w fun e w' => e = .returned (.bool true) ∧ Below w.heap.size w w' := by
  obtain ⟨l0, rfl, hr0, hm0, hw0, hc0⟩ := ReadsInt.ofRowC w0
  obtain ⟨k, h⟩ := P l0 hm0 y0 hw0
  refine (whetstonelaw08_LexCovers.calls k _ _ l0 true w (Kd.C_of_reads (d := (0 : Int)) (h1 := fun _ => rfl) hr0) hc0 h).mono ?_
  rintro e w' ⟨rfl, hd⟩
  exact ⟨rfl, hd⟩

end Go.Proofs.Ytkngkfjjgkfcnaa.QLexCovers
