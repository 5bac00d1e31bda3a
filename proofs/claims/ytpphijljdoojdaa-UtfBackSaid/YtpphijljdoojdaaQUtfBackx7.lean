-- written by wip/wprint, a program of this session
import Derived.Test.YtpphijljdoojdaaQUtfBackx0
import Derived.Test.YtpphijljdoojdaaQUtfBackx1
import Derived.Test.YtpphijljdoojdaaQUtfBackx3
import Derived.Test.YtpphijljdoojdaaQUtfBackx4
import Derived.Test.YtpphijljdoojdaaQUtfBackx5
import Derived.Test.YtpphijljdoojdaaQUtfBackx6
namespace Go.Proofs.Ytpphijljdoojdaa.QUtfBack
open Go.RowKit Go.Proofs.YtpphijljdoojdaaW.PrintWords Go.Proofs.YtpphijljdoojdaaW.PrintLast Go.Proofs.YtpphijljdoojdaaW.PrintMore
attribute [local go_sem] max2_int min2_int max_two min_two max_three min_three max_four min_four   -- for this text's walks alone
set_option linter.unusedVariables false
set_option linter.unusedSimpArgs false

attribute [local go_sem high] eqA49
/-! ### whetstonelaw03_UtfBack: function 7 -/
mutual
def whetstonelaw03_UtfBack.j0 : Nat → List Int → Bool → Option (Bool)
  | 0, _, _ => none
  | k + 1, x0, x17 => if x17 = true then ((whetstonelaw03_lettered.f k).bind fun t192 => (some t192)) else ((utf_Valid.f k x0).bind fun bt193 => (if bt193.2 = 0 then ((utf_Lines.f k x0).bind fun t195 => ((whetstoneref03_Letters.f k x0).bind fun t199 => (whetstonelaw03_UtfBack.l0 k x0 t195 t199 0 0 (-1)))) else (some true)))
def whetstonelaw03_UtfBack.l0 : Nat → List Int → List Int → List (S38) → Int → Int → Int → Option (Bool)
  | 0, _, _, _, _, _, _ => none
  | k + 1, x0, x5, x7, x8, x199000, x199001 => if x8 < (x7.length : Int) then (if 0 ≤ x8 then ((utf_Place.f k x0 x5 ((rd_T38 x7 x8).f0)).bind fun bt203 => (if ((rd_T38 x7 x8).f1) = 10 then (whetstonelaw03_UtfBack.j2 k x0 x5 x7 x8 true x199000 x199001 bt203.1 bt203.2) else (whetstonelaw03_UtfBack.j2 k x0 x5 x7 x8 (((rd_T38 x7 x8).f1) == 13) x199000 x199001 bt203.1 bt203.2))) else (none)) else (some true)
def whetstonelaw03_UtfBack.j2 : Nat → List Int → List Int → List (S38) → Int → Bool → Int → Int → Int → Int → Option (Bool)
  | 0, _, _, _, _, _, _, _, _, _ => none
  | k + 1, x0, x5, x7, x8, x10, x199000, x199001, x206000, x206001 => if x10 = true then (whetstonelaw03_UtfBack.j3 k x0 x5 x7 x8 x10 false x199000 x199001 x206000 x206001) else ((utf_Offset.f k x0 x5 x206000 x206001).bind fun t208 => (if 0 ≤ x8 then (if x8 < (x7.length : Int) then (whetstonelaw03_UtfBack.j3 k x0 x5 x7 x8 x10 (t208 != ((rd_T38 x7 x8).f0)) x199000 x199001 x206000 x206001) else (none)) else (none)))
def whetstonelaw03_UtfBack.j3 : Nat → List Int → List Int → List (S38) → Int → Bool → Bool → Int → Int → Int → Int → Option (Bool)
  | 0, _, _, _, _, _, _, _, _, _, _ => none
  | k + 1, x0, x5, x7, x8, x10, x72, x199000, x199001, x206000, x206001 => if x72 = true then (some false) else (if x206000 < x199000 then (whetstonelaw03_UtfBack.j4 k x0 x5 x7 x8 x10 true x206000 x206001) else (if x206000 = x199000 then (if x206001 < x199001 then (whetstonelaw03_UtfBack.j4 k x0 x5 x7 x8 x10 true x206000 x206001) else (if x10 = true then (whetstonelaw03_UtfBack.j4 k x0 x5 x7 x8 x10 false x206000 x206001) else (whetstonelaw03_UtfBack.j4 k x0 x5 x7 x8 x10 (x206000 == x199000 && (x206001 == x199001)) x206000 x206001))) else (if x10 = true then (whetstonelaw03_UtfBack.j4 k x0 x5 x7 x8 x10 false x206000 x206001) else (whetstonelaw03_UtfBack.j4 k x0 x5 x7 x8 x10 (x206000 == x199000 && (x206001 == x199001)) x206000 x206001))))
def whetstonelaw03_UtfBack.j4 : Nat → List Int → List Int → List (S38) → Int → Bool → Bool → Int → Int → Option (Bool)
  | 0, _, _, _, _, _, _, _, _ => none
  | k + 1, x0, x5, x7, x8, x10, x100, x206000, x206001 => if x100 = true then (some false) else (if x10 = true then (whetstonelaw03_UtfBack.l0 k x0 x5 x7 (wrap64 (x8 + 1)) x206000 (wrap64 (x206001 - 1))) else (whetstonelaw03_UtfBack.l0 k x0 x5 x7 (wrap64 (x8 + 1)) x206000 x206001))
end
def whetstonelaw03_UtfBack.f (k : Nat) (l0 : List Int) : Option (Bool) := (whetstonelaw03_lettered.f k).bind fun t191 => (if t191 = true then (whetstonelaw03_UtfBack.j0 k l0 (decide ((l0.length : Int) > 400))) else (whetstonelaw03_UtfBack.j0 k l0 true))
theorem whetstonelaw03_UtfBack.mono_l : ∀ k, (∀ y0 y1, LeO (whetstonelaw03_UtfBack.j0 k y0 y1) (whetstonelaw03_UtfBack.j0 (k + 1) y0 y1)) ∧ (∀ y0 y1 y2 y3 y4 y5, LeO (whetstonelaw03_UtfBack.l0 k y0 y1 y2 y3 y4 y5) (whetstonelaw03_UtfBack.l0 (k + 1) y0 y1 y2 y3 y4 y5)) ∧ (∀ y0 y1 y2 y3 y4 y5 y6 y7 y8, LeO (whetstonelaw03_UtfBack.j2 k y0 y1 y2 y3 y4 y5 y6 y7 y8) (whetstonelaw03_UtfBack.j2 (k + 1) y0 y1 y2 y3 y4 y5 y6 y7 y8)) ∧ (∀ y0 y1 y2 y3 y4 y5 y6 y7 y8 y9, LeO (whetstonelaw03_UtfBack.j3 k y0 y1 y2 y3 y4 y5 y6 y7 y8 y9) (whetstonelaw03_UtfBack.j3 (k + 1) y0 y1 y2 y3 y4 y5 y6 y7 y8 y9)) ∧ (∀ y0 y1 y2 y3 y4 y5 y6 y7, LeO (whetstonelaw03_UtfBack.j4 k y0 y1 y2 y3 y4 y5 y6 y7) (whetstonelaw03_UtfBack.j4 (k + 1) y0 y1 y2 y3 y4 y5 y6 y7))
  | 0 => ⟨fun _ _ r h => by simp [whetstonelaw03_UtfBack.j0] at h, fun _ _ _ _ _ _ r h => by simp [whetstonelaw03_UtfBack.l0] at h, fun _ _ _ _ _ _ _ _ _ r h => by simp [whetstonelaw03_UtfBack.j2] at h, fun _ _ _ _ _ _ _ _ _ _ r h => by simp [whetstonelaw03_UtfBack.j3] at h, fun _ _ _ _ _ _ _ _ r h => by simp [whetstonelaw03_UtfBack.j4] at h⟩
  | k + 1 => by
    obtain ⟨ih0, ih1, ih2, ih3, ih4⟩ := whetstonelaw03_UtfBack.mono_l k
    refine ⟨?_, ?_, ?_, ?_, ?_⟩
    · intro y0 y1
      unfold whetstonelaw03_UtfBack.j0
      repeat' first
      | (with_reducible exact ih0 _ _)
      | (with_reducible exact ih1 _ _ _ _ _ _)
      | (with_reducible exact ih2 _ _ _ _ _ _ _ _ _)
      | (with_reducible exact ih3 _ _ _ _ _ _ _ _ _ _)
      | (with_reducible exact ih4 _ _ _ _ _ _ _ _)
      | (with_reducible exact utf_Lines.mono _ _)
      | (with_reducible exact utf_Offset.mono _ _ _ _ _)
      | (with_reducible exact utf_Place.mono _ _ _ _)
      | (with_reducible exact utf_Valid.mono _ _)
      | (with_reducible exact whetstonelaw03_lettered.mono _)
      | (with_reducible exact whetstoneref03_Letters.mono _ _)
      | (with_reducible exact LeO.refl _)
      | (with_reducible exact LeO.none _)
      | (with_reducible refine LeO.ite ?_ ?_)
      | (with_reducible refine LeO.bind ?_ (fun _ => ?_))
      | exact ih0 _ _
      | exact ih1 _ _ _ _ _ _
      | exact ih2 _ _ _ _ _ _ _ _ _
      | exact ih3 _ _ _ _ _ _ _ _ _ _
      | exact ih4 _ _ _ _ _ _ _ _
      | exact utf_Lines.mono _ _
      | exact utf_Offset.mono _ _ _ _ _
      | exact utf_Place.mono _ _ _ _
      | exact utf_Valid.mono _ _
      | exact whetstonelaw03_lettered.mono _
      | exact whetstoneref03_Letters.mono _ _
      | exact LeO.none _
      | refine LeO.ite ?_ ?_
      | refine LeO.bind ?_ (fun _ => ?_)
    · intro y0 y1 y2 y3 y4 y5
      unfold whetstonelaw03_UtfBack.l0
      repeat' first
      | (with_reducible exact ih0 _ _)
      | (with_reducible exact ih1 _ _ _ _ _ _)
      | (with_reducible exact ih2 _ _ _ _ _ _ _ _ _)
      | (with_reducible exact ih3 _ _ _ _ _ _ _ _ _ _)
      | (with_reducible exact ih4 _ _ _ _ _ _ _ _)
      | (with_reducible exact utf_Lines.mono _ _)
      | (with_reducible exact utf_Offset.mono _ _ _ _ _)
      | (with_reducible exact utf_Place.mono _ _ _ _)
      | (with_reducible exact utf_Valid.mono _ _)
      | (with_reducible exact whetstonelaw03_lettered.mono _)
      | (with_reducible exact whetstoneref03_Letters.mono _ _)
      | (with_reducible exact LeO.refl _)
      | (with_reducible exact LeO.none _)
      | (with_reducible refine LeO.ite ?_ ?_)
      | (with_reducible refine LeO.bind ?_ (fun _ => ?_))
      | exact ih0 _ _
      | exact ih1 _ _ _ _ _ _
      | exact ih2 _ _ _ _ _ _ _ _ _
      | exact ih3 _ _ _ _ _ _ _ _ _ _
      | exact ih4 _ _ _ _ _ _ _ _
      | exact utf_Lines.mono _ _
      | exact utf_Offset.mono _ _ _ _ _
      | exact utf_Place.mono _ _ _ _
      | exact utf_Valid.mono _ _
      | exact whetstonelaw03_lettered.mono _
      | exact whetstoneref03_Letters.mono _ _
      | exact LeO.none _
      | refine LeO.ite ?_ ?_
      | refine LeO.bind ?_ (fun _ => ?_)
    · intro y0 y1 y2 y3 y4 y5 y6 y7 y8
      unfold whetstonelaw03_UtfBack.j2
      repeat' first
      | (with_reducible exact ih0 _ _)
      | (with_reducible exact ih1 _ _ _ _ _ _)
      | (with_reducible exact ih2 _ _ _ _ _ _ _ _ _)
      | (with_reducible exact ih3 _ _ _ _ _ _ _ _ _ _)
      | (with_reducible exact ih4 _ _ _ _ _ _ _ _)
      | (with_reducible exact utf_Lines.mono _ _)
      | (with_reducible exact utf_Offset.mono _ _ _ _ _)
      | (with_reducible exact utf_Place.mono _ _ _ _)
      | (with_reducible exact utf_Valid.mono _ _)
      | (with_reducible exact whetstonelaw03_lettered.mono _)
      | (with_reducible exact whetstoneref03_Letters.mono _ _)
      | (with_reducible exact LeO.refl _)
      | (with_reducible exact LeO.none _)
      | (with_reducible refine LeO.ite ?_ ?_)
      | (with_reducible refine LeO.bind ?_ (fun _ => ?_))
      | exact ih0 _ _
      | exact ih1 _ _ _ _ _ _
      | exact ih2 _ _ _ _ _ _ _ _ _
      | exact ih3 _ _ _ _ _ _ _ _ _ _
      | exact ih4 _ _ _ _ _ _ _ _
      | exact utf_Lines.mono _ _
      | exact utf_Offset.mono _ _ _ _ _
      | exact utf_Place.mono _ _ _ _
      | exact utf_Valid.mono _ _
      | exact whetstonelaw03_lettered.mono _
      | exact whetstoneref03_Letters.mono _ _
      | exact LeO.none _
      | refine LeO.ite ?_ ?_
      | refine LeO.bind ?_ (fun _ => ?_)
    · intro y0 y1 y2 y3 y4 y5 y6 y7 y8 y9
      unfold whetstonelaw03_UtfBack.j3
      repeat' first
      | (with_reducible exact ih0 _ _)
      | (with_reducible exact ih1 _ _ _ _ _ _)
      | (with_reducible exact ih2 _ _ _ _ _ _ _ _ _)
      | (with_reducible exact ih3 _ _ _ _ _ _ _ _ _ _)
      | (with_reducible exact ih4 _ _ _ _ _ _ _ _)
      | (with_reducible exact utf_Lines.mono _ _)
      | (with_reducible exact utf_Offset.mono _ _ _ _ _)
      | (with_reducible exact utf_Place.mono _ _ _ _)
      | (with_reducible exact utf_Valid.mono _ _)
      | (with_reducible exact whetstonelaw03_lettered.mono _)
      | (with_reducible exact whetstoneref03_Letters.mono _ _)
      | (with_reducible exact LeO.refl _)
      | (with_reducible exact LeO.none _)
      | (with_reducible refine LeO.ite ?_ ?_)
      | (with_reducible refine LeO.bind ?_ (fun _ => ?_))
      | exact ih0 _ _
      | exact ih1 _ _ _ _ _ _
      | exact ih2 _ _ _ _ _ _ _ _ _
      | exact ih3 _ _ _ _ _ _ _ _ _ _
      | exact ih4 _ _ _ _ _ _ _ _
      | exact utf_Lines.mono _ _
      | exact utf_Offset.mono _ _ _ _ _
      | exact utf_Place.mono _ _ _ _
      | exact utf_Valid.mono _ _
      | exact whetstonelaw03_lettered.mono _
      | exact whetstoneref03_Letters.mono _ _
      | exact LeO.none _
      | refine LeO.ite ?_ ?_
      | refine LeO.bind ?_ (fun _ => ?_)
    · intro y0 y1 y2 y3 y4 y5 y6 y7
      unfold whetstonelaw03_UtfBack.j4
      repeat' first
      | (with_reducible exact ih0 _ _)
      | (with_reducible exact ih1 _ _ _ _ _ _)
      | (with_reducible exact ih2 _ _ _ _ _ _ _ _ _)
      | (with_reducible exact ih3 _ _ _ _ _ _ _ _ _ _)
      | (with_reducible exact ih4 _ _ _ _ _ _ _ _)
      | (with_reducible exact utf_Lines.mono _ _)
      | (with_reducible exact utf_Offset.mono _ _ _ _ _)
      | (with_reducible exact utf_Place.mono _ _ _ _)
      | (with_reducible exact utf_Valid.mono _ _)
      | (with_reducible exact whetstonelaw03_lettered.mono _)
      | (with_reducible exact whetstoneref03_Letters.mono _ _)
      | (with_reducible exact LeO.refl _)
      | (with_reducible exact LeO.none _)
      | (with_reducible refine LeO.ite ?_ ?_)
      | (with_reducible refine LeO.bind ?_ (fun _ => ?_))
      | exact ih0 _ _
      | exact ih1 _ _ _ _ _ _
      | exact ih2 _ _ _ _ _ _ _ _ _
      | exact ih3 _ _ _ _ _ _ _ _ _ _
      | exact ih4 _ _ _ _ _ _ _ _
      | exact utf_Lines.mono _ _
      | exact utf_Offset.mono _ _ _ _ _
      | exact utf_Place.mono _ _ _ _
      | exact utf_Valid.mono _ _
      | exact whetstonelaw03_lettered.mono _
      | exact whetstoneref03_Letters.mono _ _
      | exact LeO.none _
      | refine LeO.ite ?_ ?_
      | refine LeO.bind ?_ (fun _ => ?_)
theorem whetstonelaw03_UtfBack.mono : ∀ a0 k, LeO (whetstonelaw03_UtfBack.f k a0) (whetstonelaw03_UtfBack.f (k + 1) a0) := by
  intro a0 k
  obtain ⟨ih0, ih1, ih2, ih3, ih4⟩ := whetstonelaw03_UtfBack.mono_l k
  unfold whetstonelaw03_UtfBack.f
  repeat' first
      | (with_reducible exact ih0 _ _)
      | (with_reducible exact ih1 _ _ _ _ _ _)
      | (with_reducible exact ih2 _ _ _ _ _ _ _ _ _)
      | (with_reducible exact ih3 _ _ _ _ _ _ _ _ _ _)
      | (with_reducible exact ih4 _ _ _ _ _ _ _ _)
      | (with_reducible exact utf_Lines.mono _ _)
      | (with_reducible exact utf_Offset.mono _ _ _ _ _)
      | (with_reducible exact utf_Place.mono _ _ _ _)
      | (with_reducible exact utf_Valid.mono _ _)
      | (with_reducible exact whetstonelaw03_lettered.mono _)
      | (with_reducible exact whetstoneref03_Letters.mono _ _)
      | (with_reducible exact LeO.refl _)
      | (with_reducible exact LeO.none _)
      | (with_reducible refine LeO.ite ?_ ?_)
      | (with_reducible refine LeO.bind ?_ (fun _ => ?_))
      | exact ih0 _ _
      | exact ih1 _ _ _ _ _ _
      | exact ih2 _ _ _ _ _ _ _ _ _
      | exact ih3 _ _ _ _ _ _ _ _ _ _
      | exact ih4 _ _ _ _ _ _ _ _
      | exact utf_Lines.mono _ _
      | exact utf_Offset.mono _ _ _ _ _
      | exact utf_Place.mono _ _ _ _
      | exact utf_Valid.mono _ _
      | exact whetstonelaw03_lettered.mono _
      | exact whetstoneref03_Letters.mono _ _
      | exact LeO.none _
      | refine LeO.ite ?_ ?_
      | refine LeO.bind ?_ (fun _ => ?_)
def whetstonelaw03_UtfBack.T14 : Bool × List (List Nat × List Nat) := (true, [([], []), ([0], [0]), ([1], [1]), ([2], [2]), ([2], [2]), ([2], [2]), ([3, 4, 5, 2, 2], [2, 3, 4, 5]), ([2], [2]), ([2], [2]), ([7, 8, 2], [2, 7, 8]), ([9, 2], [2, 9]), ([10, 2], [2, 10]), ([6, 11, 2], [2, 6, 11]), ([2, 12], [2, 12])])
def whetstonelaw03_UtfBack.B14 : List Nat := [0, 1, 3, 7, 7, 7, 63, 7, 7, 391, 903, 1927, 4095, 8191]
theorem whetstonelaw03_UtfBack.tab14 : rtab .any (opsOf Try.f7 14) = whetstonelaw03_UtfBack.T14 := by kernel_rfl
theorem whetstonelaw03_UtfBack.bits14 : waitsOk whetstonelaw03_UtfBack.T14.2 whetstonelaw03_UtfBack.B14 = true := by kernel_rfl
set_option maxHeartbeats 8000000 in
set_option maxRecDepth 100000 in
theorem whetstonelaw03_UtfBack.calls (k : Nat) (A0 : Option Addr) (c0 : Nat) (l0 : List Int) (r : Bool) (w : World) (hr0 : Kd.C (Kd.int .u8) w A0 l0.length l0) (hc0 : l0.length ≤ c0) (h : whetstonelaw03_UtfBack.f k l0 = some r) :
    Calls Try.prog 7 #[.slice A0 l0.length c0] w fun e w' => e = .returned (.bool r) ∧ Below w.heap.size w w' := by
  have hu49 := Try.underlying49
  have HR0 := Aside0.mk hr0
  have HC0 := Aside0.mk hc0
  clear hr0 hc0
  have HB := Aside0.mk (Below.refl w.heap.size w)
  have H : ((whetstonelaw03_lettered.f k).bind fun t191 => (if t191 = true then (whetstonelaw03_UtfBack.j0 k l0 (decide ((l0.length : Int) > 400))) else (whetstonelaw03_UtfBack.j0 k l0 true))) = some r := h
  clear h
  have HC2 := Aside0.mk H
  clear H
  go_enter Try.func7, Try.ntmps7
  go_upto_region 1 with (fail)
  go_cut [17] from 1 to 0 (fun v17 wc => ∃ (kq : Nat) (x17_1 : Bool), v17 = .bool x17_1 ∧ Aside0 (whetstonelaw03_UtfBack.j0 kq l0 x17_1 = some r) ∧ Aside0 (kq ≤ k) ∧ Aside0 (Below w.heap.size w wc))
  case first =>
    have H := HC2.out
    clear HC2
    replace H := Option.bind_eq_some_iff.mp H
    obtain ⟨t191, A30, H⟩ := H
    replace H : (if t191 = true then (whetstonelaw03_UtfBack.j0 k l0 (decide ((l0.length : Int) > 400))) else (whetstonelaw03_UtfBack.j0 k l0 true)) = some r := H
    have A3 := Aside0.mk A30
    clear A30
    by_cases c4 : t191 = true
    · subst c4
      have H1 : (whetstonelaw03_UtfBack.j0 k l0 (decide ((l0.length : Int) > 400))) = some r := by rw [if_pos rfl] at H; exact H
      clear H
      have H := H1
      clear H1
      have H' := Aside0.mk H
      clear H
      go_wp2_with (first | ((with_reducible refine gate_callee (f := 9) rfl ?_); refine goesL_ (some 11) rfl rfl Try.func9 (by kernel_rfl) rfl #[] rfl (by (try simp only [List.map_toArray, List.map_cons, List.map_nil]); first | done | rfl | (simp only [List.length_drop, List.length_take]; rfl)) ?_; (with_reducible refine (whetstonelaw03_lettered.calls k  true _ A3.out).mono ?_); rintro e w5 ⟨rfl, hb⟩; refine ⟨_, rfl, ?_⟩; have n0_ := Aside0.mk (below_step (by repeat (first | (with_reducible first | exact HB.out | apply below_alloc | apply pw_below_drewN | apply below_drew1) | exact HB.out)) hb); clear HB; have HB := n0_; clear n0_; (try clear hb); (try clear hb2); (try clear hk); (try clear hi)))
      go_meet
      case rel => exact ⟨_, (decide ((l0.length : Int) > 400)), (by first | rfl | (simp; done) | (simp [*]; done)), H', ⟨by first | omega | exact Nat.le_refl _⟩, ⟨by repeat (first | (with_reducible first | exact HB.out | apply below_alloc | apply pw_below_drewN | apply below_drew1) | exact HB.out)⟩⟩
    · replace c4 := Bool.eq_false_iff.mpr c4
      subst c4
      have H1 : (whetstonelaw03_UtfBack.j0 k l0 true) = some r := by rw [if_neg (show ¬ (false = true) by decide)] at H; exact H
      clear H
      have H := H1
      clear H1
      have H' := Aside0.mk H
      clear H
      go_wp2_with (first | ((with_reducible refine gate_callee (f := 9) rfl ?_); refine goesL_ (some 11) rfl rfl Try.func9 (by kernel_rfl) rfl #[] rfl (by (try simp only [List.map_toArray, List.map_cons, List.map_nil]); first | done | rfl | (simp only [List.length_drop, List.length_take]; rfl)) ?_; (with_reducible refine (whetstonelaw03_lettered.calls k  false _ A3.out).mono ?_); rintro e w6 ⟨rfl, hb⟩; refine ⟨_, rfl, ?_⟩; have n0_ := Aside0.mk (below_step (by repeat (first | (with_reducible first | exact HB.out | apply below_alloc | apply pw_below_drewN | apply below_drew1) | exact HB.out)) hb); clear HB; have HB := n0_; clear n0_; (try clear hb); (try clear hb2); (try clear hk); (try clear hi)))
      go_meet
      case rel => exact ⟨_, (true), (by first | rfl | (simp; done) | (simp [*]; done)), H', ⟨by first | omega | exact Nat.le_refl _⟩, ⟨by repeat (first | (with_reducible first | exact HB.out | apply below_alloc | apply pw_below_drewN | apply below_drew1) | exact HB.out)⟩⟩
  case rest =>
    clear HC2
    try clear p2
    try clear c4
    obtain ⟨kq, x17_1, rfl, HA, HJ1, HB⟩ := hcut
    cases kq with
    | zero => exact absurd HA.out (by simp [whetstonelaw03_UtfBack.j0])
    | succ kj1 =>
      have H := HA.out
      clear HA
      simp only [whetstonelaw03_UtfBack.j0] at H
      by_cases c7 : x17_1 = true
      · subst c7
        have H1 : ((whetstonelaw03_lettered.f kj1).bind fun t192 => (some t192)) = some r := by rw [if_pos rfl] at H; exact H
        clear H
        have H := H1
        clear H1
        replace H := Option.bind_eq_some_iff.mp H
        obtain ⟨t192, A80, H⟩ := H
        replace H : (some t192) = some r := H
        have A8 := Aside0.mk A80
        clear A80
        obtain rfl := Option.some.inj H
        go_wp2_with (first | ((with_reducible refine gate_callee (f := 9) rfl ?_); refine goesL_ (some 18) rfl rfl Try.func9 (by kernel_rfl) rfl #[] rfl (by (try simp only [List.map_toArray, List.map_cons, List.map_nil]); first | done | rfl | (simp only [List.length_drop, List.length_take]; rfl)) ?_; (with_reducible refine (whetstonelaw03_lettered.calls kj1  t192 _ A8.out).mono ?_); rintro e w9 ⟨rfl, hb⟩; refine ⟨_, rfl, ?_⟩; have n0_ := Aside0.mk (below_step (by repeat (first | (with_reducible first | exact HB.out | apply below_alloc | apply pw_below_drewN | apply below_drew1) | exact HB.out)) hb); clear HB; have HB := n0_; clear n0_; (try clear hb); (try clear hb2); (try clear hk); (try clear hi)))
        go_ret
        exact ⟨by first | rfl | (simp [errW_none, errW_some] <;> rfl) | (simp [*, errW_none, errW_some] <;> rfl), by repeat (first | (with_reducible first | exact HB.out | apply below_alloc | apply pw_below_drewN | apply below_drew1) | exact HB.out)⟩
      · replace c7 := Bool.eq_false_iff.mpr c7
        subst c7
        have H1 : ((utf_Valid.f kj1 l0).bind fun bt193 => (if bt193.2 = 0 then ((utf_Lines.f kj1 l0).bind fun t195 => ((whetstoneref03_Letters.f kj1 l0).bind fun t199 => (whetstonelaw03_UtfBack.l0 kj1 l0 t195 t199 0 0 (-1)))) else (some true))) = some r := by rw [if_neg (show ¬ (false = true) by decide)] at H; exact H
        clear H
        have H := H1
        clear H1
        replace H := Option.bind_eq_some_iff.mp H
        obtain ⟨⟨t193, t194⟩, A100, H⟩ := H
        replace H : (if t194 = 0 then ((utf_Lines.f kj1 l0).bind fun t195 => ((whetstoneref03_Letters.f kj1 l0).bind fun t199 => (whetstonelaw03_UtfBack.l0 kj1 l0 t195 t199 0 0 (-1)))) else (some true)) = some r := H
        have A10 := Aside0.mk A100
        clear A100
        by_cases c11 : t194 = 0
        · rw [if_pos c11] at H
          have c11b0 : (t194 == 0) = true := beq_iff_eq.mpr c11
          have c11b1 : (t194 != 0) = false := bne_eq_false_iff_eq.mpr c11
          clear c11
          replace H := Option.bind_eq_some_iff.mp H
          obtain ⟨t195, A120, H⟩ := H
          replace H : ((whetstoneref03_Letters.f kj1 l0).bind fun t199 => (whetstonelaw03_UtfBack.l0 kj1 l0 t195 t199 0 0 (-1))) = some r := H
          have A12 := Aside0.mk A120
          clear A120
          replace H := Option.bind_eq_some_iff.mp H
          obtain ⟨t199, A130, H⟩ := H
          replace H : (whetstonelaw03_UtfBack.l0 kj1 l0 t195 t199 0 0 (-1)) = some r := H
          have A13 := Aside0.mk A130
          clear A130
          have H' := Aside0.mk H
          clear H
          go_wp2_with (first | ((with_reducible refine gate_callee (f := 10) rfl ?_); refine goesL_ (some 21) rfl rfl Try.func10 (by kernel_rfl) rfl #[.slice A0 l0.length c0] rfl (by (try simp only [List.map_toArray, List.map_cons, List.map_nil]); first | done | rfl | (simp only [List.length_drop, List.length_take]; rfl)) ?_; (with_reducible refine (utf_Valid.calls kj1 _ _ l0 t193 t194 _ ?side1 ?side2 A10.out).mono ?_); (case side1 => repeat (first | exact (Kd.C_below HR0.out HB.out) | (with_reducible refine Kd.C_alloc ?_ _) | (with_reducible refine Kd.C_drewN ?_ _) | (with_reducible refine Kd.C_drew ?_))); (case side2 => exact HC0.out); rintro e w' ⟨rfl, ⟨nd, rfl⟩⟩; refine ⟨_, rfl, ?_⟩; (try (rw [drewN_self wc]; generalize hq_ : World.drewN wc _ = wc; have n0_ : Aside0 (Below w.heap.size w wc) := ⟨by rw [← hq_]; exact (by repeat (first | (with_reducible first | exact HB.out | apply below_alloc | apply pw_below_drewN | apply below_drew1) | exact HB.out))⟩; clear HB hq_; have HB := n0_; clear n0_))) | ((with_reducible refine gate_callee (f := 19) rfl ?_); refine goesL_ (some 27) rfl rfl Try.func19 (by kernel_rfl) rfl #[.slice A0 l0.length c0] rfl (by (try simp only [List.map_toArray, List.map_cons, List.map_nil]); first | done | rfl | (simp only [List.length_drop, List.length_take]; rfl)) ?_; (with_reducible refine (utf_Lines.calls kj1 _ _ l0 t195 _ ?side1 ?side2 A12.out).mono ?_); (case side1 => repeat (first | exact (Kd.C_below HR0.out HB.out) | (with_reducible refine Kd.C_alloc ?_ _) | (with_reducible refine Kd.C_drewN ?_ _) | (with_reducible refine Kd.C_drew ?_))); (case side2 => exact HC0.out); rintro e w14 ⟨v196, rfl, ho0, hb⟩; refine ⟨_, rfl, ?_⟩; have n0_ := Aside0.mk (Kd.R_lower ho0 (below_size (by repeat (first | (with_reducible first | exact HB.out | apply below_alloc | apply pw_below_drewN | apply below_drew1) | exact HB.out)))); have n1_ := Aside0.mk (below_step (by repeat (first | (with_reducible first | exact HB.out | apply below_alloc | apply pw_below_drewN | apply below_drew1) | exact HB.out)) hb); clear HB; have HO197 := n0_; have HB := n1_; clear n0_ n1_; (try clear hb); (try clear hb2); (try clear hk); (try clear hi); (try clear ho0)) | ((with_reducible refine gate_dst (N := 6) rfl ?_); (try (refine gate_guard (by rfl) ?_; dsimp only)); refine box_event ?hg (N := 6) ?hd (cs := #[.int .i64 0, .int .i64 0]) (t := 49) ?hr ?_; (case hd => rfl); (case hg => rfl); (case hr => first | (go_simp; done) | (go_simp; rfl)); intro gb198 hg w15 hbox hb; have n0_ := Aside0.mk (Kd.R_below (by (with_reducible repeat (first | apply Kd.R_alloc | apply Kd.R_drewN | apply Kd.R_drew)); exact HO197.out) hb); have n1_ := Aside0.mk (below_step (by repeat (first | (with_reducible first | exact HB.out | apply below_alloc | apply pw_below_drewN | apply below_drew1) | exact HB.out)) hb); have n2_ := Aside0.mk (hbox); have n3_ := Aside0.mk ((by rw [hg]; exact (below_size (by repeat (first | (with_reducible first | exact HB.out | apply below_alloc | apply pw_below_drewN | apply below_drew1) | exact HB.out))) : w.heap.size ≤ gb198)); have n4_ := Aside0.mk ((by rw [hg]; exact (below_size (by repeat (first | (with_reducible first | exact HB.out | apply below_alloc | apply pw_below_drewN | apply below_drew1) | exact HB.out))) : w.heap.size ≤ gb198)); clear HO197; clear HB; have HO197 := n0_; have HB := n1_; have BK198 := n2_; have GW198 := n3_; have GE198 := n4_; clear n0_ n1_ n2_ n3_ n4_; clear hb hbox hg; have hcz16_0 : w15.cell? ⟨gb198, 0, none⟩ = some (.int .i64 0) := (blk_cell BK198.out 0).trans rfl; have hcz16_1 : w15.cell? ⟨gb198, 1, none⟩ = some (.int .i64 0) := (blk_cell BK198.out 1).trans rfl; have hfz16_0 := blk_frozen BK198.out 0; have hfz16_1 := blk_frozen BK198.out 1) | ((with_reducible refine gate_callee (f := 14) rfl ?_); refine goesL_ (some 30) rfl rfl Try.func14 (by kernel_rfl) rfl #[.slice A0 l0.length c0] rfl (by (try simp only [List.map_toArray, List.map_cons, List.map_nil]); first | done | rfl | (simp only [List.length_drop, List.length_take]; rfl)) ?_; (with_reducible refine (whetstoneref03_Letters.calls kj1 _ _ l0 t199 _ ?side1 ?side2 A13.out).mono ?_); (case side1 => exact Kd.C_below HR0.out (by repeat (first | (with_reducible first | exact HB.out | apply below_alloc | apply pw_below_drewN | apply below_drew1 | refine below_set ?_ GE198.out) | exact HB.out))); (case side2 => exact HC0.out); rintro e w17 ⟨v200, rfl, ho0, hb⟩; refine ⟨_, rfl, ?_⟩; have n0_ := Aside0.mk (Kd.R_below (by (with_reducible repeat (first | apply Kd.R_alloc | apply Kd.R_drewN | apply Kd.R_drew)); exact (Kd.R_mono (Kd.R_far (p := ⟨gb198, 1, none⟩) (Kd.R_far (p := ⟨gb198, 0, none⟩) (Kd.R_types HO197.out BK198.out (by decide)) (fun _ hk => hk.2) (.int .i64 0)) (fun _ hk => hk.2) (.int .i64 (-1))) (fun _ h_ => h_.1))) hb); have n1_ := Aside0.mk (Kd.R_lower ho0 (below_size (by repeat (first | (with_reducible first | exact HB.out | apply below_alloc | apply pw_below_drewN | apply below_drew1 | refine below_set ?_ GE198.out) | exact HB.out)))); have n2_ := Aside0.mk (blk_below (g := gb198) (o := .cells #[.int .i64 0, .int .i64 (-1)] 49 (0, 0)) (by (with_reducible repeat (first | refine blk_drewN ?_ _ | refine blk_drew ?_ | refine blk_alloc ?_ _)); refine blk_put (cs := #[.int .i64 0, .int .i64 0]) ?_ 1 _ rfl; (with_reducible repeat (first | refine blk_drewN ?_ _ | refine blk_drew ?_ | refine blk_alloc ?_ _)); refine blk_put (cs := #[.int .i64 0, .int .i64 0]) ?_ 0 _ rfl; (with_reducible repeat (first | refine blk_drewN ?_ _ | refine blk_drew ?_ | refine blk_alloc ?_ _)); exact BK198.out) hb); have n3_ := Aside0.mk (below_step (by repeat (first | (with_reducible first | exact HB.out | apply below_alloc | apply pw_below_drewN | apply below_drew1 | refine below_set ?_ GE198.out) | exact HB.out)) hb); clear HO197; clear BK198; clear HB; have HO197 := n0_; have HO201 := n1_; have BK198 := n2_; have HB := n3_; clear n0_ n1_ n2_ n3_; (try clear hb); (try clear hb2); (try clear hk); (try clear hi); (try clear ho0)))
          go_loopg [8] kj1 (fun kq v8 w' => ∃ (x8_2 : Int) (x199000_2 : Int) (x199001_2 : Int), v8 = .int .i64 x8_2 ∧ Aside0 (whetstonelaw03_UtfBack.l0 kq l0 t195 t199 x8_2 x199000_2 x199001_2 = some r) ∧ Aside0 (kq ≤ kj1) ∧ Aside0 (Kd.R (Kd.int .i64) 3 w' w.heap.size (fun _ => True) v196 t195) ∧ Aside0 (Kd.R k38 38 w' w.heap.size (fun _ => True) v200 t199) ∧ Aside0 (w'.heap[gb198]? = some (.cells #[.int .i64 x199000_2, .int .i64 x199001_2] 49 (0, 0))) ∧ Aside0 (Below w.heap.size w w'))
          case atStart => exact ⟨(0), (0), ((-1)), (by first | rfl | (simp; done) | (simp [*]; done)), H', ⟨Nat.le_refl _⟩, ⟨by (with_reducible repeat (first | apply Kd.R_alloc | apply Kd.R_drewN | apply Kd.R_drew)); exact HO197.out⟩, ⟨by (with_reducible repeat (first | apply Kd.R_alloc | apply Kd.R_drewN | apply Kd.R_drew)); exact HO201.out⟩, ⟨by (with_reducible repeat (first | refine blk_drewN ?_ _ | refine blk_drew ?_ | refine blk_alloc ?_ _)); exact BK198.out⟩, ⟨by repeat (first | (with_reducible first | exact HB.out | apply below_alloc | apply pw_below_drewN | apply below_drew1 | refine below_set ?_ GE198.out) | exact HB.out)⟩⟩
          case round =>
            clear H'
            try clear c1
            try clear p2
            try clear c4
            try clear c7
            try clear c9
            try clear c10
            try clear c11
            try clear c11b0
            try clear c11b1
            try clear c14
            try clear hcz16_0
            try clear hcz16_1
            try clear hfz16_0
            try clear hfz16_1
            try clear p2
            obtain ⟨x8_2, x199000_2, x199001_2, rfl, HA, HK2, HO_5, HO_7, BK198, HB⟩ := hrel
            cases gk with
            | zero => exact absurd HA.out (by simp [whetstonelaw03_UtfBack.l0])
            | succ k2 =>
              have H := HA.out
              clear HA
              simp only [whetstonelaw03_UtfBack.l0] at H
              by_cases c18 : x8_2 < (t199.length : Int)
              · rw [if_pos c18] at H
                have c18b0 : decide (x8_2 < (t199.length : Int)) = true := decide_eq_true c18
                clear c18
                by_cases c19 : 0 ≤ x8_2
                · rw [if_pos c19] at H
                  have c19b0 : decide (0 ≤ x8_2) = true := decide_eq_true c19
                  clear c19
                  replace H := Option.bind_eq_some_iff.mp H
                  obtain ⟨⟨t203, t204⟩, A200, H⟩ := H
                  replace H : (if ((rd_T38 t199 x8_2).f1) = 10 then (whetstonelaw03_UtfBack.j2 k2 l0 t195 t199 x8_2 true x199000_2 x199001_2 t203 t204) else (whetstonelaw03_UtfBack.j2 k2 l0 t195 t199 x8_2 (((rd_T38 t199 x8_2).f1) == 13) x199000_2 x199001_2 t203 t204)) = some r := H
                  have A20 := Aside0.mk A200
                  clear A200
                  have HC21 := Aside0.mk H
                  clear H
                  obtain ⟨Ao22, co22, eo22⟩ := Kd.R_slice HO_7.out
                  subst eo22
                  have p202 : 0 ≤ (x8_2 : Int) := of_decide_eq_true (by first | (with_reducible assumption) | assumption)
                  have q202 : x8_2 < (t199.length : Int) := of_decide_eq_true (by first | (with_reducible assumption) | assumption)
                  obtain ⟨ad202, e202, hx202_0, hx202_1, hx202_2⟩ := at_T38 (Kd.R_reads' HO_7.out).2.2 x8_2 p202 q202
                  cases e202
                  replace p202 := eq_true p202
                  replace q202 := eq_true q202
                  obtain ⟨Ao23, co23, eo23⟩ := Kd.R_slice HO_5.out
                  subst eo23
                  go_upto_region 13 with (first | ((with_reducible refine gate_callee (f := 21) rfl ?_); refine goesL_ (some 44) rfl rfl Try.func21 (by kernel_rfl) rfl #[.slice A0 l0.length c0, .slice Ao23 t195.length co23, .int .i64 ((rd_T38 t199 x8_2).f0)] rfl (by (try simp only [List.map_toArray, List.map_cons, List.map_nil]); first | done | rfl | (simp only [List.length_drop, List.length_take]; rfl)) ?_; (with_reducible refine (utf_Place.calls k2 _ _ l0 _ _ t195 ((rd_T38 t199 x8_2).f0) t203 t204 _ ?side1 ?side2 ?side3 ?side4 A20.out).mono ?_); (case side1 => repeat (first | exact (Kd.C_below HR0.out HB.out) | (with_reducible refine Kd.C_alloc ?_ _) | (with_reducible refine Kd.C_drewN ?_ _) | (with_reducible refine Kd.C_drew ?_))); (case side2 => exact HC0.out); (case side3 => repeat (first | exact (Kd.R_reads' HO_5.out).2.2 | (with_reducible refine Kd.C_alloc ?_ _) | (with_reducible refine Kd.C_drewN ?_ _) | (with_reducible refine Kd.C_drew ?_))); (case side4 => exact (Kd.R_reads' HO_5.out).2.1); rintro e w24 ⟨rfl, hb⟩; refine ⟨_, rfl, ?_⟩; have n0_ := Aside0.mk (Kd.R_below (by (with_reducible repeat (first | apply Kd.R_alloc | apply Kd.R_drewN | apply Kd.R_drew)); exact HO_5.out) hb); have n1_ := Aside0.mk (Kd.R_below (by (with_reducible repeat (first | apply Kd.R_alloc | apply Kd.R_drewN | apply Kd.R_drew)); exact HO_7.out) hb); have n2_ := Aside0.mk (blk_below (g := gb198) (o := .cells #[.int .i64 x199000_2, .int .i64 x199001_2] 49 (0, 0)) (by (with_reducible repeat (first | refine blk_drewN ?_ _ | refine blk_drew ?_ | refine blk_alloc ?_ _)); exact BK198.out) hb); have n3_ := Aside0.mk (below_step (by repeat (first | (with_reducible first | exact HB.out | apply below_alloc | apply pw_below_drewN | apply below_drew1 | refine below_set ?_ GE198.out) | exact HB.out)) hb); clear HO_5; clear HO_7; clear BK198; clear HB; have HO_5 := n0_; have HO_7 := n1_; have BK198 := n2_; have HB := n3_; clear n0_ n1_ n2_ n3_; (try clear hb); (try clear hb2); (try clear hk); (try clear hi)) | ((with_reducible refine gate_dst (N := 9) rfl ?_); (try (refine gate_guard (by rfl) ?_; dsimp only)); refine box_event ?hg (N := 9) ?hd (cs := #[.int .i64 0, .int .i64 0]) (t := 49) ?hr ?_; (case hd => rfl); (case hg => rfl); (case hr => first | (go_simp; done) | (go_simp; rfl)); intro gb205 hg w25 hbox hb; have n0_ := Aside0.mk (Kd.R_below (by (with_reducible repeat (first | apply Kd.R_alloc | apply Kd.R_drewN | apply Kd.R_drew)); exact HO_5.out) hb); have n1_ := Aside0.mk (Kd.R_below (by (with_reducible repeat (first | apply Kd.R_alloc | apply Kd.R_drewN | apply Kd.R_drew)); exact HO_7.out) hb); have n2_ := Aside0.mk (blk_below (g := gb198) (o := .cells #[.int .i64 x199000_2, .int .i64 x199001_2] 49 (0, 0)) (by (with_reducible repeat (first | refine blk_drewN ?_ _ | refine blk_drew ?_ | refine blk_alloc ?_ _)); exact BK198.out) hb); have n3_ := Aside0.mk (below_step (by repeat (first | (with_reducible first | exact HB.out | apply below_alloc | apply pw_below_drewN | apply below_drew1 | refine below_set ?_ GE198.out) | exact HB.out)) hb); have n4_ := Aside0.mk (hbox); have n5_ := Aside0.mk ((by rw [hg]; exact (below_size (by repeat (first | (with_reducible first | exact HB.out | apply below_alloc | apply pw_below_drewN | apply below_drew1 | refine below_set ?_ GE198.out) | exact HB.out))) : w.heap.size ≤ gb205)); have n6_ := Aside0.mk ((by rw [hg]; exact (below_size (by repeat (first | (with_reducible first | exact HB.out | apply below_alloc | apply pw_below_drewN | apply below_drew1 | refine below_set ?_ GE198.out) | exact HB.out))) : w.heap.size ≤ gb205)); have n7_ := Aside0.mk ((by rw [hg]; exact Nat.ne_of_lt (blk_lt (g := gb198) (o := .cells #[.int .i64 x199000_2, .int .i64 x199001_2] 49 (0, 0)) (by (with_reducible repeat (first | refine blk_drewN ?_ _ | refine blk_drew ?_ | refine blk_alloc ?_ _)); exact BK198.out)) : gb198 ≠ gb205)); have n8_ := Aside0.mk ((by rw [hg]; exact Nat.ne_of_gt (blk_lt (g := gb198) (o := .cells #[.int .i64 x199000_2, .int .i64 x199001_2] 49 (0, 0)) (by (with_reducible repeat (first | refine blk_drewN ?_ _ | refine blk_drew ?_ | refine blk_alloc ?_ _)); exact BK198.out)) : gb205 ≠ gb198)); clear HO_5; clear HO_7; clear BK198; clear HB; have HO_5 := n0_; have HO_7 := n1_; have BK198 := n2_; have HB := n3_; have BK205 := n4_; have GW205 := n5_; have GE205 := n6_; have NB198_205 := n7_; have NB205_198 := n8_; clear n0_ n1_ n2_ n3_ n4_ n5_ n6_ n7_ n8_; clear hb hbox hg; have hnb26 := NB205_198.out; have hnc26 := NB198_205.out; have hcz27_0 : w25.cell? ⟨gb205, 0, none⟩ = some (.int .i64 0) := (blk_cell BK205.out 0).trans rfl; have hcz27_1 : w25.cell? ⟨gb205, 1, none⟩ = some (.int .i64 0) := (blk_cell BK205.out 1).trans rfl; have hfz27_0 := blk_frozen BK205.out 0; have hfz27_1 := blk_frozen BK205.out 1))
                  (try simp only [Act.put, List.setIfInBounds_toArray, List.set_cons_zero, List.set_cons_succ])
                  go_cut [10] from 1 to 0 (fun v10 wc => ∃ (kq : Nat) (x10_20 : Bool), v10 = .bool x10_20 ∧ Aside0 (whetstonelaw03_UtfBack.j2 kq l0 t195 t199 x8_2 x10_20 x199000_2 x199001_2 t203 t204 = some r) ∧ Aside0 (kq ≤ k2) ∧ Aside0 (Kd.R (Kd.int .i64) 3 wc w.heap.size (fun _ => True) (.slice Ao23 t195.length co23) t195) ∧ Aside0 (Kd.R k38 38 wc w.heap.size (fun _ => True) (.slice (some ad202) t199.length co22) t199) ∧ Aside0 (wc.heap[gb198]? = some (.cells #[.int .i64 x199000_2, .int .i64 x199001_2] 49 (0, 0))) ∧ Aside0 (wc.heap[gb205]? = some (.cells #[.int .i64 t203, .int .i64 t204] 49 (0, 0))) ∧ Aside0 (Below w.heap.size w wc))
                  case first =>
                    have H := HC21.out
                    clear HC21
                    by_cases c28 : ((rd_T38 t199 x8_2).f1) = 10
                    · rw [if_pos c28] at H
                      have c28b0 : (((rd_T38 t199 x8_2).f1) == 10) = true := beq_iff_eq.mpr c28
                      have c28b1 : (((rd_T38 t199 x8_2).f1) != 10) = false := bne_eq_false_iff_eq.mpr c28
                      clear c28
                      (first | rw [c28b0] | rw [c28b1] | (simp only [i64_w, i32_w]; rw [c28b0]) | skip)
                      have H' := Aside0.mk H
                      clear H
                      have p206 : 0 ≤ (x8_2 : Int) := of_decide_eq_true (by first | (with_reducible assumption) | assumption)
                      have q206 : x8_2 < (t199.length : Int) := of_decide_eq_true (by first | (with_reducible assumption) | assumption)
                      obtain ⟨ad206, e206, hx206_0, hx206_1, hx206_2⟩ := at_T38 (Kd.R_reads' HO_7.out).2.2 x8_2 p206 q206
                      obtain rfl : ad202 = ad206 := (by injection e206)
                      have hn206_0 : ad202.block ≠ gb205 := Kd.own_blk (Kd.R_ne HO_7.out BK205.out (by decide))
                      have hn206_1 : ad202.block ≠ gb205 := Kd.own_blk (Kd.R_ne HO_7.out BK205.out (by decide))
                      replace hx206_0 := (cell_far (p := ⟨gb205, 0, none⟩) (by first | (rw [add_block]; exact hn206_0) | (show (Addr.add _ _).block ≠ _; rw [add_block]; exact hn206_0) | exact hn206_0) (.int .i64 t203)).trans hx206_0
                      replace hx206_1 := (cell_far (p := ⟨gb205, 0, none⟩) (by first | (rw [add_block]; exact hn206_0) | (show (Addr.add _ _).block ≠ _; rw [add_block]; exact hn206_0) | exact hn206_0) (.int .i64 t203)).trans hx206_1
                      replace hx206_2 := (cell_far (p := ⟨gb205, 0, none⟩) (by first | (rw [add_block]; exact hn206_0) | (show (Addr.add _ _).block ≠ _; rw [add_block]; exact hn206_0) | exact hn206_0) (.int .i64 t203)).trans hx206_2
                      replace hx206_0 := (cell_far (p := ⟨gb205, 1, none⟩) (by first | (rw [add_block]; exact hn206_1) | (show (Addr.add _ _).block ≠ _; rw [add_block]; exact hn206_1) | exact hn206_1) (.int .i64 t204)).trans hx206_0
                      replace hx206_1 := (cell_far (p := ⟨gb205, 1, none⟩) (by first | (rw [add_block]; exact hn206_1) | (show (Addr.add _ _).block ≠ _; rw [add_block]; exact hn206_1) | exact hn206_1) (.int .i64 t204)).trans hx206_1
                      replace hx206_2 := (cell_far (p := ⟨gb205, 1, none⟩) (by first | (rw [add_block]; exact hn206_1) | (show (Addr.add _ _).block ≠ _; rw [add_block]; exact hn206_1) | exact hn206_1) (.int .i64 t204)).trans hx206_2
                      clear hn206_0
                      clear hn206_1
                      replace p206 := eq_true p206
                      replace q206 := eq_true q206
                      go_wp2
                      go_meet
                      case rel => exact ⟨_, (true), (by first | rfl | (simp; done) | (simp [*]; done)), H', ⟨by have := HJ1.out; have := HK2.out; first | omega | exact Nat.le_refl _⟩, ⟨by (with_reducible repeat (first | apply Kd.R_alloc | apply Kd.R_drewN | apply Kd.R_drew)); exact Kd.R_mono (Kd.R_far (p := ⟨gb205, 1, none⟩) (Kd.R_far (p := ⟨gb205, 0, none⟩) (Kd.R_types HO_5.out BK205.out (by decide)) (fun _ hk => hk.2) (.int .i64 t203)) (fun _ hk => hk.2) (.int .i64 t204)) (fun _ hk => trivial)⟩, ⟨by (with_reducible repeat (first | apply Kd.R_alloc | apply Kd.R_drewN | apply Kd.R_drew)); exact Kd.R_mono (Kd.R_far (p := ⟨gb205, 1, none⟩) (Kd.R_far (p := ⟨gb205, 0, none⟩) (Kd.R_types HO_7.out BK205.out (by decide)) (fun _ hk => hk.2) (.int .i64 t203)) (fun _ hk => hk.2) (.int .i64 t204)) (fun _ hk => trivial)⟩, ⟨by (with_reducible repeat (first | refine blk_drewN ?_ _ | refine blk_drew ?_ | refine blk_alloc ?_ _)); refine blk_far ?_ NB198_205.out _; (with_reducible repeat (first | refine blk_drewN ?_ _ | refine blk_drew ?_ | refine blk_alloc ?_ _)); refine blk_far ?_ NB198_205.out _; (with_reducible repeat (first | refine blk_drewN ?_ _ | refine blk_drew ?_ | refine blk_alloc ?_ _)); exact BK198.out⟩, ⟨by (with_reducible repeat (first | refine blk_drewN ?_ _ | refine blk_drew ?_ | refine blk_alloc ?_ _)); refine blk_put (cs := #[.int .i64 t203, .int .i64 0]) ?_ 1 _ rfl; (with_reducible repeat (first | refine blk_drewN ?_ _ | refine blk_drew ?_ | refine blk_alloc ?_ _)); refine blk_put (cs := #[.int .i64 0, .int .i64 0]) ?_ 0 _ rfl; (with_reducible repeat (first | refine blk_drewN ?_ _ | refine blk_drew ?_ | refine blk_alloc ?_ _)); exact BK205.out⟩, ⟨by repeat (first | (with_reducible first | exact HB.out | apply below_alloc | apply pw_below_drewN | apply below_drew1 | refine below_set ?_ GE198.out | refine below_set ?_ GE205.out) | exact HB.out)⟩⟩
                    · rw [if_neg c28] at H
                      have c28b0 : (((rd_T38 t199 x8_2).f1) == 10) = false := beq_eq_false_iff_ne.mpr c28
                      have c28b1 : (((rd_T38 t199 x8_2).f1) != 10) = true := bne_iff_ne.mpr c28
                      (first | rw [c28b0] | rw [c28b1] | (simp only [i64_w, i32_w]; rw [c28b0]) | skip)
                      have H' := Aside0.mk H
                      clear H
                      have p206 : 0 ≤ (x8_2 : Int) := of_decide_eq_true (by first | (with_reducible assumption) | assumption)
                      have q206 : x8_2 < (t199.length : Int) := of_decide_eq_true (by first | (with_reducible assumption) | assumption)
                      obtain ⟨ad206, e206, hx206_0, hx206_1, hx206_2⟩ := at_T38 (Kd.R_reads' HO_7.out).2.2 x8_2 p206 q206
                      obtain rfl : ad202 = ad206 := (by injection e206)
                      have hn206_0 : ad202.block ≠ gb205 := Kd.own_blk (Kd.R_ne HO_7.out BK205.out (by decide))
                      have hn206_1 : ad202.block ≠ gb205 := Kd.own_blk (Kd.R_ne HO_7.out BK205.out (by decide))
                      replace hx206_0 := (cell_far (p := ⟨gb205, 0, none⟩) (by first | (rw [add_block]; exact hn206_0) | (show (Addr.add _ _).block ≠ _; rw [add_block]; exact hn206_0) | exact hn206_0) (.int .i64 t203)).trans hx206_0
                      replace hx206_1 := (cell_far (p := ⟨gb205, 0, none⟩) (by first | (rw [add_block]; exact hn206_0) | (show (Addr.add _ _).block ≠ _; rw [add_block]; exact hn206_0) | exact hn206_0) (.int .i64 t203)).trans hx206_1
                      replace hx206_2 := (cell_far (p := ⟨gb205, 0, none⟩) (by first | (rw [add_block]; exact hn206_0) | (show (Addr.add _ _).block ≠ _; rw [add_block]; exact hn206_0) | exact hn206_0) (.int .i64 t203)).trans hx206_2
                      replace hx206_0 := (cell_far (p := ⟨gb205, 1, none⟩) (by first | (rw [add_block]; exact hn206_1) | (show (Addr.add _ _).block ≠ _; rw [add_block]; exact hn206_1) | exact hn206_1) (.int .i64 t204)).trans hx206_0
                      replace hx206_1 := (cell_far (p := ⟨gb205, 1, none⟩) (by first | (rw [add_block]; exact hn206_1) | (show (Addr.add _ _).block ≠ _; rw [add_block]; exact hn206_1) | exact hn206_1) (.int .i64 t204)).trans hx206_1
                      replace hx206_2 := (cell_far (p := ⟨gb205, 1, none⟩) (by first | (rw [add_block]; exact hn206_1) | (show (Addr.add _ _).block ≠ _; rw [add_block]; exact hn206_1) | exact hn206_1) (.int .i64 t204)).trans hx206_2
                      clear hn206_0
                      clear hn206_1
                      replace p206 := eq_true p206
                      replace q206 := eq_true q206
                      have p207 : 0 ≤ (x8_2 : Int) := of_decide_eq_true (by first | (with_reducible assumption) | assumption)
                      have q207 : x8_2 < (t199.length : Int) := of_decide_eq_true (by first | (with_reducible assumption) | assumption)
                      obtain ⟨ad207, e207, hx207_0, hx207_1, hx207_2⟩ := at_T38 (Kd.R_reads' HO_7.out).2.2 x8_2 p207 q207
                      obtain rfl : ad202 = ad207 := (by injection e207)
                      have hn207_0 : ad202.block ≠ gb205 := Kd.own_blk (Kd.R_ne HO_7.out BK205.out (by decide))
                      have hn207_1 : ad202.block ≠ gb205 := Kd.own_blk (Kd.R_ne HO_7.out BK205.out (by decide))
                      replace hx207_0 := (cell_far (p := ⟨gb205, 0, none⟩) (by first | (rw [add_block]; exact hn207_0) | (show (Addr.add _ _).block ≠ _; rw [add_block]; exact hn207_0) | exact hn207_0) (.int .i64 t203)).trans hx207_0
                      replace hx207_1 := (cell_far (p := ⟨gb205, 0, none⟩) (by first | (rw [add_block]; exact hn207_0) | (show (Addr.add _ _).block ≠ _; rw [add_block]; exact hn207_0) | exact hn207_0) (.int .i64 t203)).trans hx207_1
                      replace hx207_2 := (cell_far (p := ⟨gb205, 0, none⟩) (by first | (rw [add_block]; exact hn207_0) | (show (Addr.add _ _).block ≠ _; rw [add_block]; exact hn207_0) | exact hn207_0) (.int .i64 t203)).trans hx207_2
                      replace hx207_0 := (cell_far (p := ⟨gb205, 1, none⟩) (by first | (rw [add_block]; exact hn207_1) | (show (Addr.add _ _).block ≠ _; rw [add_block]; exact hn207_1) | exact hn207_1) (.int .i64 t204)).trans hx207_0
                      replace hx207_1 := (cell_far (p := ⟨gb205, 1, none⟩) (by first | (rw [add_block]; exact hn207_1) | (show (Addr.add _ _).block ≠ _; rw [add_block]; exact hn207_1) | exact hn207_1) (.int .i64 t204)).trans hx207_1
                      replace hx207_2 := (cell_far (p := ⟨gb205, 1, none⟩) (by first | (rw [add_block]; exact hn207_1) | (show (Addr.add _ _).block ≠ _; rw [add_block]; exact hn207_1) | exact hn207_1) (.int .i64 t204)).trans hx207_2
                      clear hn207_0
                      clear hn207_1
                      replace p207 := eq_true p207
                      replace q207 := eq_true q207
                      go_wp2
                      go_meet
                      case rel => exact ⟨_, ((((rd_T38 t199 x8_2).f1) == 13)), (by first | rfl | (simp; done) | (simp [*]; done)), H', ⟨by have := HJ1.out; have := HK2.out; first | omega | exact Nat.le_refl _⟩, ⟨by (with_reducible repeat (first | apply Kd.R_alloc | apply Kd.R_drewN | apply Kd.R_drew)); exact Kd.R_mono (Kd.R_far (p := ⟨gb205, 1, none⟩) (Kd.R_far (p := ⟨gb205, 0, none⟩) (Kd.R_types HO_5.out BK205.out (by decide)) (fun _ hk => hk.2) (.int .i64 t203)) (fun _ hk => hk.2) (.int .i64 t204)) (fun _ hk => trivial)⟩, ⟨by (with_reducible repeat (first | apply Kd.R_alloc | apply Kd.R_drewN | apply Kd.R_drew)); exact Kd.R_mono (Kd.R_far (p := ⟨gb205, 1, none⟩) (Kd.R_far (p := ⟨gb205, 0, none⟩) (Kd.R_types HO_7.out BK205.out (by decide)) (fun _ hk => hk.2) (.int .i64 t203)) (fun _ hk => hk.2) (.int .i64 t204)) (fun _ hk => trivial)⟩, ⟨by (with_reducible repeat (first | refine blk_drewN ?_ _ | refine blk_drew ?_ | refine blk_alloc ?_ _)); refine blk_far ?_ NB198_205.out _; (with_reducible repeat (first | refine blk_drewN ?_ _ | refine blk_drew ?_ | refine blk_alloc ?_ _)); refine blk_far ?_ NB198_205.out _; (with_reducible repeat (first | refine blk_drewN ?_ _ | refine blk_drew ?_ | refine blk_alloc ?_ _)); exact BK198.out⟩, ⟨by (with_reducible repeat (first | refine blk_drewN ?_ _ | refine blk_drew ?_ | refine blk_alloc ?_ _)); refine blk_put (cs := #[.int .i64 t203, .int .i64 0]) ?_ 1 _ rfl; (with_reducible repeat (first | refine blk_drewN ?_ _ | refine blk_drew ?_ | refine blk_alloc ?_ _)); refine blk_put (cs := #[.int .i64 0, .int .i64 0]) ?_ 0 _ rfl; (with_reducible repeat (first | refine blk_drewN ?_ _ | refine blk_drew ?_ | refine blk_alloc ?_ _)); exact BK205.out⟩, ⟨by repeat (first | (with_reducible first | exact HB.out | apply below_alloc | apply pw_below_drewN | apply below_drew1 | refine below_set ?_ GE198.out | refine below_set ?_ GE205.out) | exact HB.out)⟩⟩
                  case rest =>
                    clear HC21
                    try clear c1
                    try clear c2
                    try clear p2
                    try clear q2
                    try clear hx2
                    try clear c4
                    try clear c7
                    try clear c9
                    try clear c10
                    try clear c11
                    try clear c11b0
                    try clear c11b1
                    try clear c14
                    try clear c18
                    try clear c18b0
                    try clear c19
                    try clear c19b0
                    try clear p20
                    try clear q20
                    try clear hx20
                    try clear c21
                    try clear c26
                    try clear c28
                    try clear c28b0
                    try clear c28b1
                    try clear hcz16_0
                    try clear hcz16_1
                    try clear hcz27_0
                    try clear hcz27_1
                    try clear hfz16_0
                    try clear hfz16_1
                    try clear hfz27_0
                    try clear hfz27_1
                    try clear hx202_0
                    try clear hx202_1
                    try clear hx202_2
                    try clear hx206_0
                    try clear hx206_1
                    try clear hx206_2
                    try clear hx207_0
                    try clear hx207_1
                    try clear hx207_2
                    try clear p2
                    try clear p202
                    try clear p206
                    try clear p207
                    try clear q202
                    try clear q206
                    try clear q207
                    obtain ⟨kq, x10_20, rfl, HA, HJ20, HO_5, HO_7, BK198, BK205, HB⟩ := hcut
                    cases kq with
                    | zero => exact absurd HA.out (by simp [whetstonelaw03_UtfBack.j2])
                    | succ kj20 =>
                      have H := HA.out
                      clear HA
                      simp only [whetstonelaw03_UtfBack.j2] at H
                      have HC29 := Aside0.mk H
                      clear H
                      go_upto_region 14 with (fail)
                      go_cut [72] from 1 to 0 (fun v72 wc => ∃ (kq : Nat) (x72_28 : Bool), v72 = .bool x72_28 ∧ Aside0 (whetstonelaw03_UtfBack.j3 kq l0 t195 t199 x8_2 x10_20 x72_28 x199000_2 x199001_2 t203 t204 = some r) ∧ Aside0 (kq ≤ kj20) ∧ Aside0 (Kd.R (Kd.int .i64) 3 wc w.heap.size (fun _ => True) (.slice Ao23 t195.length co23) t195) ∧ Aside0 (Kd.R k38 38 wc w.heap.size (fun _ => True) (.slice (some ad202) t199.length co22) t199) ∧ Aside0 (wc.heap[gb198]? = some (.cells #[.int .i64 x199000_2, .int .i64 x199001_2] 49 (0, 0))) ∧ Aside0 (wc.heap[gb205]? = some (.cells #[.int .i64 t203, .int .i64 t204] 49 (0, 0))) ∧ Aside0 (Below w.heap.size w wc))
                      case first =>
                        have H := HC29.out
                        clear HC29
                        by_cases c30 : x10_20 = true
                        · subst c30
                          have H1 : (whetstonelaw03_UtfBack.j3 kj20 l0 t195 t199 x8_2 true false x199000_2 x199001_2 t203 t204) = some r := by rw [if_pos rfl] at H; exact H
                          clear H
                          have H := H1
                          clear H1
                          have H' := Aside0.mk H
                          clear H
                          try go_wp2
                          have n0_ := Aside0.mk (Kd.R_drew HO_5.out)
                          have n1_ := Aside0.mk (Kd.R_drew HO_7.out)
                          have n2_ := Aside0.mk (blk_drew BK198.out)
                          have n3_ := Aside0.mk (blk_drew BK205.out)
                          have n4_ := Aside0.mk (below_drew1 HB.out)
                          clear HO_5
                          clear HO_7
                          clear BK198
                          clear BK205
                          clear HB
                          have HO_5 := n0_
                          have HO_7 := n1_
                          have BK198 := n2_
                          have BK205 := n3_
                          have HB := n4_
                          clear n0_ n1_ n2_ n3_ n4_
                          refine start_ (n := 14) (S := fun w' => True) (ds := []) #[false, false, false, false, false, false, false, false, false, false, false, false, false, false] (by kernel_rfl) rfl rfl trivial (fun hHeld => ?_); refine with_tabW whetstonelaw03_UtfBack.tab14 whetstonelaw03_UtfBack.bits14 (fun HT_ HW_ => ?_)
                          generalize wc.drew = w31 at HO_5 HO_7 BK198 BK205 HB hHeld ⊢
                          refine pure_ (i := 0) (N := some 59) (v := ?_) (a' := ?_) #[true, false, false, false, false, false, false, false, false, false, false, false, false, false] rfl rfl (any_of HT_.out (by kernel_rfl)) (fun _ _ _ h => h) (Or.inl ⟨by rfl, ?_⟩) ?_ ?_
                          rotate_left
                          · intro w'
                            go_simp
                            with_reducible rfl
                          rotate_left
                          · simp only [Act.put, List.setIfInBounds_toArray, List.set_cons_zero, List.set_cons_succ, i64_w, i32_w]
                            rfl
                          refine pure_ (i := 1) (N := some 60) (v := ?_) (a' := ?_) #[true, true, false, false, false, false, false, false, false, false, false, false, false, false] rfl rfl (any_of HT_.out (by kernel_rfl)) (fun _ _ _ h => h) (Or.inl ⟨by rfl, ?_⟩) ?_ ?_
                          rotate_left
                          · intro w'
                            go_simp
                            with_reducible rfl
                          rotate_left
                          · simp only [Act.put, List.setIfInBounds_toArray, List.set_cons_zero, List.set_cons_succ, i64_w, i32_w]
                            rfl
                          refine pure_ (i := 2) (N := some 61) (v := ?_) (a' := ?_) #[true, true, true, false, false, false, false, false, false, false, false, false, false, false] rfl rfl (any_of HT_.out (by kernel_rfl)) (fun _ _ _ h => h) (Or.inl ⟨by rfl, ?_⟩) ?_ ?_
                          rotate_left
                          · intro w'
                            go_simp
                            with_reducible rfl
                          rotate_left
                          · simp only [Act.put, List.setIfInBounds_toArray, List.set_cons_zero, List.set_cons_succ, i64_w, i32_w]
                            rfl
                          refine pure_ (i := 3) (N := some 62) (v := undef) (a' := ?_) #[true, true, true, true, false, false, false, false, false, false, false, false, false, false] rfl rfl (any_of HT_.out (by kernel_rfl)) (fun _ _ _ h => h) (Or.inr ⟨by rfl, rfl⟩) ?_ ?_
                          rotate_left
                          · simp only [Act.put, List.setIfInBounds_toArray, List.set_cons_zero, List.set_cons_succ, i64_w, i32_w]
                            rfl
                          refine pure_ (i := 4) (N := some 63) (v := undef) (a' := ?_) #[true, true, true, true, true, false, false, false, false, false, false, false, false, false] rfl rfl (any_of HT_.out (by kernel_rfl)) (fun _ _ _ h => h) (Or.inr ⟨by rfl, rfl⟩) ?_ ?_
                          rotate_left
                          · simp only [Act.put, List.setIfInBounds_toArray, List.set_cons_zero, List.set_cons_succ, i64_w, i32_w]
                            rfl
                          refine pure_ (i := 5) (N := some 64) (v := undef) (a' := ?_) #[true, true, true, true, true, true, false, false, false, false, false, false, false, false] rfl rfl (any_of HT_.out (by kernel_rfl)) (fun _ _ _ h => h) (Or.inr ⟨by rfl, rfl⟩) ?_ ?_
                          rotate_left
                          · simp only [Act.put, List.setIfInBounds_toArray, List.set_cons_zero, List.set_cons_succ, i64_w, i32_w]
                            rfl
                          refine pure_ (i := 6) (N := some 65) (v := undef) (a' := ?_) #[true, true, true, true, true, true, true, false, false, false, false, false, false, false] rfl rfl (any_of HT_.out (by kernel_rfl)) (fun _ _ _ h => h) (Or.inr ⟨by rfl, rfl⟩) ?_ ?_
                          rotate_left
                          · simp only [Act.put, List.setIfInBounds_toArray, List.set_cons_zero, List.set_cons_succ, i64_w, i32_w]
                            rfl
                          refine pure_ (i := 7) (N := some 66) (v := undef) (a' := ?_) #[true, true, true, true, true, true, true, true, false, false, false, false, false, false] rfl rfl (any_of HT_.out (by kernel_rfl)) (fun _ _ _ h => h) (Or.inr ⟨by rfl, rfl⟩) ?_ ?_
                          rotate_left
                          · simp only [Act.put, List.setIfInBounds_toArray, List.set_cons_zero, List.set_cons_succ, i64_w, i32_w]
                            rfl
                          refine pure_ (i := 8) (N := some 67) (v := undef) (a' := ?_) #[true, true, true, true, true, true, true, true, true, false, false, false, false, false] rfl rfl (any_of HT_.out (by kernel_rfl)) (fun _ _ _ h => h) (Or.inr ⟨by rfl, rfl⟩) ?_ ?_
                          rotate_left
                          · simp only [Act.put, List.setIfInBounds_toArray, List.set_cons_zero, List.set_cons_succ, i64_w, i32_w]
                            rfl
                          refine pure_ (i := 9) (N := some 68) (v := undef) (a' := ?_) #[true, true, true, true, true, true, true, true, true, true, false, false, false, false] rfl rfl (any_of HT_.out (by kernel_rfl)) (fun _ _ _ h => h) (Or.inr ⟨by rfl, rfl⟩) ?_ ?_
                          rotate_left
                          · simp only [Act.put, List.setIfInBounds_toArray, List.set_cons_zero, List.set_cons_succ, i64_w, i32_w]
                            rfl
                          refine pure_ (i := 10) (N := some 69) (v := undef) (a' := ?_) #[true, true, true, true, true, true, true, true, true, true, true, false, false, false] rfl rfl (any_of HT_.out (by kernel_rfl)) (fun _ _ _ h => h) (Or.inr ⟨by rfl, rfl⟩) ?_ ?_
                          rotate_left
                          · simp only [Act.put, List.setIfInBounds_toArray, List.set_cons_zero, List.set_cons_succ, i64_w, i32_w]
                            rfl
                          refine pure_ (i := 11) (N := some 70) (v := undef) (a' := ?_) #[true, true, true, true, true, true, true, true, true, true, true, true, false, false] rfl rfl (any_of HT_.out (by kernel_rfl)) (fun _ _ _ h => h) (Or.inr ⟨by rfl, rfl⟩) ?_ ?_
                          rotate_left
                          · simp only [Act.put, List.setIfInBounds_toArray, List.set_cons_zero, List.set_cons_succ, i64_w, i32_w]
                            rfl
                          refine pure_ (i := 12) (N := some 71) (v := undef) (a' := ?_) #[true, true, true, true, true, true, true, true, true, true, true, true, true, false] rfl rfl (any_of HT_.out (by kernel_rfl)) (fun _ _ _ h => h) (Or.inr ⟨by rfl, rfl⟩) ?_ ?_
                          rotate_left
                          · simp only [Act.put, List.setIfInBounds_toArray, List.set_cons_zero, List.set_cons_succ, i64_w, i32_w]
                            rfl
                          refine pure_ (i := 13) (N := some 72) (v := ?_) (a' := ?_) #[true, true, true, true, true, true, true, true, true, true, true, true, true, true] rfl rfl (any_of HT_.out (by kernel_rfl)) (fun _ _ _ h => h) (Or.inl ⟨by rfl, ?_⟩) ?_ ?_
                          rotate_left
                          · intro w'
                            go_simp
                            with_reducible rfl
                          rotate_left
                          · simp only [Act.put, List.setIfInBounds_toArray, List.set_cons_zero, List.set_cons_succ, i64_w, i32_w]
                            rfl
                          refine done_ (done_of HT_.out (by kernel_rfl)) ?_
                          try go_wp2
                          go_meet
                          case rel => exact ⟨_, (false), (by first | rfl | (simp; done) | (simp [*]; done)), H', ⟨by have := HJ1.out; have := HK2.out; have := HJ20.out; first | omega | exact Nat.le_refl _⟩, ⟨by (with_reducible repeat (first | apply Kd.R_alloc | apply Kd.R_drewN | apply Kd.R_drew)); exact HO_5.out⟩, ⟨by (with_reducible repeat (first | apply Kd.R_alloc | apply Kd.R_drewN | apply Kd.R_drew)); exact HO_7.out⟩, ⟨by (with_reducible repeat (first | refine blk_drewN ?_ _ | refine blk_drew ?_ | refine blk_alloc ?_ _)); exact BK198.out⟩, ⟨by (with_reducible repeat (first | refine blk_drewN ?_ _ | refine blk_drew ?_ | refine blk_alloc ?_ _)); exact BK205.out⟩, ⟨by repeat (first | (with_reducible first | exact HB.out | apply below_alloc | apply pw_below_drewN | apply below_drew1 | refine below_set ?_ GE198.out | refine below_set ?_ GE205.out) | exact HB.out)⟩⟩
                        · replace c30 := Bool.eq_false_iff.mpr c30
                          subst c30
                          have H1 : ((utf_Offset.f kj20 l0 t195 t203 t204).bind fun t208 => (if 0 ≤ x8_2 then (if x8_2 < (t199.length : Int) then (whetstonelaw03_UtfBack.j3 kj20 l0 t195 t199 x8_2 false (t208 != ((rd_T38 t199 x8_2).f0)) x199000_2 x199001_2 t203 t204) else (none)) else (none))) = some r := by rw [if_neg (show ¬ (false = true) by decide)] at H; exact H
                          clear H
                          have H := H1
                          clear H1
                          replace H := Option.bind_eq_some_iff.mp H
                          obtain ⟨t208, A320, H⟩ := H
                          replace H : (if 0 ≤ x8_2 then (if x8_2 < (t199.length : Int) then (whetstonelaw03_UtfBack.j3 kj20 l0 t195 t199 x8_2 false (t208 != ((rd_T38 t199 x8_2).f0)) x199000_2 x199001_2 t203 t204) else (none)) else (none)) = some r := H
                          have A32 := Aside0.mk A320
                          clear A320
                          by_cases c33 : 0 ≤ x8_2
                          · rw [if_pos c33] at H
                            have c33b0 : decide (0 ≤ x8_2) = true := decide_eq_true c33
                            clear c33
                            (first | rw [c33b0] | rw [c33b1] | (simp only [i64_w, i32_w]; rw [c33b0]) | skip)
                            by_cases c34 : x8_2 < (t199.length : Int)
                            · rw [if_pos c34] at H
                              have c34b0 : decide (x8_2 < (t199.length : Int)) = true := decide_eq_true c34
                              clear c34
                              have H' := Aside0.mk H
                              clear H
                              try go_wp2
                              have n0_ := Aside0.mk (Kd.R_drew HO_5.out)
                              have n1_ := Aside0.mk (Kd.R_drew HO_7.out)
                              have n2_ := Aside0.mk (blk_drew BK198.out)
                              have n3_ := Aside0.mk (blk_drew BK205.out)
                              have n4_ := Aside0.mk (below_drew1 HB.out)
                              clear HO_5
                              clear HO_7
                              clear BK198
                              clear BK205
                              clear HB
                              have HO_5 := n0_
                              have HO_7 := n1_
                              have BK198 := n2_
                              have BK205 := n3_
                              have HB := n4_
                              clear n0_ n1_ n2_ n3_ n4_
                              have p209 : 0 ≤ (x8_2 : Int) := of_decide_eq_true (by first | (with_reducible assumption) | assumption)
                              have q209 : x8_2 < (t199.length : Int) := of_decide_eq_true (by first | (with_reducible assumption) | assumption)
                              obtain ⟨ad209, e209, hx209_0, hx209_1, hx209_2⟩ := at_T38 (Kd.R_reads' HO_7.out).2.2 x8_2 p209 q209
                              obtain rfl : ad202 = ad209 := (by injection e209)
                              replace p209 := eq_true p209
                              replace q209 := eq_true q209
                              refine start_ (n := 14) (S := fun w' => w'.cell? ⟨gb205, 0, none⟩ = some (.int .i64 t203) ∧ w'.cell? ⟨gb205, 1, none⟩ = some (.int .i64 t204) ∧ w'.cell? (ad202.add ((x8_2).toNat * 3)) = some (.int .i64 ((rd_T38 t199 x8_2).f0)) ∧ w'.cell? ⟨(ad202.add ((x8_2).toNat * 3)).block, (ad202.add ((x8_2).toNat * 3)).off + 1, none⟩ = some (.int .i64 ((rd_T38 t199 x8_2).f1)) ∧ w'.cell? ⟨(ad202.add ((x8_2).toNat * 3)).block, (ad202.add ((x8_2).toNat * 3)).off + 2, none⟩ = some (.int .i64 ((rd_T38 t199 x8_2).f2))) (ds := []) #[false, false, false, false, false, false, false, false, false, false, false, false, false, false] (by kernel_rfl) rfl rfl ⟨(blk_cell BK205.out 0).trans rfl, (blk_cell BK205.out 1).trans rfl, hx209_0, hx209_1, hx209_2⟩ (fun hHeld => ?_); refine with_tabW whetstonelaw03_UtfBack.tab14 whetstonelaw03_UtfBack.bits14 (fun HT_ HW_ => ?_)
                              generalize wc.drew = w35 at HO_5 HO_7 BK198 BK205 HB hx209_0 hx209_1 hx209_2 hHeld ⊢
                              refine pure_ (i := 0) (N := some 59) (v := ?_) (a' := ?_) #[true, false, false, false, false, false, false, false, false, false, false, false, false, false] rfl rfl (any_of HT_.out (by kernel_rfl)) (fun _ _ _ h => h) (Or.inl ⟨by rfl, ?_⟩) ?_ ?_
                              rotate_left
                              · intro w'
                                go_simp
                                with_reducible rfl
                              rotate_left
                              · simp only [Act.put, List.setIfInBounds_toArray, List.set_cons_zero, List.set_cons_succ, i64_w, i32_w]
                                rfl
                              refine pure_ (i := 1) (N := some 60) (v := ?_) (a' := ?_) #[true, true, false, false, false, false, false, false, false, false, false, false, false, false] rfl rfl (any_of HT_.out (by kernel_rfl)) (fun _ _ _ h => h) (Or.inl ⟨by rfl, ?_⟩) ?_ ?_
                              rotate_left
                              · intro w'
                                go_simp
                                with_reducible rfl
                              rotate_left
                              · simp only [Act.put, List.setIfInBounds_toArray, List.set_cons_zero, List.set_cons_succ, i64_w, i32_w]
                                rfl
                              refine pure_ (i := 2) (N := some 61) (v := ?_) (a' := ?_) #[true, true, true, false, false, false, false, false, false, false, false, false, false, false] rfl rfl (any_of HT_.out (by kernel_rfl)) (fun _ _ _ h => h) (Or.inl ⟨by rfl, ?_⟩) ?_ ?_
                              rotate_left
                              · intro w'
                                go_simp
                                with_reducible rfl
                              rotate_left
                              · simp only [Act.put, List.setIfInBounds_toArray, List.set_cons_zero, List.set_cons_succ, i64_w, i32_w]
                                rfl
                              refine pure_ (i := 3) (N := some 62) (v := ?_) (a' := ?_) #[true, true, true, true, false, false, false, false, false, false, false, false, false, false] rfl rfl (any_of HT_.out (by kernel_rfl)) (fun _ _ _ h => h) (Or.inl ⟨by rfl, ?_⟩) ?_ ?_
                              rotate_left
                              · intro w'
                                go_simp
                                with_reducible rfl
                              rotate_left
                              · simp only [Act.put, List.setIfInBounds_toArray, List.set_cons_zero, List.set_cons_succ, i64_w, i32_w]
                                rfl
                              refine pure_ (i := 4) (N := some 63) (v := ?_) (a' := ?_) #[true, true, true, true, true, false, false, false, false, false, false, false, false, false] rfl rfl (any_of HT_.out (by kernel_rfl)) (fun _ _ _ h => h) (Or.inl ⟨by rfl, ?_⟩) ?_ ?_
                              rotate_left
                              · intro w'
                                go_simp
                                with_reducible rfl
                              rotate_left
                              · simp only [Act.put, List.setIfInBounds_toArray, List.set_cons_zero, List.set_cons_succ, i64_w, i32_w]
                                rfl
                              refine pure_ (i := 7) (N := some 66) (v := ?_) (a' := ?_) #[true, true, true, true, true, false, false, true, false, false, false, false, false, false] rfl rfl (any_of HT_.out (by kernel_rfl)) (fun _ _ _ h => h) (Or.inl ⟨by rfl, ?_⟩) ?_ ?_
                              rotate_left
                              · intro w'
                                go_simp
                                with_reducible rfl
                              rotate_left
                              · simp only [Act.put, List.setIfInBounds_toArray, List.set_cons_zero, List.set_cons_succ, i64_w, i32_w]
                                rfl
                              refine pure_ (i := 8) (N := some 67) (v := ?_) (a' := ?_) #[true, true, true, true, true, false, false, true, true, false, false, false, false, false] rfl rfl (any_of HT_.out (by kernel_rfl)) (fun _ _ _ h => h) (Or.inl ⟨by rfl, ?_⟩) ?_ ?_
                              rotate_left
                              · intro w'
                                go_simp
                                with_reducible rfl
                              rotate_left
                              · simp only [Act.put, List.setIfInBounds_toArray, List.set_cons_zero, List.set_cons_succ, i64_w, i32_w]
                                rfl
                              refine pure_ (i := 9) (N := some 68) (v := ?_) (a' := ?_) #[true, true, true, true, true, false, false, true, true, true, false, false, false, false] rfl rfl (any_of HT_.out (by kernel_rfl)) (fun _ _ _ h => h) (Or.inl ⟨by rfl, ?_⟩) ?_ ?_
                              rotate_left
                              · intro w'
                                go_simp
                                with_reducible rfl
                              rotate_left
                              · simp only [Act.put, List.setIfInBounds_toArray, List.set_cons_zero, List.set_cons_succ, i64_w, i32_w]
                                rfl
                              refine pure_ (i := 10) (N := some 69) (v := ?_) (a' := ?_) #[true, true, true, true, true, false, false, true, true, true, true, false, false, false] rfl rfl (any_of HT_.out (by kernel_rfl)) (fun _ _ _ h => h) (Or.inl ⟨by rfl, ?_⟩) ?_ ?_
                              rotate_left
                              · intro w'
                                go_simp
                                with_reducible rfl
                              rotate_left
                              · simp only [Act.put, List.setIfInBounds_toArray, List.set_cons_zero, List.set_cons_succ, i64_w, i32_w]
                                rfl
                              refine take_ (i := 5) (N := some 64) (v := ?_) (a' := ?_) #[true, true, true, true, true, true, false, true, true, true, true, false, false, false] rfl rfl (take_ofW HT_.out HW_.out (by kernel_rfl)) (fun _ _ _ h => h) (Or.inl ⟨by rfl, ?_⟩) hHeld ?_ ?_
                              rotate_left
                              · rintro w' ⟨s0, s1, s2, s3, s4⟩
                                go_simp
                                with_reducible rfl
                              rotate_left
                              · simp only [Act.put, List.setIfInBounds_toArray, List.set_cons_zero, List.set_cons_succ, i64_w, i32_w]
                                rfl
                              refine take_ (i := 11) (N := some 70) (v := ?_) (a' := ?_) #[true, true, true, true, true, true, false, true, true, true, true, true, false, false] rfl rfl (take_ofW HT_.out HW_.out (by kernel_rfl)) (fun _ _ _ h => h) (Or.inl ⟨by rfl, ?_⟩) hHeld ?_ ?_
                              rotate_left
                              · rintro w' ⟨s0, s1, s2, s3, s4⟩
                                go_simp
                                with_reducible rfl
                              rotate_left
                              · simp only [Act.put, List.setIfInBounds_toArray, List.set_cons_zero, List.set_cons_succ, i64_w, i32_w]
                                rfl
                              refine one_ (i := 6) (N := some 65) #[true, true, true, true, true, true, true, true, true, true, true, true, false, false] rfl rfl (one_of HT_.out (by kernel_rfl)) (by decide) (fun K hK => ?_)
                              refine goes_ Try.func22 (by kernel_rfl) rfl #[.slice A0 l0.length c0, .slice Ao23 t195.length co23, .agg #[.int .i64 t203, .int .i64 t204]] (by rfl) rfl rfl (by (try simp only [List.map_toArray, List.map_cons, List.map_nil]); first | done | rfl | (simp only [List.length_drop, List.length_take]; rfl)) ?_
                              with_reducible refine (utf_Offset.calls kj20 _ _ l0 _ _ t195 t203 t204 t208 _ ?side1 ?side2 ?side3 ?side4 A32.out).mono ?_
                              (case side1 => repeat (first | exact (Kd.C_below HR0.out HB.out) | (with_reducible refine Kd.C_alloc ?_ _) | (with_reducible refine Kd.C_drewN ?_ _) | (with_reducible refine Kd.C_drew ?_)))
                              (case side2 => exact HC0.out)
                              (case side3 => repeat (first | exact (Kd.R_reads' HO_5.out).2.2 | (with_reducible refine Kd.C_alloc ?_ _) | (with_reducible refine Kd.C_drewN ?_ _) | (with_reducible refine Kd.C_drew ?_)))
                              (case side4 => exact (Kd.R_reads' HO_5.out).2.1)
                              rintro e w36 ⟨rfl, hb⟩
                              have HS2_ := (hb.cell (World.block_lt_of_cell? _ _ (hHeld.2.2.1))).trans (hHeld.2.2.1)
                              have HS3_ := (hb.cell (World.block_lt_of_cell? _ _ (hHeld.2.2.2.1))).trans (hHeld.2.2.2.1)
                              have HS4_ := (hb.cell (World.block_lt_of_cell? _ _ (hHeld.2.2.2.2))).trans (hHeld.2.2.2.2)
                              refine ⟨_, rfl, ?_⟩
                              have n0_ := Aside0.mk (Kd.R_below (by (with_reducible repeat (first | apply Kd.R_alloc | apply Kd.R_drewN | apply Kd.R_drew)); exact HO_5.out) hb)
                              have n1_ := Aside0.mk (Kd.R_below (by (with_reducible repeat (first | apply Kd.R_alloc | apply Kd.R_drewN | apply Kd.R_drew)); exact HO_7.out) hb)
                              have n2_ := Aside0.mk (blk_below (g := gb198) (o := .cells #[.int .i64 x199000_2, .int .i64 x199001_2] 49 (0, 0)) (by (with_reducible repeat (first | refine blk_drewN ?_ _ | refine blk_drew ?_ | refine blk_alloc ?_ _)); exact BK198.out) hb)
                              have n3_ := Aside0.mk (blk_below (g := gb205) (o := .cells #[.int .i64 t203, .int .i64 t204] 49 (0, 0)) (by (with_reducible repeat (first | refine blk_drewN ?_ _ | refine blk_drew ?_ | refine blk_alloc ?_ _)); exact BK205.out) hb)
                              have n4_ := Aside0.mk (below_step (by repeat (first | (with_reducible first | exact HB.out | apply below_alloc | apply pw_below_drewN | apply below_drew1 | refine below_set ?_ GE198.out | refine below_set ?_ GE205.out) | exact HB.out)) hb)
                              clear HO_5
                              clear HO_7
                              clear BK198
                              clear BK205
                              clear HB
                              have HO_5 := n0_
                              have HO_7 := n1_
                              have BK198 := n2_
                              have BK205 := n3_
                              have HB := n4_
                              clear n0_ n1_ n2_ n3_ n4_
                              (try clear hb)
                              (try clear hb2)
                              (try clear hk)
                              (try clear hi)
                              refine hK.out _ _ ⟨(blk_cell BK205.out 0).trans rfl, (blk_cell BK205.out 1).trans rfl, HS2_, HS3_, HS4_⟩ (fun hHeld => ?_)
                              clear hK K
                              refine norm_ (a' := ?_) ?_ ?_
                              rotate_left
                              · show Act.put _ (some 65) _ = _
                                simp only [Act.put, List.setIfInBounds_toArray, List.set_cons_zero, List.set_cons_succ, i64_w, i32_w]
                                rfl
                              refine pure_ (i := 12) (N := some 71) (v := ?_) (a' := ?_) #[true, true, true, true, true, true, true, true, true, true, true, true, true, false] rfl rfl (any_of HT_.out (by kernel_rfl)) (fun _ _ _ h => h) (Or.inl ⟨by rfl, ?_⟩) ?_ ?_
                              rotate_left
                              · intro w'
                                go_simp
                                with_reducible rfl
                              rotate_left
                              · simp only [Act.put, List.setIfInBounds_toArray, List.set_cons_zero, List.set_cons_succ, i64_w, i32_w]
                                rfl
                              refine pure_ (i := 13) (N := some 72) (v := ?_) (a' := ?_) #[true, true, true, true, true, true, true, true, true, true, true, true, true, true] rfl rfl (any_of HT_.out (by kernel_rfl)) (fun _ _ _ h => h) (Or.inl ⟨by rfl, ?_⟩) ?_ ?_
                              rotate_left
                              · intro w'
                                go_simp
                                with_reducible rfl
                              rotate_left
                              · simp only [Act.put, List.setIfInBounds_toArray, List.set_cons_zero, List.set_cons_succ, i64_w, i32_w]
                                rfl
                              refine done_ (done_of HT_.out (by kernel_rfl)) ?_
                              try go_wp2
                              go_meet
                              case rel => exact ⟨_, ((t208 != ((rd_T38 t199 x8_2).f0))), (by first | rfl | (simp; done) | (simp [*]; done)), H', ⟨by have := HJ1.out; have := HK2.out; have := HJ20.out; first | omega | exact Nat.le_refl _⟩, ⟨by (with_reducible repeat (first | apply Kd.R_alloc | apply Kd.R_drewN | apply Kd.R_drew)); exact HO_5.out⟩, ⟨by (with_reducible repeat (first | apply Kd.R_alloc | apply Kd.R_drewN | apply Kd.R_drew)); exact HO_7.out⟩, ⟨by (with_reducible repeat (first | refine blk_drewN ?_ _ | refine blk_drew ?_ | refine blk_alloc ?_ _)); exact BK198.out⟩, ⟨by (with_reducible repeat (first | refine blk_drewN ?_ _ | refine blk_drew ?_ | refine blk_alloc ?_ _)); exact BK205.out⟩, ⟨by repeat (first | (with_reducible first | exact HB.out | apply below_alloc | apply pw_below_drewN | apply below_drew1 | refine below_set ?_ GE198.out | refine below_set ?_ GE205.out) | exact HB.out)⟩⟩
                            · rw [if_neg c34] at H
                              exact absurd H (by simp)
                          · rw [if_neg c33] at H
                            exact absurd H (by simp)
                      case rest =>
                        clear HC29
                        try clear c1
                        try clear c2
                        try clear p2
                        try clear q2
                        try clear hx2
                        try clear c3
                        try clear c4
                        try clear c7
                        try clear c9
                        try clear c10
                        try clear c11
                        try clear c11b0
                        try clear c11b1
                        try clear c14
                        try clear c18
                        try clear c18b0
                        try clear c19
                        try clear c19b0
                        try clear p20
                        try clear q20
                        try clear hx20
                        try clear c21
                        try clear c22
                        try clear c26
                        try clear c28
                        try clear c28b0
                        try clear c28b1
                        try clear c30
                        try clear c33
                        try clear c33b0
                        try clear c34
                        try clear c34b0
                        try clear hcz16_0
                        try clear hcz16_1
                        try clear hcz27_0
                        try clear hcz27_1
                        try clear hfz16_0
                        try clear hfz16_1
                        try clear hfz27_0
                        try clear hfz27_1
                        try clear hx202_0
                        try clear hx202_1
                        try clear hx202_2
                        try clear hx206_0
                        try clear hx206_1
                        try clear hx206_2
                        try clear hx207_0
                        try clear hx207_1
                        try clear hx207_2
                        try clear hx209_0
                        try clear hx209_1
                        try clear hx209_2
                        try clear p2
                        try clear p20
                        try clear p202
                        try clear p206
                        try clear p207
                        try clear p209
                        try clear q2
                        try clear q20
                        try clear q202
                        try clear q206
                        try clear q207
                        try clear q209
                        obtain ⟨kq, x72_28, rfl, HA, HJ28, HO_5, HO_7, BK198, BK205, HB⟩ := hcut
                        cases kq with
                        | zero => exact absurd HA.out (by simp [whetstonelaw03_UtfBack.j3])
                        | succ kj28 =>
                          have H := HA.out
                          clear HA
                          simp only [whetstonelaw03_UtfBack.j3] at H
                          by_cases c37 : x72_28 = true
                          · subst c37
                            have H1 : (some false) = some r := by rw [if_pos rfl] at H; exact H
                            clear H
                            have H := H1
                            clear H1
                            obtain rfl := Option.some.inj H
                            go_wp2
                            go_ret
                            exact ⟨by first | rfl | (simp [errW_none, errW_some] <;> rfl) | (simp [*, errW_none, errW_some] <;> rfl), by repeat (first | (with_reducible first | exact HB.out | apply below_alloc | apply pw_below_drewN | apply below_drew1 | refine below_set ?_ GE198.out | refine below_set ?_ GE205.out) | exact HB.out)⟩
                          · replace c37 := Bool.eq_false_iff.mpr c37
                            subst c37
                            have H1 : (if t203 < x199000_2 then (whetstonelaw03_UtfBack.j4 kj28 l0 t195 t199 x8_2 x10_20 true t203 t204) else (if t203 = x199000_2 then (if t204 < x199001_2 then (whetstonelaw03_UtfBack.j4 kj28 l0 t195 t199 x8_2 x10_20 true t203 t204) else (if x10_20 = true then (whetstonelaw03_UtfBack.j4 kj28 l0 t195 t199 x8_2 x10_20 false t203 t204) else (whetstonelaw03_UtfBack.j4 kj28 l0 t195 t199 x8_2 x10_20 (t203 == x199000_2 && (t204 == x199001_2)) t203 t204))) else (if x10_20 = true then (whetstonelaw03_UtfBack.j4 kj28 l0 t195 t199 x8_2 x10_20 false t203 t204) else (whetstonelaw03_UtfBack.j4 kj28 l0 t195 t199 x8_2 x10_20 (t203 == x199000_2 && (t204 == x199001_2)) t203 t204)))) = some r := by rw [if_neg (show ¬ (false = true) by decide)] at H; exact H
                            clear H
                            have H := H1
                            clear H1
                            have HC38 := Aside0.mk H
                            clear H
                            go_upto_region 16 with (fail)
                            go_cut [100] from 1 to 0 (fun v100 wc => ∃ (kq : Nat) (x100_37 : Bool), v100 = .bool x100_37 ∧ Aside0 (whetstonelaw03_UtfBack.j4 kq l0 t195 t199 x8_2 x10_20 x100_37 t203 t204 = some r) ∧ Aside0 (kq ≤ kj28) ∧ Aside0 (Kd.R (Kd.int .i64) 3 wc w.heap.size (fun _ => True) (.slice Ao23 t195.length co23) t195) ∧ Aside0 (Kd.R k38 38 wc w.heap.size (fun _ => True) (.slice (some ad202) t199.length co22) t199) ∧ Aside0 (wc.heap[gb198]? = some (.cells #[.int .i64 x199000_2, .int .i64 x199001_2] 49 (0, 0))) ∧ Aside0 (wc.heap[gb205]? = some (.cells #[.int .i64 t203, .int .i64 t204] 49 (0, 0))) ∧ Aside0 (Below w.heap.size w wc))
                            case first =>
                              have H := HC38.out
                              clear HC38
                              by_cases c39 : t203 < x199000_2
                              · rw [if_pos c39] at H
                                have c39b0 : decide (t203 < x199000_2) = true := decide_eq_true c39
                                clear c39
                                (first | rw [c39b0] | rw [c39b1] | (simp only [i64_w, i32_w]; rw [c39b0]) | skip)
                                have H' := Aside0.mk H
                                clear H
                                have hnb40 := NB205_198.out
                                have hnc40 := NB198_205.out
                                have hcz41_0 : wc.cell? ⟨gb205, 0, none⟩ = some (.int .i64 t203) := (blk_cell BK205.out 0).trans rfl
                                have hcz41_1 : wc.cell? ⟨gb205, 1, none⟩ = some (.int .i64 t204) := (blk_cell BK205.out 1).trans rfl
                                have hfz41_0 := blk_frozen BK205.out 0
                                have hfz41_1 := blk_frozen BK205.out 1
                                have hcz42_0 : wc.cell? ⟨gb198, 0, none⟩ = some (.int .i64 x199000_2) := (blk_cell BK198.out 0).trans rfl
                                have hcz42_1 : wc.cell? ⟨gb198, 1, none⟩ = some (.int .i64 x199001_2) := (blk_cell BK198.out 1).trans rfl
                                have hfz42_0 := blk_frozen BK198.out 0
                                have hfz42_1 := blk_frozen BK198.out 1
                                go_wp2
                                go_meet
                                case rel => exact ⟨_, (true), (by first | rfl | (simp; done) | (simp [*]; done)), H', ⟨by have := HJ1.out; have := HK2.out; have := HJ20.out; have := HJ28.out; first | omega | exact Nat.le_refl _⟩, ⟨by (with_reducible repeat (first | apply Kd.R_alloc | apply Kd.R_drewN | apply Kd.R_drew)); exact HO_5.out⟩, ⟨by (with_reducible repeat (first | apply Kd.R_alloc | apply Kd.R_drewN | apply Kd.R_drew)); exact HO_7.out⟩, ⟨by (with_reducible repeat (first | refine blk_drewN ?_ _ | refine blk_drew ?_ | refine blk_alloc ?_ _)); exact BK198.out⟩, ⟨by (with_reducible repeat (first | refine blk_drewN ?_ _ | refine blk_drew ?_ | refine blk_alloc ?_ _)); exact BK205.out⟩, ⟨by repeat (first | (with_reducible first | exact HB.out | apply below_alloc | apply pw_below_drewN | apply below_drew1 | refine below_set ?_ GE198.out | refine below_set ?_ GE205.out) | exact HB.out)⟩⟩
                              · rw [if_neg c39] at H
                                have c39b0 : decide (t203 < x199000_2) = false := decide_eq_false c39
                                clear c39
                                (first | rw [c39b0] | rw [c39b1] | (simp only [i64_w, i32_w]; rw [c39b0]) | skip)
                                by_cases c43 : t203 = x199000_2
                                · rw [if_pos c43] at H
                                  have c43b0 : (t203 == x199000_2) = true := beq_iff_eq.mpr c43
                                  have c43b1 : (t203 != x199000_2) = false := bne_eq_false_iff_eq.mpr c43
                                  clear c43
                                  by_cases c44 : t204 < x199001_2
                                  · rw [if_pos c44] at H
                                    have c44b0 : decide (t204 < x199001_2) = true := decide_eq_true c44
                                    clear c44
                                    have H' := Aside0.mk H
                                    clear H
                                    have hnb45 := NB205_198.out
                                    have hnc45 := NB198_205.out
                                    have hcz46_0 : wc.cell? ⟨gb205, 0, none⟩ = some (.int .i64 t203) := (blk_cell BK205.out 0).trans rfl
                                    have hcz46_1 : wc.cell? ⟨gb205, 1, none⟩ = some (.int .i64 t204) := (blk_cell BK205.out 1).trans rfl
                                    have hfz46_0 := blk_frozen BK205.out 0
                                    have hfz46_1 := blk_frozen BK205.out 1
                                    have hcz47_0 : wc.cell? ⟨gb198, 0, none⟩ = some (.int .i64 x199000_2) := (blk_cell BK198.out 0).trans rfl
                                    have hcz47_1 : wc.cell? ⟨gb198, 1, none⟩ = some (.int .i64 x199001_2) := (blk_cell BK198.out 1).trans rfl
                                    have hfz47_0 := blk_frozen BK198.out 0
                                    have hfz47_1 := blk_frozen BK198.out 1
                                    go_wp2
                                    go_meet
                                    case rel => exact ⟨_, (true), (by first | rfl | (simp; done) | (simp [*]; done)), H', ⟨by have := HJ1.out; have := HK2.out; have := HJ20.out; have := HJ28.out; first | omega | exact Nat.le_refl _⟩, ⟨by (with_reducible repeat (first | apply Kd.R_alloc | apply Kd.R_drewN | apply Kd.R_drew)); exact HO_5.out⟩, ⟨by (with_reducible repeat (first | apply Kd.R_alloc | apply Kd.R_drewN | apply Kd.R_drew)); exact HO_7.out⟩, ⟨by (with_reducible repeat (first | refine blk_drewN ?_ _ | refine blk_drew ?_ | refine blk_alloc ?_ _)); exact BK198.out⟩, ⟨by (with_reducible repeat (first | refine blk_drewN ?_ _ | refine blk_drew ?_ | refine blk_alloc ?_ _)); exact BK205.out⟩, ⟨by repeat (first | (with_reducible first | exact HB.out | apply below_alloc | apply pw_below_drewN | apply below_drew1 | refine below_set ?_ GE198.out | refine below_set ?_ GE205.out) | exact HB.out)⟩⟩
                                  · rw [if_neg c44] at H
                                    have c44b0 : decide (t204 < x199001_2) = false := decide_eq_false c44
                                    clear c44
                                    by_cases c48 : x10_20 = true
                                    · subst c48
                                      have H1 : (whetstonelaw03_UtfBack.j4 kj28 l0 t195 t199 x8_2 true false t203 t204) = some r := by rw [if_pos rfl] at H; exact H
                                      clear H
                                      have H := H1
                                      clear H1
                                      have H' := Aside0.mk H
                                      clear H
                                      have hnb49 := NB205_198.out
                                      have hnc49 := NB198_205.out
                                      have hcz50_0 : wc.cell? ⟨gb205, 0, none⟩ = some (.int .i64 t203) := (blk_cell BK205.out 0).trans rfl
                                      have hcz50_1 : wc.cell? ⟨gb205, 1, none⟩ = some (.int .i64 t204) := (blk_cell BK205.out 1).trans rfl
                                      have hfz50_0 := blk_frozen BK205.out 0
                                      have hfz50_1 := blk_frozen BK205.out 1
                                      have hcz51_0 : wc.cell? ⟨gb198, 0, none⟩ = some (.int .i64 x199000_2) := (blk_cell BK198.out 0).trans rfl
                                      have hcz51_1 : wc.cell? ⟨gb198, 1, none⟩ = some (.int .i64 x199001_2) := (blk_cell BK198.out 1).trans rfl
                                      have hfz51_0 := blk_frozen BK198.out 0
                                      have hfz51_1 := blk_frozen BK198.out 1
                                      go_wp2
                                      go_meet
                                      case rel => exact ⟨_, (false), (by first | rfl | (simp; done) | (simp [*]; done)), H', ⟨by have := HJ1.out; have := HK2.out; have := HJ20.out; have := HJ28.out; first | omega | exact Nat.le_refl _⟩, ⟨by (with_reducible repeat (first | apply Kd.R_alloc | apply Kd.R_drewN | apply Kd.R_drew)); exact HO_5.out⟩, ⟨by (with_reducible repeat (first | apply Kd.R_alloc | apply Kd.R_drewN | apply Kd.R_drew)); exact HO_7.out⟩, ⟨by (with_reducible repeat (first | refine blk_drewN ?_ _ | refine blk_drew ?_ | refine blk_alloc ?_ _)); exact BK198.out⟩, ⟨by (with_reducible repeat (first | refine blk_drewN ?_ _ | refine blk_drew ?_ | refine blk_alloc ?_ _)); exact BK205.out⟩, ⟨by repeat (first | (with_reducible first | exact HB.out | apply below_alloc | apply pw_below_drewN | apply below_drew1 | refine below_set ?_ GE198.out | refine below_set ?_ GE205.out) | exact HB.out)⟩⟩
                                    · replace c48 := Bool.eq_false_iff.mpr c48
                                      subst c48
                                      have H1 : (whetstonelaw03_UtfBack.j4 kj28 l0 t195 t199 x8_2 false (t203 == x199000_2 && (t204 == x199001_2)) t203 t204) = some r := by rw [if_neg (show ¬ (false = true) by decide)] at H; exact H
                                      clear H
                                      have H := H1
                                      clear H1
                                      have H' := Aside0.mk H
                                      clear H
                                      have hnb52 := NB205_198.out
                                      have hnc52 := NB198_205.out
                                      have hcz53_0 : wc.cell? ⟨gb205, 0, none⟩ = some (.int .i64 t203) := (blk_cell BK205.out 0).trans rfl
                                      have hcz53_1 : wc.cell? ⟨gb205, 1, none⟩ = some (.int .i64 t204) := (blk_cell BK205.out 1).trans rfl
                                      have hfz53_0 := blk_frozen BK205.out 0
                                      have hfz53_1 := blk_frozen BK205.out 1
                                      have hcz54_0 : wc.cell? ⟨gb198, 0, none⟩ = some (.int .i64 x199000_2) := (blk_cell BK198.out 0).trans rfl
                                      have hcz54_1 : wc.cell? ⟨gb198, 1, none⟩ = some (.int .i64 x199001_2) := (blk_cell BK198.out 1).trans rfl
                                      have hfz54_0 := blk_frozen BK198.out 0
                                      have hfz54_1 := blk_frozen BK198.out 1
                                      go_wp2
                                      go_meet
                                      case rel => exact ⟨_, ((t203 == x199000_2 && (t204 == x199001_2))), (by first | rfl | (simp; done) | (simp [*]; done)), H', ⟨by have := HJ1.out; have := HK2.out; have := HJ20.out; have := HJ28.out; first | omega | exact Nat.le_refl _⟩, ⟨by (with_reducible repeat (first | apply Kd.R_alloc | apply Kd.R_drewN | apply Kd.R_drew)); exact HO_5.out⟩, ⟨by (with_reducible repeat (first | apply Kd.R_alloc | apply Kd.R_drewN | apply Kd.R_drew)); exact HO_7.out⟩, ⟨by (with_reducible repeat (first | refine blk_drewN ?_ _ | refine blk_drew ?_ | refine blk_alloc ?_ _)); exact BK198.out⟩, ⟨by (with_reducible repeat (first | refine blk_drewN ?_ _ | refine blk_drew ?_ | refine blk_alloc ?_ _)); exact BK205.out⟩, ⟨by repeat (first | (with_reducible first | exact HB.out | apply below_alloc | apply pw_below_drewN | apply below_drew1 | refine below_set ?_ GE198.out | refine below_set ?_ GE205.out) | exact HB.out)⟩⟩
                                · rw [if_neg c43] at H
                                  have c43b0 : (t203 == x199000_2) = false := beq_eq_false_iff_ne.mpr c43
                                  have c43b1 : (t203 != x199000_2) = true := bne_iff_ne.mpr c43
                                  by_cases c55 : x10_20 = true
                                  · subst c55
                                    have H1 : (whetstonelaw03_UtfBack.j4 kj28 l0 t195 t199 x8_2 true false t203 t204) = some r := by rw [if_pos rfl] at H; exact H
                                    clear H
                                    have H := H1
                                    clear H1
                                    have H' := Aside0.mk H
                                    clear H
                                    have hnb56 := NB205_198.out
                                    have hnc56 := NB198_205.out
                                    have hcz57_0 : wc.cell? ⟨gb205, 0, none⟩ = some (.int .i64 t203) := (blk_cell BK205.out 0).trans rfl
                                    have hcz57_1 : wc.cell? ⟨gb205, 1, none⟩ = some (.int .i64 t204) := (blk_cell BK205.out 1).trans rfl
                                    have hfz57_0 := blk_frozen BK205.out 0
                                    have hfz57_1 := blk_frozen BK205.out 1
                                    have hcz58_0 : wc.cell? ⟨gb198, 0, none⟩ = some (.int .i64 x199000_2) := (blk_cell BK198.out 0).trans rfl
                                    have hcz58_1 : wc.cell? ⟨gb198, 1, none⟩ = some (.int .i64 x199001_2) := (blk_cell BK198.out 1).trans rfl
                                    have hfz58_0 := blk_frozen BK198.out 0
                                    have hfz58_1 := blk_frozen BK198.out 1
                                    go_wp2
                                    go_meet
                                    case rel => exact ⟨_, (false), (by first | rfl | (simp; done) | (simp [*]; done)), H', ⟨by have := HJ1.out; have := HK2.out; have := HJ20.out; have := HJ28.out; first | omega | exact Nat.le_refl _⟩, ⟨by (with_reducible repeat (first | apply Kd.R_alloc | apply Kd.R_drewN | apply Kd.R_drew)); exact HO_5.out⟩, ⟨by (with_reducible repeat (first | apply Kd.R_alloc | apply Kd.R_drewN | apply Kd.R_drew)); exact HO_7.out⟩, ⟨by (with_reducible repeat (first | refine blk_drewN ?_ _ | refine blk_drew ?_ | refine blk_alloc ?_ _)); exact BK198.out⟩, ⟨by (with_reducible repeat (first | refine blk_drewN ?_ _ | refine blk_drew ?_ | refine blk_alloc ?_ _)); exact BK205.out⟩, ⟨by repeat (first | (with_reducible first | exact HB.out | apply below_alloc | apply pw_below_drewN | apply below_drew1 | refine below_set ?_ GE198.out | refine below_set ?_ GE205.out) | exact HB.out)⟩⟩
                                  · replace c55 := Bool.eq_false_iff.mpr c55
                                    subst c55
                                    have H1 : (whetstonelaw03_UtfBack.j4 kj28 l0 t195 t199 x8_2 false (t203 == x199000_2 && (t204 == x199001_2)) t203 t204) = some r := by rw [if_neg (show ¬ (false = true) by decide)] at H; exact H
                                    clear H
                                    have H := H1
                                    clear H1
                                    have H' := Aside0.mk H
                                    clear H
                                    have hnb59 := NB205_198.out
                                    have hnc59 := NB198_205.out
                                    have hcz60_0 : wc.cell? ⟨gb205, 0, none⟩ = some (.int .i64 t203) := (blk_cell BK205.out 0).trans rfl
                                    have hcz60_1 : wc.cell? ⟨gb205, 1, none⟩ = some (.int .i64 t204) := (blk_cell BK205.out 1).trans rfl
                                    have hfz60_0 := blk_frozen BK205.out 0
                                    have hfz60_1 := blk_frozen BK205.out 1
                                    have hcz61_0 : wc.cell? ⟨gb198, 0, none⟩ = some (.int .i64 x199000_2) := (blk_cell BK198.out 0).trans rfl
                                    have hcz61_1 : wc.cell? ⟨gb198, 1, none⟩ = some (.int .i64 x199001_2) := (blk_cell BK198.out 1).trans rfl
                                    have hfz61_0 := blk_frozen BK198.out 0
                                    have hfz61_1 := blk_frozen BK198.out 1
                                    go_wp2
                                    go_meet
                                    case rel => exact ⟨_, ((t203 == x199000_2 && (t204 == x199001_2))), (by first | rfl | (simp; done) | (simp [*]; done)), H', ⟨by have := HJ1.out; have := HK2.out; have := HJ20.out; have := HJ28.out; first | omega | exact Nat.le_refl _⟩, ⟨by (with_reducible repeat (first | apply Kd.R_alloc | apply Kd.R_drewN | apply Kd.R_drew)); exact HO_5.out⟩, ⟨by (with_reducible repeat (first | apply Kd.R_alloc | apply Kd.R_drewN | apply Kd.R_drew)); exact HO_7.out⟩, ⟨by (with_reducible repeat (first | refine blk_drewN ?_ _ | refine blk_drew ?_ | refine blk_alloc ?_ _)); exact BK198.out⟩, ⟨by (with_reducible repeat (first | refine blk_drewN ?_ _ | refine blk_drew ?_ | refine blk_alloc ?_ _)); exact BK205.out⟩, ⟨by repeat (first | (with_reducible first | exact HB.out | apply below_alloc | apply pw_below_drewN | apply below_drew1 | refine below_set ?_ GE198.out | refine below_set ?_ GE205.out) | exact HB.out)⟩⟩
                            case rest =>
                              clear HC38
                              try clear c1
                              try clear c2
                              try clear p2
                              try clear q2
                              try clear hx2
                              try clear c3
                              try clear c4
                              try clear c5
                              try clear c7
                              try clear c9
                              try clear c10
                              try clear c11
                              try clear c11b0
                              try clear c11b1
                              try clear c14
                              try clear c18
                              try clear c18b0
                              try clear c19
                              try clear c19b0
                              try clear p20
                              try clear q20
                              try clear hx20
                              try clear c21
                              try clear c22
                              try clear c26
                              try clear c28
                              try clear c28b0
                              try clear c28b1
                              try clear c30
                              try clear c33
                              try clear c33b0
                              try clear c34
                              try clear c34b0
                              try clear c37
                              try clear c39
                              try clear c39b0
                              try clear c40
                              try clear c43
                              try clear c43b0
                              try clear c43b1
                              try clear c44
                              try clear c44b0
                              try clear c45
                              try clear c48
                              try clear c49
                              try clear c52
                              try clear c55
                              try clear c56
                              try clear c59
                              try clear hcz16_0
                              try clear hcz16_1
                              try clear hcz27_0
                              try clear hcz27_1
                              try clear hcz41_0
                              try clear hcz41_1
                              try clear hcz42_0
                              try clear hcz42_1
                              try clear hcz46_0
                              try clear hcz46_1
                              try clear hcz47_0
                              try clear hcz47_1
                              try clear hcz50_0
                              try clear hcz50_1
                              try clear hcz51_0
                              try clear hcz51_1
                              try clear hcz53_0
                              try clear hcz53_1
                              try clear hcz54_0
                              try clear hcz54_1
                              try clear hcz57_0
                              try clear hcz57_1
                              try clear hcz58_0
                              try clear hcz58_1
                              try clear hcz60_0
                              try clear hcz60_1
                              try clear hcz61_0
                              try clear hcz61_1
                              try clear hfz16_0
                              try clear hfz16_1
                              try clear hfz27_0
                              try clear hfz27_1
                              try clear hfz41_0
                              try clear hfz41_1
                              try clear hfz42_0
                              try clear hfz42_1
                              try clear hfz46_0
                              try clear hfz46_1
                              try clear hfz47_0
                              try clear hfz47_1
                              try clear hfz50_0
                              try clear hfz50_1
                              try clear hfz51_0
                              try clear hfz51_1
                              try clear hfz53_0
                              try clear hfz53_1
                              try clear hfz54_0
                              try clear hfz54_1
                              try clear hfz57_0
                              try clear hfz57_1
                              try clear hfz58_0
                              try clear hfz58_1
                              try clear hfz60_0
                              try clear hfz60_1
                              try clear hfz61_0
                              try clear hfz61_1
                              try clear hx202_0
                              try clear hx202_1
                              try clear hx202_2
                              try clear hx206_0
                              try clear hx206_1
                              try clear hx206_2
                              try clear hx207_0
                              try clear hx207_1
                              try clear hx207_2
                              try clear hx209_0
                              try clear hx209_1
                              try clear hx209_2
                              try clear p2
                              try clear p20
                              try clear p202
                              try clear p206
                              try clear p207
                              try clear p209
                              try clear q2
                              try clear q20
                              try clear q202
                              try clear q206
                              try clear q207
                              try clear q209
                              obtain ⟨kq, x100_37, rfl, HA, HJ37, HO_5, HO_7, BK198, BK205, HB⟩ := hcut
                              cases kq with
                              | zero => exact absurd HA.out (by simp [whetstonelaw03_UtfBack.j4])
                              | succ kj37 =>
                                have H := HA.out
                                clear HA
                                simp only [whetstonelaw03_UtfBack.j4] at H
                                by_cases c62 : x100_37 = true
                                · subst c62
                                  have H1 : (some false) = some r := by rw [if_pos rfl] at H; exact H
                                  clear H
                                  have H := H1
                                  clear H1
                                  obtain rfl := Option.some.inj H
                                  go_wp2
                                  go_ret
                                  exact ⟨by first | rfl | (simp [errW_none, errW_some] <;> rfl) | (simp [*, errW_none, errW_some] <;> rfl), by repeat (first | (with_reducible first | exact HB.out | apply below_alloc | apply pw_below_drewN | apply below_drew1 | refine below_set ?_ GE198.out | refine below_set ?_ GE205.out) | exact HB.out)⟩
                                · replace c62 := Bool.eq_false_iff.mpr c62
                                  subst c62
                                  have H1 : (if x10_20 = true then (whetstonelaw03_UtfBack.l0 kj37 l0 t195 t199 (wrap64 (x8_2 + 1)) t203 (wrap64 (t204 - 1))) else (whetstonelaw03_UtfBack.l0 kj37 l0 t195 t199 (wrap64 (x8_2 + 1)) t203 t204)) = some r := by rw [if_neg (show ¬ (false = true) by decide)] at H; exact H
                                  clear H
                                  have H := H1
                                  clear H1
                                  by_cases c63 : x10_20 = true
                                  · subst c63
                                    have H1 : (whetstonelaw03_UtfBack.l0 kj37 l0 t195 t199 (wrap64 (x8_2 + 1)) t203 (wrap64 (t204 - 1))) = some r := by rw [if_pos rfl] at H; exact H
                                    clear H
                                    have H := H1
                                    clear H1
                                    have H' := Aside0.mk H
                                    clear H
                                    have hnb64 := NB205_198.out
                                    have hnc64 := NB198_205.out
                                    have hcz65_0 : wc.cell? ⟨gb205, 0, none⟩ = some (.int .i64 t203) := (blk_cell BK205.out 0).trans rfl
                                    have hcz65_1 : wc.cell? ⟨gb205, 1, none⟩ = some (.int .i64 t204) := (blk_cell BK205.out 1).trans rfl
                                    have hfz65_0 := blk_frozen BK205.out 0
                                    have hfz65_1 := blk_frozen BK205.out 1
                                    have hcz66_0 : wc.cell? ⟨gb198, 0, none⟩ = some (.int .i64 x199000_2) := (blk_cell BK198.out 0).trans rfl
                                    have hcz66_1 : wc.cell? ⟨gb198, 1, none⟩ = some (.int .i64 x199001_2) := (blk_cell BK198.out 1).trans rfl
                                    have hfz66_0 := blk_frozen BK198.out 0
                                    have hfz66_1 := blk_frozen BK198.out 1
                                    go_wp2
                                    go_roundg kj37
                                    case measure => have := HJ1.out; have := HK2.out; have := HJ20.out; have := HJ28.out; have := HJ37.out; omega
                                    case rel => exact ⟨(wrap64 (x8_2 + 1)), (t203), (wrap64 (t204 - 1)), (by first | rfl | (simp; done) | (simp [*]; done)), H', ⟨by have := HJ1.out; have := HK2.out; have := HJ20.out; have := HJ28.out; have := HJ37.out; omega⟩, ⟨by (with_reducible repeat (first | apply Kd.R_alloc | apply Kd.R_drewN | apply Kd.R_drew)); exact Kd.R_mono (Kd.R_far (p := ⟨gb198, 1, none⟩) (Kd.R_far (p := ⟨gb198, 1, none⟩) (Kd.R_far (p := ⟨gb198, 0, none⟩) (Kd.R_types HO_5.out BK198.out (by decide)) (fun _ hk => hk.2) (.int .i64 t203)) (fun _ hk => hk.2) (.int .i64 t204)) (fun _ hk => hk.2) (.int .i64 (wrap64 (t204 - 1)))) (fun _ hk => trivial)⟩, ⟨by (with_reducible repeat (first | apply Kd.R_alloc | apply Kd.R_drewN | apply Kd.R_drew)); exact Kd.R_mono (Kd.R_far (p := ⟨gb198, 1, none⟩) (Kd.R_far (p := ⟨gb198, 1, none⟩) (Kd.R_far (p := ⟨gb198, 0, none⟩) (Kd.R_types HO_7.out BK198.out (by decide)) (fun _ hk => hk.2) (.int .i64 t203)) (fun _ hk => hk.2) (.int .i64 t204)) (fun _ hk => hk.2) (.int .i64 (wrap64 (t204 - 1)))) (fun _ hk => trivial)⟩, ⟨by (with_reducible repeat (first | refine blk_drewN ?_ _ | refine blk_drew ?_ | refine blk_alloc ?_ _)); refine blk_put (cs := #[.int .i64 t203, .int .i64 t204]) ?_ 1 _ rfl; (with_reducible repeat (first | refine blk_drewN ?_ _ | refine blk_drew ?_ | refine blk_alloc ?_ _)); refine blk_put (cs := #[.int .i64 t203, .int .i64 x199001_2]) ?_ 1 _ rfl; (with_reducible repeat (first | refine blk_drewN ?_ _ | refine blk_drew ?_ | refine blk_alloc ?_ _)); refine blk_put (cs := #[.int .i64 x199000_2, .int .i64 x199001_2]) ?_ 0 _ rfl; (with_reducible repeat (first | refine blk_drewN ?_ _ | refine blk_drew ?_ | refine blk_alloc ?_ _)); exact BK198.out⟩, ⟨by repeat (first | (with_reducible first | exact HB.out | apply below_alloc | apply pw_below_drewN | apply below_drew1 | refine below_set ?_ GE198.out | refine below_set ?_ GE205.out) | exact HB.out)⟩⟩
                                  · replace c63 := Bool.eq_false_iff.mpr c63
                                    subst c63
                                    have H1 : (whetstonelaw03_UtfBack.l0 kj37 l0 t195 t199 (wrap64 (x8_2 + 1)) t203 t204) = some r := by rw [if_neg (show ¬ (false = true) by decide)] at H; exact H
                                    clear H
                                    have H := H1
                                    clear H1
                                    have H' := Aside0.mk H
                                    clear H
                                    have hnb67 := NB205_198.out
                                    have hnc67 := NB198_205.out
                                    have hcz68_0 : wc.cell? ⟨gb205, 0, none⟩ = some (.int .i64 t203) := (blk_cell BK205.out 0).trans rfl
                                    have hcz68_1 : wc.cell? ⟨gb205, 1, none⟩ = some (.int .i64 t204) := (blk_cell BK205.out 1).trans rfl
                                    have hfz68_0 := blk_frozen BK205.out 0
                                    have hfz68_1 := blk_frozen BK205.out 1
                                    have hcz69_0 : wc.cell? ⟨gb198, 0, none⟩ = some (.int .i64 x199000_2) := (blk_cell BK198.out 0).trans rfl
                                    have hcz69_1 : wc.cell? ⟨gb198, 1, none⟩ = some (.int .i64 x199001_2) := (blk_cell BK198.out 1).trans rfl
                                    have hfz69_0 := blk_frozen BK198.out 0
                                    have hfz69_1 := blk_frozen BK198.out 1
                                    go_wp2
                                    go_roundg kj37
                                    case measure => have := HJ1.out; have := HK2.out; have := HJ20.out; have := HJ28.out; have := HJ37.out; omega
                                    case rel => exact ⟨(wrap64 (x8_2 + 1)), (t203), (t204), (by first | rfl | (simp; done) | (simp [*]; done)), H', ⟨by have := HJ1.out; have := HK2.out; have := HJ20.out; have := HJ28.out; have := HJ37.out; omega⟩, ⟨by (with_reducible repeat (first | apply Kd.R_alloc | apply Kd.R_drewN | apply Kd.R_drew)); exact Kd.R_mono (Kd.R_far (p := ⟨gb198, 1, none⟩) (Kd.R_far (p := ⟨gb198, 0, none⟩) (Kd.R_types HO_5.out BK198.out (by decide)) (fun _ hk => hk.2) (.int .i64 t203)) (fun _ hk => hk.2) (.int .i64 t204)) (fun _ hk => trivial)⟩, ⟨by (with_reducible repeat (first | apply Kd.R_alloc | apply Kd.R_drewN | apply Kd.R_drew)); exact Kd.R_mono (Kd.R_far (p := ⟨gb198, 1, none⟩) (Kd.R_far (p := ⟨gb198, 0, none⟩) (Kd.R_types HO_7.out BK198.out (by decide)) (fun _ hk => hk.2) (.int .i64 t203)) (fun _ hk => hk.2) (.int .i64 t204)) (fun _ hk => trivial)⟩, ⟨by (with_reducible repeat (first | refine blk_drewN ?_ _ | refine blk_drew ?_ | refine blk_alloc ?_ _)); refine blk_put (cs := #[.int .i64 t203, .int .i64 x199001_2]) ?_ 1 _ rfl; (with_reducible repeat (first | refine blk_drewN ?_ _ | refine blk_drew ?_ | refine blk_alloc ?_ _)); refine blk_put (cs := #[.int .i64 x199000_2, .int .i64 x199001_2]) ?_ 0 _ rfl; (with_reducible repeat (first | refine blk_drewN ?_ _ | refine blk_drew ?_ | refine blk_alloc ?_ _)); exact BK198.out⟩, ⟨by repeat (first | (with_reducible first | exact HB.out | apply below_alloc | apply pw_below_drewN | apply below_drew1 | refine below_set ?_ GE198.out | refine below_set ?_ GE205.out) | exact HB.out)⟩⟩
                · rw [if_neg c19] at H
                  exact absurd H (by simp)
              · rw [if_neg c18] at H
                have c18b0 : decide (x8_2 < (t199.length : Int)) = false := decide_eq_false c18
                clear c18
                obtain rfl := Option.some.inj H
                obtain ⟨Ao70, co70, eo70⟩ := Kd.R_slice HO_7.out
                subst eo70
                go_wp2
                go_ret
                exact ⟨by first | rfl | (simp [errW_none, errW_some] <;> rfl) | (simp [*, errW_none, errW_some] <;> rfl), by repeat (first | (with_reducible first | exact HB.out | apply below_alloc | apply pw_below_drewN | apply below_drew1 | refine below_set ?_ GE198.out) | exact HB.out)⟩
        · rw [if_neg c11] at H
          have c11b0 : (t194 == 0) = false := beq_eq_false_iff_ne.mpr c11
          have c11b1 : (t194 != 0) = true := bne_iff_ne.mpr c11
          obtain rfl := Option.some.inj H
          go_wp2_with (first | ((with_reducible refine gate_callee (f := 10) rfl ?_); refine goesL_ (some 21) rfl rfl Try.func10 (by kernel_rfl) rfl #[.slice A0 l0.length c0] rfl (by (try simp only [List.map_toArray, List.map_cons, List.map_nil]); first | done | rfl | (simp only [List.length_drop, List.length_take]; rfl)) ?_; (with_reducible refine (utf_Valid.calls kj1 _ _ l0 t193 t194 _ ?side1 ?side2 A10.out).mono ?_); (case side1 => repeat (first | exact (Kd.C_below HR0.out HB.out) | (with_reducible refine Kd.C_alloc ?_ _) | (with_reducible refine Kd.C_drewN ?_ _) | (with_reducible refine Kd.C_drew ?_))); (case side2 => exact HC0.out); rintro e w' ⟨rfl, ⟨nd, rfl⟩⟩; refine ⟨_, rfl, ?_⟩))
          go_ret
          exact ⟨by first | rfl | (simp [errW_none, errW_some] <;> rfl) | (simp [*, errW_none, errW_some] <;> rfl), by repeat (first | (with_reducible first | exact HB.out | apply below_alloc | apply pw_below_drewN | apply below_drew1) | exact HB.out)⟩

/-- THE ONE PURE STATEMENT of whetstonelaw03_UtfBack: yours. -/
def whetstonelaw03_UtfBack.Pure : Prop := ∀ (l0 : List Int), l0.length ≤ maxLen → l0.length * 1 ≤ 140737488351232 → (∀ x ∈ l0, (Lit.int .u8 x).wf = true) → ∃ k, whetstonelaw03_UtfBack.f k l0 = some true
theorem whetstonelaw03_UtfBack.walk (P : whetstonelaw03_UtfBack.Pure) (a0 : Option Addr) (len0 cap0 : Nat) (z0 : List Int) (w : World) (w0 : (a0 = none ∧ len0 = 0 ∧ cap0 = 0 ∧ z0 = []) ∨ ∃ x, a0 = some x ∧ len0 ≤ cap0 ∧ cap0 ≤ maxLen ∧ z0.length = cap0 ∧ (∀ i, i < z0.length → w.cell? (x.add i) = some (.int .u8 (z0.getD i 0))) ∧ ∀ n ∈ z0, (Lit.int .u8 n).wf = true) (y0 : len0 * 1 ≤ 140737488351232) :
    Calls Try.prog 7 #[.slice a0 len0 cap0] w fun e w' => e = .returned (.bool true) ∧ Below w.heap.size w w' := by
  obtain ⟨l0, rfl, hr0, hm0, hw0, hc0⟩ := ReadsInt.ofRowC w0
  obtain ⟨k, h⟩ := P l0 hm0 y0 hw0
  refine (whetstonelaw03_UtfBack.calls k _ _ l0 true w (Kd.C_of_reads (d := (0 : Int)) (h1 := fun _ => rfl) hr0) hc0 h).mono ?_
  rintro e w' ⟨rfl, hd⟩
  exact ⟨rfl, hd⟩

end Go.Proofs.Ytpphijljdoojdaa.QUtfBack
