-- written by wip/wprint, a program of this session
import Derived.Test.YtfcnmgeokjemmaaQTopNumbersx0
import Derived.Test.YtfcnmgeokjemmaaQTopNumbersx3
import Derived.Test.YtfcnmgeokjemmaaQTopNumbersx4
import Derived.Test.YtfcnmgeokjemmaaQTopNumbersx6
import Derived.Test.YtfcnmgeokjemmaaQTopNumbersx7
import Derived.Test.YtfcnmgeokjemmaaQTopNumbersx8
import Derived.Test.YtfcnmgeokjemmaaQTopNumbersx12
namespace Go.Proofs.Ytfcnmgeokjemmaa.QTopNumbers
open Go.RowKit Go.Proofs.YtfcnmgeokjemmaaW.PrintWords Go.Proofs.YtfcnmgeokjemmaaW.PrintLast Go.Proofs.YtfcnmgeokjemmaaW.PrintMore
open Go.Proofs.YtfcnmgeokjemmaaW.PrintWords.Kd renaming R_alloc → qa, R_drewN → qn, R_drew → qd, V_alloc → va, V_drewN → vn, V_drew → vd
open Go.Proofs.YtfcnmgeokjemmaaW.PrintWords renaming below_alloc → ba, pw_below_drewN → bn, below_drew1 → bd
attribute [local go_sem] max2_int min2_int max_two min_two max_three min_three max_four min_four   -- for this text's walks alone
set_option linter.unusedVariables false
set_option linter.unusedSimpArgs false

/-! ### whetstonetop_TopNumbers: function 3 -/
mutual
def whetstonetop_TopNumbers.j0 : Nat → Bool → Bool → List Int → Bool → List Int → Bool → List Int → Option (Bool)
 | 0, _, _, _, _, _, _, _ => none
 | k + 1, x41, x434000, x434001, x435000, x435001, x436000, x436001 => if x41 = true then (none) else (if (x434001.length : Int) > 8 then (whetstonetop_TopNumbers.j1 k true x434000 x434001 x435000 x435001 x436000 x436001) else (if (x435001.length : Int) > 8 then (whetstonetop_TopNumbers.j1 k true x434000 x434001 x435000 x435001 x436000 x436001) else (whetstonetop_TopNumbers.j1 k (decide ((x436001.length : Int) > 8)) x434000 x434001 x435000 x435001 x436000 x436001)))
def whetstonetop_TopNumbers.j1 : Nat → Bool → Bool → List Int → Bool → List Int → Bool → List Int → Option (Bool)
 | 0, _, _, _, _, _, _, _ => none
 | k + 1, x57, x434000, x434001, x435000, x435001, x436000, x436001 => if x57 = true then (some true) else ((big_Mul.f k x434000 x434001 x435000 x435001).bind fun bt443 => ((big_Add.f k bt443.1 bt443.2 x436000 x436001).bind fun bt447 => ((big_Text.f k bt447.1 bt447.2).bind fun t452 => ((big_Parse.f k t452).bind fun bt453 => ((nat_Text.f k bt447.2).bind fun t459 => ((nat_Parse.f k t459).bind fun bt460 => (if bt453.2.2 = 0 then (if bt460.2 = 0 then ((big_Cmp.f k bt453.1 bt453.2.1 bt447.1 bt447.2).bind fun t464 => (if t464 = 0 then ((nat_Cmp.f k bt460.1 bt447.2).bind fun t465 => (if t465 = 0 then ((big_Sub.f k bt453.1 bt453.2.1 x436000 x436001).bind fun bt466 => ((big_Mul.f k x435000 x435001 x434000 x434001).bind fun bt470 => ((big_Cmp.f k bt466.1 bt466.2 bt470.1 bt470.2).bind fun t474 => (whetstonetop_TopNumbers.j2 k (t474 != 0) x434000 x434001 x435000 x435001 x436000 x436001 bt447.1 bt447.2)))) else (whetstonetop_TopNumbers.j2 k true x434000 x434001 x435000 x435001 x436000 x436001 bt447.1 bt447.2))) else (whetstonetop_TopNumbers.j2 k true x434000 x434001 x435000 x435001 x436000 x436001 bt447.1 bt447.2))) else (whetstonetop_TopNumbers.j2 k true x434000 x434001 x435000 x435001 x436000 x436001 bt447.1 bt447.2)) else (whetstonetop_TopNumbers.j2 k true x434000 x434001 x435000 x435001 x436000 x436001 bt447.1 bt447.2))))))))
def whetstonetop_TopNumbers.j2 : Nat → Bool → Bool → List Int → Bool → List Int → Bool → List Int → Bool → List Int → Option (Bool)
 | 0, _, _, _, _, _, _, _, _, _ => none
 | k + 1, x104, x434000, x434001, x435000, x435001, x436000, x436001, x452000, x452001 => if x104 = true then (none) else ((big_Sign.f k x435000 x435001).bind fun t475 => (if t475 = 0 then ((big_Cmp.f k x452000 x452001 x436000 x436001).bind fun t476 => (some (t476 == 0))) else ((big_DivMod.f k x452000 x452001 x435000 x435001).bind fun bt477 => ((big_DivMod.f k x436000 x436001 x435000 x435001).bind fun bt488 => (if bt477.2.2.2.2 = 0 then (if bt488.2.2.2.2 = 0 then ((big_Cmp.f k bt477.2.2.1 bt477.2.2.2.1 bt488.2.2.1 bt488.2.2.2.1).bind fun t499 => (if t499 = 0 then ((big_Add.f k x434000 x434001 bt488.1 bt488.2.1).bind fun bt500 => ((big_Cmp.f k bt477.1 bt477.2.1 bt500.1 bt500.2).bind fun t504 => (some (t504 == 0)))) else (none))) else (none)) else (none))))))
end
def whetstonetop_TopNumbers.f (k : Nat) (a0_0 : Bool) (l0_1 : List Int) (a1_0 : Bool) (l1_1 : List Int) (a2_0 : Bool) (l2_1 : List Int) : Option (Bool) := (big_Parse.f k (⟨#[45, 49, 56, 52, 52, 54, 55, 52, 52, 48, 55, 51, 55, 48, 57, 53, 53, 49, 54, 49, 54]⟩ : ByteArray)).bind fun bt436 => (if bt436.2.2 = 0 then (if (bt436.2.1.length : Int) = 3 then (if bt436.1 = true then ((nat_Text.f k bt436.2.1).bind fun t442 => (whetstonetop_TopNumbers.j0 k (t442.toList != ([49, 56, 52, 52, 54, 55, 52, 52, 48, 55, 51, 55, 48, 57, 53, 53, 49, 54, 49, 54] : List UInt8)) a0_0 l0_1 a1_0 l1_1 a2_0 l2_1)) else (whetstonetop_TopNumbers.j0 k true a0_0 l0_1 a1_0 l1_1 a2_0 l2_1)) else (whetstonetop_TopNumbers.j0 k true a0_0 l0_1 a1_0 l1_1 a2_0 l2_1)) else (whetstonetop_TopNumbers.j0 k true a0_0 l0_1 a1_0 l1_1 a2_0 l2_1))
theorem whetstonetop_TopNumbers.mono_l : ∀ k, (∀ y0 y1 y2 y3 y4 y5 y6, LeO (whetstonetop_TopNumbers.j0 k y0 y1 y2 y3 y4 y5 y6) (whetstonetop_TopNumbers.j0 (k + 1) y0 y1 y2 y3 y4 y5 y6)) ∧ (∀ y0 y1 y2 y3 y4 y5 y6, LeO (whetstonetop_TopNumbers.j1 k y0 y1 y2 y3 y4 y5 y6) (whetstonetop_TopNumbers.j1 (k + 1) y0 y1 y2 y3 y4 y5 y6)) ∧ (∀ y0 y1 y2 y3 y4 y5 y6 y7 y8, LeO (whetstonetop_TopNumbers.j2 k y0 y1 y2 y3 y4 y5 y6 y7 y8) (whetstonetop_TopNumbers.j2 (k + 1) y0 y1 y2 y3 y4 y5 y6 y7 y8))
 | 0 => ⟨fun _ _ _ _ _ _ _ r h => by simp [whetstonetop_TopNumbers.j0] at h, fun _ _ _ _ _ _ _ r h => by simp [whetstonetop_TopNumbers.j1] at h, fun _ _ _ _ _ _ _ _ _ r h => by simp [whetstonetop_TopNumbers.j2] at h⟩
 | k + 1 => by
  obtain ⟨ih0, ih1, ih2⟩ := whetstonetop_TopNumbers.mono_l k
  refine ⟨?_, ?_, ?_⟩
  ·intro y0 y1 y2 y3 y4 y5 y6
   unfold whetstonetop_TopNumbers.j0
   repeat' with_reducible first | exact ih0 _ _ _ _ _ _ _ | exact ih1 _ _ _ _ _ _ _ | exact ih2 _ _ _ _ _ _ _ _ _ | exact big_Add.mono _ _ _ _ _ | exact big_Cmp.mono _ _ _ _ _ | exact big_DivMod.mono _ _ _ _ _ | exact big_Mul.mono _ _ _ _ _ | exact big_Parse.mono _ _ | exact big_Sign.mono _ _ _ | exact big_Sub.mono _ _ _ _ _ | exact big_Text.mono _ _ _ | exact nat_Cmp.mono _ _ _ | exact nat_Parse.mono _ _ | exact nat_Text.mono _ _ | exact LeO.refl _ | exact LeO.none _ | refine LeO.ite ?_ ?_ | refine LeO.bind ?_ (fun _ => ?_)
  ·intro y0 y1 y2 y3 y4 y5 y6
   unfold whetstonetop_TopNumbers.j1
   repeat' with_reducible first | exact ih0 _ _ _ _ _ _ _ | exact ih1 _ _ _ _ _ _ _ | exact ih2 _ _ _ _ _ _ _ _ _ | exact big_Add.mono _ _ _ _ _ | exact big_Cmp.mono _ _ _ _ _ | exact big_DivMod.mono _ _ _ _ _ | exact big_Mul.mono _ _ _ _ _ | exact big_Parse.mono _ _ | exact big_Sign.mono _ _ _ | exact big_Sub.mono _ _ _ _ _ | exact big_Text.mono _ _ _ | exact nat_Cmp.mono _ _ _ | exact nat_Parse.mono _ _ | exact nat_Text.mono _ _ | exact LeO.refl _ | exact LeO.none _ | refine LeO.ite ?_ ?_ | refine LeO.bind ?_ (fun _ => ?_)
  ·intro y0 y1 y2 y3 y4 y5 y6 y7 y8
   unfold whetstonetop_TopNumbers.j2
   repeat' with_reducible first | exact ih0 _ _ _ _ _ _ _ | exact ih1 _ _ _ _ _ _ _ | exact ih2 _ _ _ _ _ _ _ _ _ | exact big_Add.mono _ _ _ _ _ | exact big_Cmp.mono _ _ _ _ _ | exact big_DivMod.mono _ _ _ _ _ | exact big_Mul.mono _ _ _ _ _ | exact big_Parse.mono _ _ | exact big_Sign.mono _ _ _ | exact big_Sub.mono _ _ _ _ _ | exact big_Text.mono _ _ _ | exact nat_Cmp.mono _ _ _ | exact nat_Parse.mono _ _ | exact nat_Text.mono _ _ | exact LeO.refl _ | exact LeO.none _ | refine LeO.ite ?_ ?_ | refine LeO.bind ?_ (fun _ => ?_)
theorem whetstonetop_TopNumbers.mono : ∀ a0 a1 a2 a3 a4 a5 k, LeO (whetstonetop_TopNumbers.f k a0 a1 a2 a3 a4 a5) (whetstonetop_TopNumbers.f (k + 1) a0 a1 a2 a3 a4 a5) := by
 intro a0 a1 a2 a3 a4 a5 k
 obtain ⟨ih0, ih1, ih2⟩ := whetstonetop_TopNumbers.mono_l k
 unfold whetstonetop_TopNumbers.f
 repeat' with_reducible first | exact ih0 _ _ _ _ _ _ _ | exact ih1 _ _ _ _ _ _ _ | exact ih2 _ _ _ _ _ _ _ _ _ | exact big_Add.mono _ _ _ _ _ | exact big_Cmp.mono _ _ _ _ _ | exact big_DivMod.mono _ _ _ _ _ | exact big_Mul.mono _ _ _ _ _ | exact big_Parse.mono _ _ | exact big_Sign.mono _ _ _ | exact big_Sub.mono _ _ _ _ _ | exact big_Text.mono _ _ _ | exact nat_Cmp.mono _ _ _ | exact nat_Parse.mono _ _ | exact nat_Text.mono _ _ | exact LeO.refl _ | exact LeO.none _ | refine LeO.ite ?_ ?_ | refine LeO.bind ?_ (fun _ => ?_)
def whetstonetop_TopNumbers.T9 : Bool × List (List Nat × List Nat) := (true, [([], []), ([0], [0]), ([1], [1]), ([2], [2]), ([3, 2], [2, 3]), ([2, 4], [2, 4]), ([5, 2], [5]), ([6], [6]), ([6], [6]), ([7, 8, 6, 6], [6, 7, 8]), ([9, 6], [6, 9]), ([6, 10], [6, 10]), ([11, 9], [11]), ([12], [12]), ([12], [12]), ([14, 12], [12, 14]), ([13, 15, 12, 12], [12, 13, 15]), ([16, 12], [12, 16]), ([12, 17], [12, 17]), ([18, 16], [18]), ([19], [19]), ([19], [19]), ([20, 21, 19, 19], [19, 20, 21]), ([19], [19]), ([19], [19]), ([23, 24, 22, 19], [19, 23, 24]), ([22, 25, 25, 19], [19, 22, 25]), ([26, 19], [19, 26]), ([19, 27], [19, 27])])
def whetstonetop_TopNumbers.B9 : List Nat := [0, 1, 3, 7, 15, 31, 63, 127, 127, 511, 1023, 2047, 4095, 8191, 8191, 24575, 65535, 131071, 262143, 524287, 1048575, 1048575, 4194303, 1048575, 1048575, 33554431, 67108863, 134217727, 268435455]
theorem whetstonetop_TopNumbers.tab9 : rtab .any (opsOf Try.f3 9) = whetstonetop_TopNumbers.T9 := by kernel_rfl
theorem whetstonetop_TopNumbers.bits9 : waitsOk whetstonetop_TopNumbers.T9.2 whetstonetop_TopNumbers.B9 = true := by kernel_rfl
def whetstonetop_TopNumbers.T15 : Bool × List (List Nat × List Nat) := (true, [([], []), ([0], [0]), ([1], [1]), ([2], [2]), ([3, 2], [2, 3]), ([2, 4], [2, 4]), ([5, 2], [5]), ([6], [6]), ([6], [6]), ([7, 8, 6, 6], [6, 7, 8]), ([9, 6], [6, 9]), ([6, 10], [6, 10]), ([11, 9], [11]), ([12], [12]), ([12], [12]), ([12], [12]), ([14, 15, 12, 12], [12, 14, 15]), ([13, 16, 16, 12], [12, 13, 16]), ([17, 12], [12, 17]), ([12, 18], [12, 18]), ([19, 17, 0, 1, 2, 3, 4, 5, 6, 7, 8, 9, 10, 11, 12, 13, 14, 15, 16, 17, 18, 19], [19])])
def whetstonetop_TopNumbers.B15 : List Nat := [0, 1, 3, 7, 15, 31, 63, 127, 127, 511, 1023, 2047, 4095, 8191, 8191, 8191, 57343, 131071, 262143, 524287, 1048575]
theorem whetstonetop_TopNumbers.tab15 : rtab .any (opsOf Try.f3 15) = whetstonetop_TopNumbers.T15 := by kernel_rfl
theorem whetstonetop_TopNumbers.bits15 : waitsOk whetstonetop_TopNumbers.T15.2 whetstonetop_TopNumbers.B15 = true := by kernel_rfl
end Go.Proofs.Ytfcnmgeokjemmaa.QTopNumbers
