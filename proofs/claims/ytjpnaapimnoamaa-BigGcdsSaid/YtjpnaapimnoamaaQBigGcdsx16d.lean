-- written by wip/wprint, a program of this session
import Derived.Test.YtjpnaapimnoamaaQBigGcdsx0
import Derived.Test.YtjpnaapimnoamaaQBigGcdsx4
import Derived.Test.YtjpnaapimnoamaaQBigGcdsx10
import Derived.Test.YtjpnaapimnoamaaQBigGcdsx13
import Derived.Test.YtjpnaapimnoamaaQBigGcdsx14
import Derived.Test.YtjpnaapimnoamaaQBigGcdsx15
namespace Go.Proofs.Ytjpnaapimnoamaa.QBigGcds
open Go.RowKit Go.Proofs.YtjpnaapimnoamaaW.PrintWords Go.Proofs.YtjpnaapimnoamaaW.PrintLast Go.Proofs.YtjpnaapimnoamaaW.PrintMore
open Go.Proofs.YtjpnaapimnoamaaW.PrintWords.Kd renaming R_alloc → qa, R_drewN → qn, R_drew → qd
open Go.Proofs.YtjpnaapimnoamaaW.PrintWords renaming below_alloc → ba, pw_below_drewN → bn, below_drew1 → bd
attribute [local go_sem] max2_int min2_int max_two min_two max_three min_three max_four min_four   -- for this text's walks alone
set_option linter.unusedVariables false
set_option linter.unusedSimpArgs false

/-! ### whetstonelaw02_BigGcds: function 11 -/
def whetstonelaw02_BigGcds.j0 : Nat → Bool → Bool → List Int → Bool → List Int → Bool → List Int → Option (Bool)
 | 0, _, _, _, _, _, _, _ => none
 | k + 1, x35, x650000, x650001, x651000, x651001, x652000, x652001 => if x35 = true then ((whetstonelaw02_signed.f k).bind fun t653 => (some t653)) else ((big_Mul.f k x650000 x650001 x652000 x652001).bind fun bt654 => ((big_Mul.f k x651000 x651001 x652000 x652001).bind fun bt658 => ((big_Gcd.f k bt654.1 bt654.2 bt658.1 bt658.2).bind fun bt664 => ((big_Sign.f k bt664.1 bt664.2).bind fun t669 => (if t669 = 0 then ((big_Sign.f k bt654.1 bt654.2).bind fun t670 => (if t670 = 0 then ((big_Sign.f k bt658.1 bt658.2).bind fun t671 => (some (t671 == 0))) else (none))) else ((big_DivMod.f k bt654.1 bt654.2 bt664.1 bt664.2).bind fun bt672 => ((big_DivMod.f k bt658.1 bt658.2 bt664.1 bt664.2).bind fun bt683 => (if bt672.2.2.2.2 = 0 then (if bt683.2.2.2.2 = 0 then ((big_Divides.f k bt664.1 bt664.2 bt654.1 bt654.2).bind fun t694 => (if t694 = true then ((big_Divides.f k bt664.1 bt664.2 bt658.1 bt658.2).bind fun t695 => (if t695 = true then ((big_Divides.f k x652000 x652001 bt664.1 bt664.2).bind fun t696 => (if t696 = true then ((big_Gcd.f k bt672.1 bt672.2.1 bt683.1 bt683.2.1).bind fun bt697 => ((big_Of.f k 1).bind fun bt701 => ((big_Cmp.f k bt697.1 bt697.2 bt701.1 bt701.2).bind fun t705 => (some (t705 == 0))))) else (none))) else (none))) else (none))) else (none)) else (none)))))))))
def whetstonelaw02_BigGcds.f (k : Nat) (a0_0 : Bool) (l0_1 : List Int) (a1_0 : Bool) (l1_1 : List Int) (a2_0 : Bool) (l2_1 : List Int) : Option (Bool) := (whetstonelaw02_signed.f k).bind fun t652 => (if t652 = true then (if (l0_1.length : Int) > 4 then (whetstonelaw02_BigGcds.j0 k true a0_0 l0_1 a1_0 l1_1 a2_0 l2_1) else (if (l1_1.length : Int) > 4 then (whetstonelaw02_BigGcds.j0 k true a0_0 l0_1 a1_0 l1_1 a2_0 l2_1) else (whetstonelaw02_BigGcds.j0 k (decide ((l2_1.length : Int) > 4)) a0_0 l0_1 a1_0 l1_1 a2_0 l2_1))) else (whetstonelaw02_BigGcds.j0 k true a0_0 l0_1 a1_0 l1_1 a2_0 l2_1))
theorem whetstonelaw02_BigGcds.mono_l : ∀ k, (∀ y0 y1 y2 y3 y4 y5 y6, LeO (whetstonelaw02_BigGcds.j0 k y0 y1 y2 y3 y4 y5 y6) (whetstonelaw02_BigGcds.j0 (k + 1) y0 y1 y2 y3 y4 y5 y6))
 | 0 => fun _ _ _ _ _ _ _ r h => by simp [whetstonelaw02_BigGcds.j0] at h
 | k + 1 => by
  have ih0 := whetstonelaw02_BigGcds.mono_l k
  ·intro y0 y1 y2 y3 y4 y5 y6
   unfold whetstonelaw02_BigGcds.j0
   repeat' with_reducible first | exact ih0 _ _ _ _ _ _ _ | exact big_Cmp.mono _ _ _ _ _ | exact big_DivMod.mono _ _ _ _ _ | exact big_Divides.mono _ _ _ _ _ | exact big_Gcd.mono _ _ _ _ _ | exact big_Mul.mono _ _ _ _ _ | exact big_Of.mono _ _ | exact big_Sign.mono _ _ _ | exact whetstonelaw02_signed.mono _ | exact LeO.refl _ | exact LeO.none _ | refine LeO.ite ?_ ?_ | refine LeO.bind ?_ (fun _ => ?_)
theorem whetstonelaw02_BigGcds.mono : ∀ a0 a1 a2 a3 a4 a5 k, LeO (whetstonelaw02_BigGcds.f k a0 a1 a2 a3 a4 a5) (whetstonelaw02_BigGcds.f (k + 1) a0 a1 a2 a3 a4 a5) := by
 intro a0 a1 a2 a3 a4 a5 k
 have ih0 := whetstonelaw02_BigGcds.mono_l k
 unfold whetstonelaw02_BigGcds.f
 repeat' with_reducible first | exact ih0 _ _ _ _ _ _ _ | exact big_Cmp.mono _ _ _ _ _ | exact big_DivMod.mono _ _ _ _ _ | exact big_Divides.mono _ _ _ _ _ | exact big_Gcd.mono _ _ _ _ _ | exact big_Mul.mono _ _ _ _ _ | exact big_Of.mono _ _ | exact big_Sign.mono _ _ _ | exact whetstonelaw02_signed.mono _ | exact LeO.refl _ | exact LeO.none _ | refine LeO.ite ?_ ?_ | refine LeO.bind ?_ (fun _ => ?_)
def whetstonelaw02_BigGcds.T3 : Bool × List (List Nat × List Nat) := (true, [([], []), ([], []), ([0, 1], [0, 1]), ([], []), ([], []), ([3, 4, 2], [3, 4]), ([], []), ([], []), ([6, 2, 5, 0, 1, 2, 6, 7], [2, 6]), ([7, 5, 8, 0, 1, 2, 3, 4, 5, 6, 7, 8], [5, 7])])
def whetstonelaw02_BigGcds.B3 : List Nat := [0, 0, 3, 0, 0, 31, 0, 0, 255, 511]
theorem whetstonelaw02_BigGcds.tab3 : rtab .any (opsOf Try.f11 3) = whetstonelaw02_BigGcds.T3 := by kernel_rfl
theorem whetstonelaw02_BigGcds.bits3 : waitsOk whetstonelaw02_BigGcds.T3.2 whetstonelaw02_BigGcds.B3 = true := by kernel_rfl
end Go.Proofs.Ytjpnaapimnoamaa.QBigGcds
