-- written by wip/wprint, a program of this session
import Derived.Test.YtkngkfjjgkfcnaaQLexBlanksx0
import Derived.Test.YtkngkfjjgkfcnaaQLexBlanksx2
import Derived.Test.YtkngkfjjgkfcnaaQLexBlanksx6
namespace Go.Proofs.Ytkngkfjjgkfcnaa.QLexBlanks
open Go.RowKit Go.Proofs.YtkngkfjjgkfcnaaW.PrintWords Go.Proofs.YtkngkfjjgkfcnaaW.PrintLast Go.Proofs.YtkngkfjjgkfcnaaW.PrintMore
attribute [local go_sem] max2_int min2_int max_two min_two max_three min_three max_four min_four   -- for this text's walks alone
set_option linter.unusedVariables false
set_option linter.unusedSimpArgs false

attribute [local go_sem high] eqA34
/-! ### whetstonelaw08_LexBlanks: function 5 -/
mutual
def whetstonelaw08_LexBlanks.j0 : Nat → List Int → List Int → List Int → Bool → Option (Bool)
  | 0, _, _, _, _ => none
  | k + 1, x0, x1, x2, x37 => if x37 = true then ((whetstonelaw08_parted.f k).bind fun t163 => (some t163)) else (whetstonelaw08_LexBlanks.l0 k x0 x1 x2 0)
def whetstonelaw08_LexBlanks.l0 : Nat → List Int → List Int → List Int → Int → Option (Bool)
  | 0, _, _, _, _ => none
  | k + 1, x0, x1, x2, x7 => if x7 < (x2.length : Int) then (if 0 ≤ x7 then (if (rd x2 x7) = 10 then (some true) else (whetstonelaw08_LexBlanks.l0 k x0 x1 x2 (wrap64 (x7 + 1)))) else (none)) else ((lex_Tokens.f k x0).bind fun bt165 => ((lex_Tokens.f k x1).bind fun bt170 => (if bt165.2.2 = 0 then (whetstonelaw08_LexBlanks.j2 k x0 x1 x2 bt165.1 bt170.1 (bt170.2.2 != 0)) else (whetstonelaw08_LexBlanks.j2 k x0 x1 x2 bt165.1 bt170.1 true))))
def whetstonelaw08_LexBlanks.j2 : Nat → List Int → List Int → List Int → List (S34) → List (S34) → Bool → Option (Bool)
  | 0, _, _, _, _, _, _ => none
  | k + 1, x0, x1, x2, x8, x11, x67 => if x67 = true then (some true) else (if 5 + (strOfNums x2).size ≤ 9223372036854775807 then (if ((⟨#[10, 9, 32, 47, 47]⟩ : ByteArray) ++ (strOfNums x2)).size + 2 ≤ 9223372036854775807 then (if (strOfNums x0).size + (((⟨#[10, 9, 32, 47, 47]⟩ : ByteArray) ++ (strOfNums x2)) ++ (⟨#[10, 32]⟩ : ByteArray)).size ≤ 9223372036854775807 then (if ((strOfNums x0) ++ (((⟨#[10, 9, 32, 47, 47]⟩ : ByteArray) ++ (strOfNums x2)) ++ (⟨#[10, 32]⟩ : ByteArray))).size + (strOfNums x1).size ≤ 9223372036854775807 then (if (((strOfNums x0) ++ (((⟨#[10, 9, 32, 47, 47]⟩ : ByteArray) ++ (strOfNums x2)) ++ (⟨#[10, 32]⟩ : ByteArray))) ++ (strOfNums x1)).size ≤ 9223372036854775807 then ((lex_Tokens.f k (bytesOf (((strOfNums x0) ++ (((⟨#[10, 9, 32, 47, 47]⟩ : ByteArray) ++ (strOfNums x2)) ++ (⟨#[10, 32]⟩ : ByteArray))) ++ (strOfNums x1)))).bind fun bt178 => (if bt178.2.2 = 0 then (whetstonelaw08_LexBlanks.j3 k x0 x8 x11 (((⟨#[10, 9, 32, 47, 47]⟩ : ByteArray) ++ (strOfNums x2)) ++ (⟨#[10, 32]⟩ : ByteArray)) bt178.1 ((bt178.1.length : Int) != (wrap64 ((wrap64 ((x8.length : Int) + (x11.length : Int))) - 1)))) else (whetstonelaw08_LexBlanks.j3 k x0 x8 x11 (((⟨#[10, 9, 32, 47, 47]⟩ : ByteArray) ++ (strOfNums x2)) ++ (⟨#[10, 32]⟩ : ByteArray)) bt178.1 true))) else (none)) else (none)) else (none)) else (none)) else (none))
def whetstonelaw08_LexBlanks.j3 : Nat → List Int → List (S34) → List (S34) → ByteArray → List (S34) → Bool → Option (Bool)
  | 0, _, _, _, _, _, _ => none
  | k + 1, x0, x8, x11, x14, x15, x97 => if x97 = true then (some false) else (whetstonelaw08_LexBlanks.l1 k x0 x8 x11 x14 x15 0)
def whetstonelaw08_LexBlanks.l1 : Nat → List Int → List (S34) → List (S34) → ByteArray → List (S34) → Int → Option (Bool)
  | 0, _, _, _, _, _, _ => none
  | k + 1, x0, x8, x11, x14, x15, x18 => if x18 < (wrap64 ((x8.length : Int) - 1)) then (if 0 ≤ x18 then (if x18 < (x15.length : Int) then (if x18 < (x8.length : Int) then (if (!(((rd_T34 x15 x18).f0) == ((rd_T34 x8 x18).f0)) || (!((((rd_T34 x15 x18).f1).toList) == (((rd_T34 x8 x18).f1).toList)) || ((!(((rd_T34 x15 x18).f2.f0) == ((rd_T34 x8 x18).f2.f0)) || (!(((rd_T34 x15 x18).f2.f1) == ((rd_T34 x8 x18).f2.f1))))))) = true then (some false) else (whetstonelaw08_LexBlanks.l1 k x0 x8 x11 x14 x15 (wrap64 (x18 + 1)))) else (none)) else (none)) else (none)) else (whetstonelaw08_LexBlanks.l2 k x0 x8 x11 x14 x15 0)
def whetstonelaw08_LexBlanks.l2 : Nat → List Int → List (S34) → List (S34) → ByteArray → List (S34) → Int → Option (Bool)
  | 0, _, _, _, _, _, _ => none
  | k + 1, x0, x8, x11, x14, x15, x19 => if x19 < (x11.length : Int) then (if 0 ≤ (wrap64 ((wrap64 ((x8.length : Int) - 1)) + x19)) then (if (wrap64 ((wrap64 ((x8.length : Int) - 1)) + x19)) < (x15.length : Int) then (if 0 ≤ x19 then (if ((rd_T34 x15 (wrap64 ((wrap64 ((x8.length : Int) - 1)) + x19))).f1).toList = ((rd_T34 x11 x19).f1).toList then (if ((rd_T34 x15 (wrap64 ((wrap64 ((x8.length : Int) - 1)) + x19))).f0) = ((rd_T34 x11 x19).f0) then (if ((rd_T34 x15 (wrap64 ((wrap64 ((x8.length : Int) - 1)) + x19))).f2.f0) = (wrap64 ((wrap64 (((rd_T34 x11 x19).f2.f0) + (x0.length : Int))) + (x14.size : Int))) then (whetstonelaw08_LexBlanks.l2 k x0 x8 x11 x14 x15 (wrap64 (x19 + 1))) else (some false)) else (some false)) else (some false)) else (none)) else (none)) else (none)) else (some true)
end
def whetstonelaw08_LexBlanks.f (k : Nat) (l0 : List Int) (l1 : List Int) (l2 : List Int) : Option (Bool) := (whetstonelaw08_parted.f k).bind fun t162 => (if t162 = true then (if (l0.length : Int) > 800 then (whetstonelaw08_LexBlanks.j0 k l0 l1 l2 true) else (if (l1.length : Int) > 800 then (whetstonelaw08_LexBlanks.j0 k l0 l1 l2 true) else (whetstonelaw08_LexBlanks.j0 k l0 l1 l2 (decide ((l2.length : Int) > 100))))) else (whetstonelaw08_LexBlanks.j0 k l0 l1 l2 true))
theorem whetstonelaw08_LexBlanks.mono_l : ∀ k, (∀ y0 y1 y2 y3, LeO (whetstonelaw08_LexBlanks.j0 k y0 y1 y2 y3) (whetstonelaw08_LexBlanks.j0 (k + 1) y0 y1 y2 y3)) ∧ (∀ y0 y1 y2 y3, LeO (whetstonelaw08_LexBlanks.l0 k y0 y1 y2 y3) (whetstonelaw08_LexBlanks.l0 (k + 1) y0 y1 y2 y3)) ∧ (∀ y0 y1 y2 y3 y4 y5, LeO (whetstonelaw08_LexBlanks.j2 k y0 y1 y2 y3 y4 y5) (whetstonelaw08_LexBlanks.j2 (k + 1) y0 y1 y2 y3 y4 y5)) ∧ (∀ y0 y1 y2 y3 y4 y5, LeO (whetstonelaw08_LexBlanks.j3 k y0 y1 y2 y3 y4 y5) (whetstonelaw08_LexBlanks.j3 (k + 1) y0 y1 y2 y3 y4 y5)) ∧ (∀ y0 y1 y2 y3 y4 y5, LeO (whetstonelaw08_LexBlanks.l1 k y0 y1 y2 y3 y4 y5) (whetstonelaw08_LexBlanks.l1 (k + 1) y0 y1 y2 y3 y4 y5)) ∧ (∀ y0 y1 y2 y3 y4 y5, LeO (whetstonelaw08_LexBlanks.l2 k y0 y1 y2 y3 y4 y5) (whetstonelaw08_LexBlanks.l2 (k + 1) y0 y1 y2 y3 y4 y5))
  | 0 => ⟨fun _ _ _ _ r h => by simp [whetstonelaw08_LexBlanks.j0] at h, fun _ _ _ _ r h => by simp [whetstonelaw08_LexBlanks.l0] at h, fun _ _ _ _ _ _ r h => by simp [whetstonelaw08_LexBlanks.j2] at h, fun _ _ _ _ _ _ r h => by simp [whetstonelaw08_LexBlanks.j3] at h, fun _ _ _ _ _ _ r h => by simp [whetstonelaw08_LexBlanks.l1] at h, fun _ _ _ _ _ _ r h => by simp [whetstonelaw08_LexBlanks.l2] at h⟩
  | k + 1 => by
    obtain ⟨ih0, ih1, ih2, ih3, ih4, ih5⟩ := whetstonelaw08_LexBlanks.mono_l k
    refine ⟨?_, ?_, ?_, ?_, ?_, ?_⟩
    · intro y0 y1 y2 y3
      unfold whetstonelaw08_LexBlanks.j0
      repeat' first
      | (with_reducible exact ih0 _ _ _ _)
      | (with_reducible exact ih1 _ _ _ _)
      | (with_reducible exact ih2 _ _ _ _ _ _)
      | (with_reducible exact ih3 _ _ _ _ _ _)
      | (with_reducible exact ih4 _ _ _ _ _ _)
      | (with_reducible exact ih5 _ _ _ _ _ _)
      | (with_reducible exact lex_Tokens.mono _ _)
      | (with_reducible exact whetstonelaw08_parted.mono _)
      | (with_reducible exact LeO.refl _)
      | (with_reducible exact LeO.none _)
      | (with_reducible refine LeO.ite ?_ ?_)
      | (with_reducible refine LeO.bind ?_ (fun _ => ?_))
      | exact ih0 _ _ _ _
      | exact ih1 _ _ _ _
      | exact ih2 _ _ _ _ _ _
      | exact ih3 _ _ _ _ _ _
      | exact ih4 _ _ _ _ _ _
      | exact ih5 _ _ _ _ _ _
      | exact lex_Tokens.mono _ _
      | exact whetstonelaw08_parted.mono _
      | exact LeO.none _
      | refine LeO.ite ?_ ?_
      | refine LeO.bind ?_ (fun _ => ?_)
    · intro y0 y1 y2 y3
      unfold whetstonelaw08_LexBlanks.l0
      repeat' first
      | (with_reducible exact ih0 _ _ _ _)
      | (with_reducible exact ih1 _ _ _ _)
      | (with_reducible exact ih2 _ _ _ _ _ _)
      | (with_reducible exact ih3 _ _ _ _ _ _)
      | (with_reducible exact ih4 _ _ _ _ _ _)
      | (with_reducible exact ih5 _ _ _ _ _ _)
      | (with_reducible exact lex_Tokens.mono _ _)
      | (with_reducible exact whetstonelaw08_parted.mono _)
      | (with_reducible exact LeO.refl _)
      | (with_reducible exact LeO.none _)
      | (with_reducible refine LeO.ite ?_ ?_)
      | (with_reducible refine LeO.bind ?_ (fun _ => ?_))
      | exact ih0 _ _ _ _
      | exact ih1 _ _ _ _
      | exact ih2 _ _ _ _ _ _
      | exact ih3 _ _ _ _ _ _
      | exact ih4 _ _ _ _ _ _
      | exact ih5 _ _ _ _ _ _
      | exact lex_Tokens.mono _ _
      | exact whetstonelaw08_parted.mono _
      | exact LeO.none _
      | refine LeO.ite ?_ ?_
      | refine LeO.bind ?_ (fun _ => ?_)
    · intro y0 y1 y2 y3 y4 y5
      unfold whetstonelaw08_LexBlanks.j2
      repeat' first
      | (with_reducible exact ih0 _ _ _ _)
      | (with_reducible exact ih1 _ _ _ _)
      | (with_reducible exact ih2 _ _ _ _ _ _)
      | (with_reducible exact ih3 _ _ _ _ _ _)
      | (with_reducible exact ih4 _ _ _ _ _ _)
      | (with_reducible exact ih5 _ _ _ _ _ _)
      | (with_reducible exact lex_Tokens.mono _ _)
      | (with_reducible exact whetstonelaw08_parted.mono _)
      | (with_reducible exact LeO.refl _)
      | (with_reducible exact LeO.none _)
      | (with_reducible refine LeO.ite ?_ ?_)
      | (with_reducible refine LeO.bind ?_ (fun _ => ?_))
      | exact ih0 _ _ _ _
      | exact ih1 _ _ _ _
      | exact ih2 _ _ _ _ _ _
      | exact ih3 _ _ _ _ _ _
      | exact ih4 _ _ _ _ _ _
      | exact ih5 _ _ _ _ _ _
      | exact lex_Tokens.mono _ _
      | exact whetstonelaw08_parted.mono _
      | exact LeO.none _
      | refine LeO.ite ?_ ?_
      | refine LeO.bind ?_ (fun _ => ?_)
    · intro y0 y1 y2 y3 y4 y5
      unfold whetstonelaw08_LexBlanks.j3
      repeat' first
      | (with_reducible exact ih0 _ _ _ _)
      | (with_reducible exact ih1 _ _ _ _)
      | (with_reducible exact ih2 _ _ _ _ _ _)
      | (with_reducible exact ih3 _ _ _ _ _ _)
      | (with_reducible exact ih4 _ _ _ _ _ _)
      | (with_reducible exact ih5 _ _ _ _ _ _)
      | (with_reducible exact lex_Tokens.mono _ _)
      | (with_reducible exact whetstonelaw08_parted.mono _)
      | (with_reducible exact LeO.refl _)
      | (with_reducible exact LeO.none _)
      | (with_reducible refine LeO.ite ?_ ?_)
      | (with_reducible refine LeO.bind ?_ (fun _ => ?_))
      | exact ih0 _ _ _ _
      | exact ih1 _ _ _ _
      | exact ih2 _ _ _ _ _ _
      | exact ih3 _ _ _ _ _ _
      | exact ih4 _ _ _ _ _ _
      | exact ih5 _ _ _ _ _ _
      | exact lex_Tokens.mono _ _
      | exact whetstonelaw08_parted.mono _
      | exact LeO.none _
      | refine LeO.ite ?_ ?_
      | refine LeO.bind ?_ (fun _ => ?_)
    · intro y0 y1 y2 y3 y4 y5
      unfold whetstonelaw08_LexBlanks.l1
      repeat' first
      | (with_reducible exact ih0 _ _ _ _)
      | (with_reducible exact ih1 _ _ _ _)
      | (with_reducible exact ih2 _ _ _ _ _ _)
      | (with_reducible exact ih3 _ _ _ _ _ _)
      | (with_reducible exact ih4 _ _ _ _ _ _)
      | (with_reducible exact ih5 _ _ _ _ _ _)
      | (with_reducible exact lex_Tokens.mono _ _)
      | (with_reducible exact whetstonelaw08_parted.mono _)
      | (with_reducible exact LeO.refl _)
      | (with_reducible exact LeO.none _)
      | (with_reducible refine LeO.ite ?_ ?_)
      | (with_reducible refine LeO.bind ?_ (fun _ => ?_))
      | exact ih0 _ _ _ _
      | exact ih1 _ _ _ _
      | exact ih2 _ _ _ _ _ _
      | exact ih3 _ _ _ _ _ _
      | exact ih4 _ _ _ _ _ _
      | exact ih5 _ _ _ _ _ _
      | exact lex_Tokens.mono _ _
      | exact whetstonelaw08_parted.mono _
      | exact LeO.none _
      | refine LeO.ite ?_ ?_
      | refine LeO.bind ?_ (fun _ => ?_)
    · intro y0 y1 y2 y3 y4 y5
      unfold whetstonelaw08_LexBlanks.l2
      repeat' first
      | (with_reducible exact ih0 _ _ _ _)
      | (with_reducible exact ih1 _ _ _ _)
      | (with_reducible exact ih2 _ _ _ _ _ _)
      | (with_reducible exact ih3 _ _ _ _ _ _)
      | (with_reducible exact ih4 _ _ _ _ _ _)
      | (with_reducible exact ih5 _ _ _ _ _ _)
      | (with_reducible exact lex_Tokens.mono _ _)
      | (with_reducible exact whetstonelaw08_parted.mono _)
      | (with_reducible exact LeO.refl _)
      | (with_reducible exact LeO.none _)
      | (with_reducible refine LeO.ite ?_ ?_)
      | (with_reducible refine LeO.bind ?_ (fun _ => ?_))
      | exact ih0 _ _ _ _
      | exact ih1 _ _ _ _
      | exact ih2 _ _ _ _ _ _
      | exact ih3 _ _ _ _ _ _
      | exact ih4 _ _ _ _ _ _
      | exact ih5 _ _ _ _ _ _
      | exact lex_Tokens.mono _ _
      | exact whetstonelaw08_parted.mono _
      | exact LeO.none _
      | refine LeO.ite ?_ ?_
      | refine LeO.bind ?_ (fun _ => ?_)
theorem whetstonelaw08_LexBlanks.mono : ∀ a0 a1 a2 k, LeO (whetstonelaw08_LexBlanks.f k a0 a1 a2) (whetstonelaw08_LexBlanks.f (k + 1) a0 a1 a2) := by
  intro a0 a1 a2 k
  obtain ⟨ih0, ih1, ih2, ih3, ih4, ih5⟩ := whetstonelaw08_LexBlanks.mono_l k
  unfold whetstonelaw08_LexBlanks.f
  repeat' first
      | (with_reducible exact ih0 _ _ _ _)
      | (with_reducible exact ih1 _ _ _ _)
      | (with_reducible exact ih2 _ _ _ _ _ _)
      | (with_reducible exact ih3 _ _ _ _ _ _)
      | (with_reducible exact ih4 _ _ _ _ _ _)
      | (with_reducible exact ih5 _ _ _ _ _ _)
      | (with_reducible exact lex_Tokens.mono _ _)
      | (with_reducible exact whetstonelaw08_parted.mono _)
      | (with_reducible exact LeO.refl _)
      | (with_reducible exact LeO.none _)
      | (with_reducible refine LeO.ite ?_ ?_)
      | (with_reducible refine LeO.bind ?_ (fun _ => ?_))
      | exact ih0 _ _ _ _
      | exact ih1 _ _ _ _
      | exact ih2 _ _ _ _ _ _
      | exact ih3 _ _ _ _ _ _
      | exact ih4 _ _ _ _ _ _
      | exact ih5 _ _ _ _ _ _
      | exact lex_Tokens.mono _ _
      | exact whetstonelaw08_parted.mono _
      | exact LeO.none _
      | refine LeO.ite ?_ ?_
      | refine LeO.bind ?_ (fun _ => ?_)
end Go.Proofs.Ytkngkfjjgkfcnaa.QLexBlanks
