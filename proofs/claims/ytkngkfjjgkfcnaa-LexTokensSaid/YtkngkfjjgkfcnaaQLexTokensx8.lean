-- written by wip/wprint, a program of this session
import Derived.Test.YtkngkfjjgkfcnaaQLexTokensx0
import Derived.Test.YtkngkfjjgkfcnaaQLexTokensx6
import Derived.Test.YtkngkfjjgkfcnaaQLexTokensx7
namespace Go.Proofs.Ytkngkfjjgkfcnaa.QLexTokens
open Go.RowKit Go.Proofs.YtkngkfjjgkfcnaaW.PrintWords Go.Proofs.YtkngkfjjgkfcnaaW.PrintLast Go.Proofs.YtkngkfjjgkfcnaaW.PrintMore
attribute [local go_sem] max2_int min2_int max_two min_two max_three min_three max_four min_four   -- for this text's walks alone
set_option linter.unusedVariables false
set_option linter.unusedSimpArgs false

/-! ### whetstoneref08_Tokens: function 11 -/
mutual
def whetstoneref08_Tokens.l0 : Nat → List Int → List Int → List (S36) → Int → Option ((List (S36)) × Int × Int)
  | 0, _, _, _, _ => none
  | k + 1, x0, x5, x6, x7 => if x7 < (x0.length : Int) then (if 0 ≤ x7 then (if x7 < (x5.length : Int) then (if (rd x5 x7) = 1 then (whetstoneref08_Tokens.l0 k x0 x5 x6 (wrap64 (x7 + 1))) else (if (rd x0 x7) ≥ 97 then (whetstoneref08_Tokens.j1 k x0 x5 x6 x7 x7 4 2 (decide ((rd x0 x7) ≤ 122))) else (whetstoneref08_Tokens.j1 k x0 x5 x6 x7 x7 4 2 false))) else (none)) else (none)) else (if x6.length < 3518437208883 then (some ((x6 ++ [(⟨0, (⟨#[]⟩ : ByteArray), (x0.length : Int), (x0.length : Int)⟩ : S36)]), 0, 0)) else (none))
def whetstoneref08_Tokens.j1 : Nat → List Int → List Int → List (S36) → Int → Int → Int → Int → Bool → Option ((List (S36)) × Int × Int)
  | 0, _, _, _, _, _, _, _, _ => none
  | k + 1, x0, x5, x6, x7, x8, x9, x10, x36 => if x36 = true then (whetstoneref08_Tokens.l1 k x0 x5 x6 x7 x8) else (if 0 ≤ x7 then (if x7 < (x0.length : Int) then (if (rd x0 x7) ≥ 48 then (whetstoneref08_Tokens.j3 k x0 x5 x6 x7 x8 x9 x10 (decide ((rd x0 x7) ≤ 57))) else (whetstoneref08_Tokens.j3 k x0 x5 x6 x7 x8 x9 x10 false)) else (none)) else (none))
def whetstoneref08_Tokens.j5 : Nat → List Int → List Int → List (S36) → Int → Int → Int → Int → Option ((List (S36)) × Int × Int)
  | 0, _, _, _, _, _, _, _ => none
  | k + 1, x0, x5, x6, x7, x8, x9, x10 => if x8 = x7 then (some (([] : List (S36)), x7, 20)) else (if (wrap64 (x8 - x7)) > x10 then (some (([] : List (S36)), x7, 3)) else (if 0 ≤ x7 then (if x7 ≤ x8 then (if x8 ≤ (x0.length : Int) then (if x6.length < 3518437208883 then (whetstoneref08_Tokens.l0 k x0 x5 (x6 ++ [(⟨x9, strOfNums ((x0.take (x8 : Int).toNat).drop (x7 : Int).toNat), x7, x8⟩ : S36)]) x8) else (none)) else (none)) else (none)) else (none)))
def whetstoneref08_Tokens.l1 : Nat → List Int → List Int → List (S36) → Int → Int → Option ((List (S36)) × Int × Int)
  | 0, _, _, _, _, _ => none
  | k + 1, x0, x5, x6, x7, x8 => if x8 < (x0.length : Int) then (if 0 ≤ x8 then (if x8 < (x5.length : Int) then (if (rd x5 x8) = 0 then ((whetstoneref08_goesOn.f (rd x0 x8)).bind fun t203 => (if t203 = true then (whetstoneref08_Tokens.l1 k x0 x5 x6 x7 (wrap64 (x8 + 1))) else (if 0 ≤ x7 then (if x7 ≤ x8 then (if x8 ≤ (x0.length : Int) then ((whetstoneref08_IsWord.f k (strOfNums ((x0.take (x8 : Int).toNat).drop (x7 : Int).toNat))).bind fun t205 => (if t205 = true then (whetstoneref08_Tokens.j5 k x0 x5 x6 x7 x8 2 24) else (whetstoneref08_Tokens.j5 k x0 x5 x6 x7 x8 1 24))) else (none)) else (none)) else (none)))) else (if 0 ≤ x7 then (if x7 ≤ x8 then (if x8 ≤ (x0.length : Int) then ((whetstoneref08_IsWord.f k (strOfNums ((x0.take (x8 : Int).toNat).drop (x7 : Int).toNat))).bind fun t207 => (if t207 = true then (whetstoneref08_Tokens.j5 k x0 x5 x6 x7 x8 2 24) else (whetstoneref08_Tokens.j5 k x0 x5 x6 x7 x8 1 24))) else (none)) else (none)) else (none))) else (none)) else (none)) else (if 0 ≤ x7 then (if x7 ≤ x8 then (if x8 ≤ (x0.length : Int) then ((whetstoneref08_IsWord.f k (strOfNums ((x0.take (x8 : Int).toNat).drop (x7 : Int).toNat))).bind fun t209 => (if t209 = true then (whetstoneref08_Tokens.j5 k x0 x5 x6 x7 x8 2 24) else (whetstoneref08_Tokens.j5 k x0 x5 x6 x7 x8 1 24))) else (none)) else (none)) else (none))
def whetstoneref08_Tokens.j3 : Nat → List Int → List Int → List (S36) → Int → Int → Int → Int → Bool → Option ((List (S36)) × Int × Int)
  | 0, _, _, _, _, _, _, _, _ => none
  | k + 1, x0, x5, x6, x7, x8, x9, x10, x74 => if x74 = true then (whetstoneref08_Tokens.l2 k x0 x5 x6 x7 x8) else ((whetstoneref08_size.f k x0 x7 x5).bind fun t215 => (whetstoneref08_Tokens.j5 k x0 x5 x6 x7 (wrap64 (x7 + t215)) x9 x10))
def whetstoneref08_Tokens.l2 : Nat → List Int → List Int → List (S36) → Int → Int → Option ((List (S36)) × Int × Int)
  | 0, _, _, _, _, _ => none
  | k + 1, x0, x5, x6, x7, x8 => if x8 < (x0.length : Int) then (if 0 ≤ x8 then (if x8 < (x5.length : Int) then (if (rd x5 x8) = 0 then (if (rd x0 x8) ≥ 48 then (if (rd x0 x8) ≤ 57 then (whetstoneref08_Tokens.l2 k x0 x5 x6 x7 (wrap64 (x8 + 1))) else (whetstoneref08_Tokens.j5 k x0 x5 x6 x7 x8 3 40)) else (whetstoneref08_Tokens.j5 k x0 x5 x6 x7 x8 3 40)) else (whetstoneref08_Tokens.j5 k x0 x5 x6 x7 x8 3 40)) else (none)) else (none)) else (whetstoneref08_Tokens.j5 k x0 x5 x6 x7 x8 3 40)
end
def whetstoneref08_Tokens.f (k : Nat) (l0 : List Int) : Option ((List (S36)) × Int × Int) := (whetstoneref08_Marks.f k l0).bind fun t192 => (whetstoneref08_Tokens.l0 k l0 t192 ([] : List (S36)) 0)
theorem whetstoneref08_Tokens.mono_l : ∀ k, (∀ y0 y1 y2 y3, LeO (whetstoneref08_Tokens.l0 k y0 y1 y2 y3) (whetstoneref08_Tokens.l0 (k + 1) y0 y1 y2 y3)) ∧ (∀ y0 y1 y2 y3 y4 y5 y6 y7, LeO (whetstoneref08_Tokens.j1 k y0 y1 y2 y3 y4 y5 y6 y7) (whetstoneref08_Tokens.j1 (k + 1) y0 y1 y2 y3 y4 y5 y6 y7)) ∧ (∀ y0 y1 y2 y3 y4 y5 y6, LeO (whetstoneref08_Tokens.j5 k y0 y1 y2 y3 y4 y5 y6) (whetstoneref08_Tokens.j5 (k + 1) y0 y1 y2 y3 y4 y5 y6)) ∧ (∀ y0 y1 y2 y3 y4, LeO (whetstoneref08_Tokens.l1 k y0 y1 y2 y3 y4) (whetstoneref08_Tokens.l1 (k + 1) y0 y1 y2 y3 y4)) ∧ (∀ y0 y1 y2 y3 y4 y5 y6 y7, LeO (whetstoneref08_Tokens.j3 k y0 y1 y2 y3 y4 y5 y6 y7) (whetstoneref08_Tokens.j3 (k + 1) y0 y1 y2 y3 y4 y5 y6 y7)) ∧ (∀ y0 y1 y2 y3 y4, LeO (whetstoneref08_Tokens.l2 k y0 y1 y2 y3 y4) (whetstoneref08_Tokens.l2 (k + 1) y0 y1 y2 y3 y4))
  | 0 => ⟨fun _ _ _ _ r h => by simp [whetstoneref08_Tokens.l0] at h, fun _ _ _ _ _ _ _ _ r h => by simp [whetstoneref08_Tokens.j1] at h, fun _ _ _ _ _ _ _ r h => by simp [whetstoneref08_Tokens.j5] at h, fun _ _ _ _ _ r h => by simp [whetstoneref08_Tokens.l1] at h, fun _ _ _ _ _ _ _ _ r h => by simp [whetstoneref08_Tokens.j3] at h, fun _ _ _ _ _ r h => by simp [whetstoneref08_Tokens.l2] at h⟩
  | k + 1 => by
    obtain ⟨ih0, ih1, ih2, ih3, ih4, ih5⟩ := whetstoneref08_Tokens.mono_l k
    refine ⟨?_, ?_, ?_, ?_, ?_, ?_⟩
    · intro y0 y1 y2 y3
      unfold whetstoneref08_Tokens.l0
      repeat' first
      | (with_reducible exact ih0 _ _ _ _)
      | (with_reducible exact ih1 _ _ _ _ _ _ _ _)
      | (with_reducible exact ih2 _ _ _ _ _ _ _)
      | (with_reducible exact ih3 _ _ _ _ _)
      | (with_reducible exact ih4 _ _ _ _ _ _ _ _)
      | (with_reducible exact ih5 _ _ _ _ _)
      | (with_reducible exact whetstoneref08_IsWord.mono _ _)
      | (with_reducible exact whetstoneref08_Marks.mono _ _)
      | (with_reducible exact whetstoneref08_size.mono _ _ _ _)
      | (with_reducible exact LeO.refl _)
      | (with_reducible exact LeO.none _)
      | (with_reducible refine LeO.ite ?_ ?_)
      | (with_reducible refine LeO.bind ?_ (fun _ => ?_))
      | exact ih0 _ _ _ _
      | exact ih1 _ _ _ _ _ _ _ _
      | exact ih2 _ _ _ _ _ _ _
      | exact ih3 _ _ _ _ _
      | exact ih4 _ _ _ _ _ _ _ _
      | exact ih5 _ _ _ _ _
      | exact whetstoneref08_IsWord.mono _ _
      | exact whetstoneref08_Marks.mono _ _
      | exact whetstoneref08_size.mono _ _ _ _
      | exact LeO.none _
      | refine LeO.ite ?_ ?_
      | refine LeO.bind ?_ (fun _ => ?_)
    · intro y0 y1 y2 y3 y4 y5 y6 y7
      unfold whetstoneref08_Tokens.j1
      repeat' first
      | (with_reducible exact ih0 _ _ _ _)
      | (with_reducible exact ih1 _ _ _ _ _ _ _ _)
      | (with_reducible exact ih2 _ _ _ _ _ _ _)
      | (with_reducible exact ih3 _ _ _ _ _)
      | (with_reducible exact ih4 _ _ _ _ _ _ _ _)
      | (with_reducible exact ih5 _ _ _ _ _)
      | (with_reducible exact whetstoneref08_IsWord.mono _ _)
      | (with_reducible exact whetstoneref08_Marks.mono _ _)
      | (with_reducible exact whetstoneref08_size.mono _ _ _ _)
      | (with_reducible exact LeO.refl _)
      | (with_reducible exact LeO.none _)
      | (with_reducible refine LeO.ite ?_ ?_)
      | (with_reducible refine LeO.bind ?_ (fun _ => ?_))
      | exact ih0 _ _ _ _
      | exact ih1 _ _ _ _ _ _ _ _
      | exact ih2 _ _ _ _ _ _ _
      | exact ih3 _ _ _ _ _
      | exact ih4 _ _ _ _ _ _ _ _
      | exact ih5 _ _ _ _ _
      | exact whetstoneref08_IsWord.mono _ _
      | exact whetstoneref08_Marks.mono _ _
      | exact whetstoneref08_size.mono _ _ _ _
      | exact LeO.none _
      | refine LeO.ite ?_ ?_
      | refine LeO.bind ?_ (fun _ => ?_)
    · intro y0 y1 y2 y3 y4 y5 y6
      unfold whetstoneref08_Tokens.j5
      repeat' first
      | (with_reducible exact ih0 _ _ _ _)
      | (with_reducible exact ih1 _ _ _ _ _ _ _ _)
      | (with_reducible exact ih2 _ _ _ _ _ _ _)
      | (with_reducible exact ih3 _ _ _ _ _)
      | (with_reducible exact ih4 _ _ _ _ _ _ _ _)
      | (with_reducible exact ih5 _ _ _ _ _)
      | (with_reducible exact whetstoneref08_IsWord.mono _ _)
      | (with_reducible exact whetstoneref08_Marks.mono _ _)
      | (with_reducible exact whetstoneref08_size.mono _ _ _ _)
      | (with_reducible exact LeO.refl _)
      | (with_reducible exact LeO.none _)
      | (with_reducible refine LeO.ite ?_ ?_)
      | (with_reducible refine LeO.bind ?_ (fun _ => ?_))
      | exact ih0 _ _ _ _
      | exact ih1 _ _ _ _ _ _ _ _
      | exact ih2 _ _ _ _ _ _ _
      | exact ih3 _ _ _ _ _
      | exact ih4 _ _ _ _ _ _ _ _
      | exact ih5 _ _ _ _ _
      | exact whetstoneref08_IsWord.mono _ _
      | exact whetstoneref08_Marks.mono _ _
      | exact whetstoneref08_size.mono _ _ _ _
      | exact LeO.none _
      | refine LeO.ite ?_ ?_
      | refine LeO.bind ?_ (fun _ => ?_)
    · intro y0 y1 y2 y3 y4
      unfold whetstoneref08_Tokens.l1
      repeat' first
      | (with_reducible exact ih0 _ _ _ _)
      | (with_reducible exact ih1 _ _ _ _ _ _ _ _)
      | (with_reducible exact ih2 _ _ _ _ _ _ _)
      | (with_reducible exact ih3 _ _ _ _ _)
      | (with_reducible exact ih4 _ _ _ _ _ _ _ _)
      | (with_reducible exact ih5 _ _ _ _ _)
      | (with_reducible exact whetstoneref08_IsWord.mono _ _)
      | (with_reducible exact whetstoneref08_Marks.mono _ _)
      | (with_reducible exact whetstoneref08_size.mono _ _ _ _)
      | (with_reducible exact LeO.refl _)
      | (with_reducible exact LeO.none _)
      | (with_reducible refine LeO.ite ?_ ?_)
      | (with_reducible refine LeO.bind ?_ (fun _ => ?_))
      | exact ih0 _ _ _ _
      | exact ih1 _ _ _ _ _ _ _ _
      | exact ih2 _ _ _ _ _ _ _
      | exact ih3 _ _ _ _ _
      | exact ih4 _ _ _ _ _ _ _ _
      | exact ih5 _ _ _ _ _
      | exact whetstoneref08_IsWord.mono _ _
      | exact whetstoneref08_Marks.mono _ _
      | exact whetstoneref08_size.mono _ _ _ _
      | exact LeO.none _
      | refine LeO.ite ?_ ?_
      | refine LeO.bind ?_ (fun _ => ?_)
    · intro y0 y1 y2 y3 y4 y5 y6 y7
      unfold whetstoneref08_Tokens.j3
      repeat' first
      | (with_reducible exact ih0 _ _ _ _)
      | (with_reducible exact ih1 _ _ _ _ _ _ _ _)
      | (with_reducible exact ih2 _ _ _ _ _ _ _)
      | (with_reducible exact ih3 _ _ _ _ _)
      | (with_reducible exact ih4 _ _ _ _ _ _ _ _)
      | (with_reducible exact ih5 _ _ _ _ _)
      | (with_reducible exact whetstoneref08_IsWord.mono _ _)
      | (with_reducible exact whetstoneref08_Marks.mono _ _)
      | (with_reducible exact whetstoneref08_size.mono _ _ _ _)
      | (with_reducible exact LeO.refl _)
      | (with_reducible exact LeO.none _)
      | (with_reducible refine LeO.ite ?_ ?_)
      | (with_reducible refine LeO.bind ?_ (fun _ => ?_))
      | exact ih0 _ _ _ _
      | exact ih1 _ _ _ _ _ _ _ _
      | exact ih2 _ _ _ _ _ _ _
      | exact ih3 _ _ _ _ _
      | exact ih4 _ _ _ _ _ _ _ _
      | exact ih5 _ _ _ _ _
      | exact whetstoneref08_IsWord.mono _ _
      | exact whetstoneref08_Marks.mono _ _
      | exact whetstoneref08_size.mono _ _ _ _
      | exact LeO.none _
      | refine LeO.ite ?_ ?_
      | refine LeO.bind ?_ (fun _ => ?_)
    · intro y0 y1 y2 y3 y4
      unfold whetstoneref08_Tokens.l2
      repeat' first
      | (with_reducible exact ih0 _ _ _ _)
      | (with_reducible exact ih1 _ _ _ _ _ _ _ _)
      | (with_reducible exact ih2 _ _ _ _ _ _ _)
      | (with_reducible exact ih3 _ _ _ _ _)
      | (with_reducible exact ih4 _ _ _ _ _ _ _ _)
      | (with_reducible exact ih5 _ _ _ _ _)
      | (with_reducible exact whetstoneref08_IsWord.mono _ _)
      | (with_reducible exact whetstoneref08_Marks.mono _ _)
      | (with_reducible exact whetstoneref08_size.mono _ _ _ _)
      | (with_reducible exact LeO.refl _)
      | (with_reducible exact LeO.none _)
      | (with_reducible refine LeO.ite ?_ ?_)
      | (with_reducible refine LeO.bind ?_ (fun _ => ?_))
      | exact ih0 _ _ _ _
      | exact ih1 _ _ _ _ _ _ _ _
      | exact ih2 _ _ _ _ _ _ _
      | exact ih3 _ _ _ _ _
      | exact ih4 _ _ _ _ _ _ _ _
      | exact ih5 _ _ _ _ _
      | exact whetstoneref08_IsWord.mono _ _
      | exact whetstoneref08_Marks.mono _ _
      | exact whetstoneref08_size.mono _ _ _ _
      | exact LeO.none _
      | refine LeO.ite ?_ ?_
      | refine LeO.bind ?_ (fun _ => ?_)
theorem whetstoneref08_Tokens.mono : ∀ a0 k, LeO (whetstoneref08_Tokens.f k a0) (whetstoneref08_Tokens.f (k + 1) a0) := by
  intro a0 k
  obtain ⟨ih0, ih1, ih2, ih3, ih4, ih5⟩ := whetstoneref08_Tokens.mono_l k
  unfold whetstoneref08_Tokens.f
  repeat' first
      | (with_reducible exact ih0 _ _ _ _)
      | (with_reducible exact ih1 _ _ _ _ _ _ _ _)
      | (with_reducible exact ih2 _ _ _ _ _ _ _)
      | (with_reducible exact ih3 _ _ _ _ _)
      | (with_reducible exact ih4 _ _ _ _ _ _ _ _)
      | (with_reducible exact ih5 _ _ _ _ _)
      | (with_reducible exact whetstoneref08_IsWord.mono _ _)
      | (with_reducible exact whetstoneref08_Marks.mono _ _)
      | (with_reducible exact whetstoneref08_size.mono _ _ _ _)
      | (with_reducible exact LeO.refl _)
      | (with_reducible exact LeO.none _)
      | (with_reducible refine LeO.ite ?_ ?_)
      | (with_reducible refine LeO.bind ?_ (fun _ => ?_))
      | exact ih0 _ _ _ _
      | exact ih1 _ _ _ _ _ _ _ _
      | exact ih2 _ _ _ _ _ _ _
      | exact ih3 _ _ _ _ _
      | exact ih4 _ _ _ _ _ _ _ _
      | exact ih5 _ _ _ _ _
      | exact whetstoneref08_IsWord.mono _ _
      | exact whetstoneref08_Marks.mono _ _
      | exact whetstoneref08_size.mono _ _ _ _
      | exact LeO.none _
      | refine LeO.ite ?_ ?_
      | refine LeO.bind ?_ (fun _ => ?_)
set_option maxHeartbeats 8000000 in
set_option maxRecDepth 100000 in
theorem whetstoneref08_Tokens.calls (k : Nat) (A0 : Option Addr) (c0 : Nat) (l0 : List Int) (r1 : List (S36)) (r2 : Int) (r3 : Int) (w : World) (hr0 : Kd.C (Kd.int .u8) w A0 l0.length l0) (hc0 : l0.length ≤ c0) (h : whetstoneref08_Tokens.f k l0 = some (r1, r2, r3)) :
    Calls Try.prog 11 #[.slice A0 l0.length c0] w fun e w' => ∃ v0_ : Value, e = .returned (.tuple #[v0_, .int .i64 r2, .int .i64 r3]) ∧ Kd.R k36 36 w' w.heap.size (fun _ => True) v0_ r1 ∧ Below w.heap.size w w' := by
  have hu36 := Try.underlying36
  have HR0 := Aside0.mk hr0
  have HC0 := Aside0.mk hc0
  clear hr0 hc0
  have HB := Aside0.mk (Below.refl w.heap.size w)
  have H : ((whetstoneref08_Marks.f k l0).bind fun t192 => (whetstoneref08_Tokens.l0 k l0 t192 ([] : List (S36)) 0)) = some (r1, r2, r3) := h
  clear h
  replace H := Option.bind_eq_some_iff.mp H
  obtain ⟨t192, A20, H⟩ := H
  replace H : (whetstoneref08_Tokens.l0 k l0 t192 ([] : List (S36)) 0) = some (r1, r2, r3) := H
  have A2 := Aside0.mk A20
  clear A20
  have H' := Aside0.mk H
  clear H
  go_enter Try.func11, Try.ntmps11
  go_wp2_with (first | ((with_reducible refine gate_callee (f := 12) rfl ?_); refine goesL_ (some 12) rfl rfl Try.func12 (by kernel_rfl) rfl #[.slice A0 l0.length c0] rfl (by (try simp only [List.map_toArray, List.map_cons, List.map_nil]); first | done | rfl | (simp only [List.length_drop, List.length_take]; rfl)) ?_; (with_reducible refine (whetstoneref08_Marks.calls k _ _ l0 t192 _ ?side1 ?side2 A2.out).mono ?_); (case side1 => repeat (first | exact HR0.out | (with_reducible refine Kd.C_alloc ?_ _) | (with_reducible refine Kd.C_drewN ?_ _) | (with_reducible refine Kd.C_drew ?_))); (case side2 => exact HC0.out); rintro e w3 ⟨v193, rfl, ho0, hb⟩; refine ⟨_, rfl, ?_⟩; have n0_ := Aside0.mk (Kd.R_lower ho0 (below_size (by repeat (first | (with_reducible first | exact HB.out | apply below_alloc | apply pw_below_drewN | apply below_drew1) | exact HB.out)))); have n1_ := Aside0.mk (below_step (by repeat (first | (with_reducible first | exact HB.out | apply below_alloc | apply pw_below_drewN | apply below_drew1) | exact HB.out)) hb); clear HB; have HO194 := n0_; have HB := n1_; clear n0_ n1_; (try clear hb); (try clear hb2); (try clear hk); (try clear hi); (try clear ho0)))
  go_loopg [6, 7] k (fun kq v6 v7 w' => ∃ (x6_1 : List (S36)) (x7_1 : Int), v7 = .int .i64 x7_1 ∧ Aside0 (whetstoneref08_Tokens.l0 kq l0 t192 x6_1 x7_1 = some (r1, r2, r3)) ∧ Aside0 (kq ≤ k) ∧ Aside0 (Kd.R (Kd.int .i64) 3 w' w.heap.size (fun _ => True) v193 t192) ∧ Aside0 (Kd.R k36 36 w' w.heap.size (fun _ => True) v6 x6_1) ∧ Aside0 (Below w.heap.size w w'))
  case atStart => exact ⟨(([] : List (S36))), (0), (by first | rfl | (simp; done) | (simp [*]; done)), H', ⟨Nat.le_refl _⟩, ⟨by (with_reducible repeat (first | apply Kd.R_alloc | apply Kd.R_drewN | apply Kd.R_drew)); exact HO194.out⟩, ⟨by first | exact Kd.R_nil _ _ _ _ _ | exact Kd.N_nil _ _ _ _ _ | exact Kd.V_nil _ _ _ _ _ | exact Kd.Q_nil _ _ _ _ _ | exact Kd.S_nil _ _ _ _ _⟩, ⟨by repeat (first | (with_reducible first | exact HB.out | apply below_alloc | apply pw_below_drewN | apply below_drew1) | exact HB.out)⟩⟩
  case round =>
    clear H'
    try clear c1
    try clear p2
    obtain ⟨x6_1, x7_1, rfl, HA, HK1, HO_5, HO_6, HB⟩ := hrel
    cases gk with
    | zero => exact absurd HA.out (by simp [whetstoneref08_Tokens.l0])
    | succ k1 =>
      have H := HA.out
      clear HA
      simp only [whetstoneref08_Tokens.l0] at H
      by_cases c4 : x7_1 < (l0.length : Int)
      · rw [if_pos c4] at H
        have c4b0 : decide (x7_1 < (l0.length : Int)) = true := decide_eq_true c4
        clear c4
        by_cases c5 : 0 ≤ x7_1
        · rw [if_pos c5] at H
          have c5b0 : decide (0 ≤ x7_1) = true := decide_eq_true c5
          clear c5
          by_cases c6 : x7_1 < (t192.length : Int)
          · rw [if_pos c6] at H
            have c6b0 : decide (x7_1 < (t192.length : Int)) = true := decide_eq_true c6
            clear c6
            by_cases c7 : (rd t192 x7_1) = 1
            · rw [if_pos c7] at H
              have c7b0 : ((rd t192 x7_1) == 1) = true := beq_iff_eq.mpr c7
              have c7b1 : ((rd t192 x7_1) != 1) = false := bne_eq_false_iff_eq.mpr c7
              clear c7
              have H' := Aside0.mk H
              clear H
              obtain ⟨Ao8, co8, eo8⟩ := Kd.R_slice HO_5.out
              subst eo8
              have p198 : 0 ≤ (x7_1 : Int) := of_decide_eq_true (by first | (with_reducible assumption) | assumption)
              have q198 : x7_1 < (t192.length : Int) := of_decide_eq_true (by first | (with_reducible assumption) | assumption)
              obtain ⟨ad198, e198, hx198_0⟩ := Kd.at_int (Kd.R_reads' HO_5.out).2.2 x7_1 p198 q198
              cases e198
              replace p198 := eq_true p198
              replace q198 := eq_true q198
              go_wp2
              go_roundg k1
              case measure => have := HK1.out; omega
              case rel => exact ⟨(x6_1), (wrap64 (x7_1 + 1)), (by first | rfl | (simp; done) | (simp [*]; done)), H', ⟨by have := HK1.out; omega⟩, ⟨by (with_reducible repeat (first | apply Kd.R_alloc | apply Kd.R_drewN | apply Kd.R_drew)); exact HO_5.out⟩, ⟨by (with_reducible repeat (first | apply Kd.R_alloc | apply Kd.R_drewN | apply Kd.R_drew)); exact HO_6.out⟩, ⟨by repeat (first | (with_reducible first | exact HB.out | apply below_alloc | apply pw_below_drewN | apply below_drew1) | exact HB.out)⟩⟩
            · rw [if_neg c7] at H
              have c7b0 : ((rd t192 x7_1) == 1) = false := beq_eq_false_iff_ne.mpr c7
              have c7b1 : ((rd t192 x7_1) != 1) = true := bne_iff_ne.mpr c7
              have HC9 := Aside0.mk H
              clear H
              obtain ⟨Ao10, co10, eo10⟩ := Kd.R_slice HO_5.out
              subst eo10
              have p198 : 0 ≤ (x7_1 : Int) := of_decide_eq_true (by first | (with_reducible assumption) | assumption)
              have q198 : x7_1 < (t192.length : Int) := of_decide_eq_true (by first | (with_reducible assumption) | assumption)
              obtain ⟨ad198, e198, hx198_0⟩ := Kd.at_int (Kd.R_reads' HO_5.out).2.2 x7_1 p198 q198
              cases e198
              replace p198 := eq_true p198
              replace q198 := eq_true q198
              go_upto_region 10 with (fail)
              go_cut [36] from 1 to 0 (fun v36 wc => ∃ (kq : Nat) (x36_8 : Bool), v36 = .bool x36_8 ∧ Aside0 (whetstoneref08_Tokens.j1 kq l0 t192 x6_1 x7_1 x7_1 4 2 x36_8 = some (r1, r2, r3)) ∧ Aside0 (kq ≤ k1) ∧ Aside0 (Kd.R (Kd.int .i64) 3 wc w.heap.size (fun _ => True) (.slice (some ad198) t192.length co10) t192) ∧ Aside0 (Kd.R k36 36 wc w.heap.size (fun _ => True) u6 x6_1) ∧ Aside0 (Below w.heap.size w wc))
              case first =>
                have H := HC9.out
                clear HC9
                by_cases c11 : (rd l0 x7_1) ≥ 97
                · rw [if_pos c11] at H
                  have c11b0 : decide (97 ≤ (rd l0 x7_1)) = true := decide_eq_true c11
                  clear c11
                  (first | rw [c11b0] | (simp only [i64_w, i32_w]; rw [c11b0]) | skip)
                  have H' := Aside0.mk H
                  clear H
                  have p199 : 0 ≤ (x7_1 : Int) := of_decide_eq_true (by first | (with_reducible assumption) | assumption)
                  have q199 : x7_1 < (l0.length : Int) := of_decide_eq_true (by first | (with_reducible assumption) | assumption)
                  obtain ⟨ad199, e199, hx199_0⟩ := Kd.at_int HR0.out x7_1 p199 q199
                  cases e199
                  replace hx199_0 := (HB.out.cell (World.block_lt_of_cell? w _ hx199_0)).trans hx199_0
                  replace p199 := eq_true p199
                  replace q199 := eq_true q199
                  have p200 : 0 ≤ (x7_1 : Int) := of_decide_eq_true (by first | (with_reducible assumption) | assumption)
                  have q200 : x7_1 < (l0.length : Int) := of_decide_eq_true (by first | (with_reducible assumption) | assumption)
                  obtain ⟨ad200, e200, hx200_0⟩ := Kd.at_int HR0.out x7_1 p200 q200
                  obtain rfl : ad199 = ad200 := (by injection e200)
                  replace hx200_0 := (HB.out.cell (World.block_lt_of_cell? w _ hx200_0)).trans hx200_0
                  replace p200 := eq_true p200
                  replace q200 := eq_true q200
                  go_wp2
                  go_meet
                  case rel => exact ⟨_, (decide ((rd l0 x7_1) ≤ 122)), (by first | rfl | (simp; done) | (simp [*]; done)), H', ⟨by have := HK1.out; first | omega | exact Nat.le_refl _⟩, ⟨by (with_reducible repeat (first | apply Kd.R_alloc | apply Kd.R_drewN | apply Kd.R_drew)); exact HO_5.out⟩, ⟨by (with_reducible repeat (first | apply Kd.R_alloc | apply Kd.R_drewN | apply Kd.R_drew)); exact HO_6.out⟩, ⟨by repeat (first | (with_reducible first | exact HB.out | apply below_alloc | apply pw_below_drewN | apply below_drew1) | exact HB.out)⟩⟩
                · rw [if_neg c11] at H
                  have c11b0 : decide (97 ≤ (rd l0 x7_1)) = false := decide_eq_false c11
                  clear c11
                  (first | rw [c11b0] | (simp only [i64_w, i32_w]; rw [c11b0]) | skip)
                  have H' := Aside0.mk H
                  clear H
                  have p199 : 0 ≤ (x7_1 : Int) := of_decide_eq_true (by first | (with_reducible assumption) | assumption)
                  have q199 : x7_1 < (l0.length : Int) := of_decide_eq_true (by first | (with_reducible assumption) | assumption)
                  obtain ⟨ad199, e199, hx199_0⟩ := Kd.at_int HR0.out x7_1 p199 q199
                  cases e199
                  replace hx199_0 := (HB.out.cell (World.block_lt_of_cell? w _ hx199_0)).trans hx199_0
                  replace p199 := eq_true p199
                  replace q199 := eq_true q199
                  go_wp2
                  go_meet
                  case rel => exact ⟨_, (false), (by first | rfl | (simp; done) | (simp [*]; done)), H', ⟨by have := HK1.out; first | omega | exact Nat.le_refl _⟩, ⟨by (with_reducible repeat (first | apply Kd.R_alloc | apply Kd.R_drewN | apply Kd.R_drew)); exact HO_5.out⟩, ⟨by (with_reducible repeat (first | apply Kd.R_alloc | apply Kd.R_drewN | apply Kd.R_drew)); exact HO_6.out⟩, ⟨by repeat (first | (with_reducible first | exact HB.out | apply below_alloc | apply pw_below_drewN | apply below_drew1) | exact HB.out)⟩⟩
              case rest =>
                clear HC9
                try clear c1
                try clear p1
                try clear q1
                try clear hx1
                try clear p2
                try clear q2
                try clear hx2
                try clear c4
                try clear c4b0
                try clear c5
                try clear c5b0
                try clear c6
                try clear c6b0
                try clear p6
                try clear c7
                try clear c7b0
                try clear c7b1
                try clear c11
                try clear c11b0
                try clear hx198_0
                try clear hx199_0
                try clear hx200_0
                try clear p198
                try clear p199
                try clear p2
                try clear p200
                try clear q198
                try clear q199
                try clear q200
                obtain ⟨kq, x36_8, rfl, HA, HJ8, HO_5, HO_6, HB⟩ := hcut
                cases kq with
                | zero => exact absurd HA.out (by simp [whetstoneref08_Tokens.j1])
                | succ kj8 =>
                  have H := HA.out
                  clear HA
                  simp only [whetstoneref08_Tokens.j1] at H
                  have HC12 := Aside0.mk H
                  clear H
                  go_upto_if 36 with (fail)
                  go_cut [8, 9, 10] from 36 to 36 (fun v8 v9 v10 wc => ∃ (kq : Nat) (x8_11 : Int) (x9_11 : Int) (x10_11 : Int), v8 = .int .i64 x8_11 ∧ v9 = .int .i64 x9_11 ∧ v10 = .int .i64 x10_11 ∧ Aside0 (whetstoneref08_Tokens.j5 kq l0 t192 x6_1 x7_1 x8_11 x9_11 x10_11 = some (r1, r2, r3)) ∧ Aside0 (kq ≤ kj8) ∧ Aside0 (Kd.R (Kd.int .i64) 3 wc w.heap.size (fun _ => True) (.slice (some ad198) t192.length co10) t192) ∧ Aside0 (Kd.R k36 36 wc w.heap.size (fun _ => True) u6 x6_1) ∧ Aside0 (Below w.heap.size w wc))
                  case first =>
                    have H := HC12.out
                    clear HC12
                    by_cases c13 : x36_8 = true
                    · subst c13
                      have H1 : (whetstoneref08_Tokens.l1 kj8 l0 t192 x6_1 x7_1 x7_1) = some (r1, r2, r3) := by rw [if_pos rfl] at H; exact H
                      clear H
                      have H := H1
                      clear H1
                      have H' := Aside0.mk H
                      clear H
                      go_wp2
                      go_loopg [8] kj8 (fun kq v8 w' => ∃ (x8_3 : Int), v8 = .int .i64 x8_3 ∧ Aside0 (whetstoneref08_Tokens.l1 kq l0 t192 x6_1 x7_1 x8_3 = some (r1, r2, r3)) ∧ Aside0 (kq ≤ kj8) ∧ Aside0 (Kd.R (Kd.int .i64) 3 w' w.heap.size (fun _ => True) (.slice (some ad198) t192.length co10) t192) ∧ Aside0 (Kd.R k36 36 w' w.heap.size (fun _ => True) u6 x6_1) ∧ Aside0 (Below w.heap.size w w'))
                      case atStart => exact ⟨(x7_1), (by first | rfl | (simp; done) | (simp [*]; done)), H', ⟨Nat.le_refl _⟩, ⟨by (with_reducible repeat (first | apply Kd.R_alloc | apply Kd.R_drewN | apply Kd.R_drew)); exact HO_5.out⟩, ⟨by (with_reducible repeat (first | apply Kd.R_alloc | apply Kd.R_drewN | apply Kd.R_drew)); exact HO_6.out⟩, ⟨by repeat (first | (with_reducible first | exact HB.out | apply below_alloc | apply pw_below_drewN | apply below_drew1) | exact HB.out)⟩⟩
                      case round =>
                        clear H'
                        try clear c1
                        try clear p1
                        try clear q1
                        try clear hx1
                        try clear p2
                        try clear q2
                        try clear hx2
                        try clear c4
                        try clear c4b0
                        try clear c5
                        try clear c5b0
                        try clear c6
                        try clear c6b0
                        try clear p6
                        try clear c7
                        try clear c7b0
                        try clear c7b1
                        try clear c11
                        try clear c11b0
                        try clear c12
                        try clear c13
                        try clear hx198_0
                        try clear hx199_0
                        try clear hx200_0
                        try clear p1
                        try clear p198
                        try clear p199
                        try clear p2
                        try clear p200
                        try clear p6
                        try clear q1
                        try clear q198
                        try clear q199
                        try clear q2
                        try clear q200
                        obtain ⟨x8_3, rfl, HA, HK3, HO_5, HO_6, HB⟩ := hrel
                        cases gk with
                        | zero => exact absurd HA.out (by simp [whetstoneref08_Tokens.l1])
                        | succ k3 =>
                          have H := HA.out
                          clear HA
                          simp only [whetstoneref08_Tokens.l1] at H
                          by_cases c14 : x8_3 < (l0.length : Int)
                          · rw [if_pos c14] at H
                            have c14b0 : decide (x8_3 < (l0.length : Int)) = true := decide_eq_true c14
                            clear c14
                            (first | rw [c14b0] | (simp only [i64_w, i32_w]; rw [c14b0]) | skip)
                            by_cases c15 : 0 ≤ x8_3
                            · rw [if_pos c15] at H
                              have c15b0 : decide (0 ≤ x8_3) = true := decide_eq_true c15
                              clear c15
                              by_cases c16 : x8_3 < (t192.length : Int)
                              · rw [if_pos c16] at H
                                have c16b0 : decide (x8_3 < (t192.length : Int)) = true := decide_eq_true c16
                                clear c16
                                by_cases c17 : (rd t192 x8_3) = 0
                                · rw [if_pos c17] at H
                                  have c17b0 : ((rd t192 x8_3) == 0) = true := beq_iff_eq.mpr c17
                                  have c17b1 : ((rd t192 x8_3) != 0) = false := bne_eq_false_iff_eq.mpr c17
                                  clear c17
                                  replace H := Option.bind_eq_some_iff.mp H
                                  obtain ⟨t203, A180, H⟩ := H
                                  replace H : (if t203 = true then (whetstoneref08_Tokens.l1 k3 l0 t192 x6_1 x7_1 (wrap64 (x8_3 + 1))) else (if 0 ≤ x7_1 then (if x7_1 ≤ x8_3 then (if x8_3 ≤ (l0.length : Int) then ((whetstoneref08_IsWord.f k3 (strOfNums ((l0.take (x8_3 : Int).toNat).drop (x7_1 : Int).toNat))).bind fun t205 => (if t205 = true then (whetstoneref08_Tokens.j5 k3 l0 t192 x6_1 x7_1 x8_3 2 24) else (whetstoneref08_Tokens.j5 k3 l0 t192 x6_1 x7_1 x8_3 1 24))) else (none)) else (none)) else (none))) = some (r1, r2, r3) := H
                                  have A18 := Aside0.mk A180
                                  clear A180
                                  by_cases c19 : t203 = true
                                  · subst c19
                                    have H1 : (whetstoneref08_Tokens.l1 k3 l0 t192 x6_1 x7_1 (wrap64 (x8_3 + 1))) = some (r1, r2, r3) := by rw [if_pos rfl] at H; exact H
                                    clear H
                                    have H := H1
                                    clear H1
                                    have H' := Aside0.mk H
                                    clear H
                                    have p201 : 0 ≤ (x8_3 : Int) := of_decide_eq_true (by first | (with_reducible assumption) | assumption)
                                    have q201 : x8_3 < (t192.length : Int) := of_decide_eq_true (by first | (with_reducible assumption) | assumption)
                                    obtain ⟨ad201, e201, hx201_0⟩ := Kd.at_int (Kd.R_reads' HO_5.out).2.2 x8_3 p201 q201
                                    obtain rfl : ad198 = ad201 := (by injection e201)
                                    replace p201 := eq_true p201
                                    replace q201 := eq_true q201
                                    have p202 : 0 ≤ (x8_3 : Int) := of_decide_eq_true (by first | (with_reducible assumption) | assumption)
                                    have q202 : x8_3 < (l0.length : Int) := of_decide_eq_true (by first | (with_reducible assumption) | assumption)
                                    obtain ⟨ad202, e202, hx202_0⟩ := Kd.at_int HR0.out x8_3 p202 q202
                                    cases e202
                                    replace hx202_0 := (HB.out.cell (World.block_lt_of_cell? w _ hx202_0)).trans hx202_0
                                    replace p202 := eq_true p202
                                    replace q202 := eq_true q202
                                    go_wp2_with (first | (go_at_call 23; (with_reducible refine (whetstoneref08_goesOn.calls (rd l0 x8_3) true _ A18.out).mono ?_); rintro e w' ⟨rfl, ⟨nd, rfl⟩⟩))
                                    go_roundg k3
                                    case measure => have := HK1.out; have := HJ8.out; have := HK3.out; omega
                                    case rel => exact ⟨(wrap64 (x8_3 + 1)), (by first | rfl | (simp; done) | (simp [*]; done)), H', ⟨by have := HK1.out; have := HJ8.out; have := HK3.out; omega⟩, ⟨by (with_reducible repeat (first | apply Kd.R_alloc | apply Kd.R_drewN | apply Kd.R_drew)); exact HO_5.out⟩, ⟨by (with_reducible repeat (first | apply Kd.R_alloc | apply Kd.R_drewN | apply Kd.R_drew)); exact HO_6.out⟩, ⟨by repeat (first | (with_reducible first | exact HB.out | apply below_alloc | apply pw_below_drewN | apply below_drew1) | exact HB.out)⟩⟩
                                  · replace c19 := Bool.eq_false_iff.mpr c19
                                    subst c19
                                    have H1 : (if 0 ≤ x7_1 then (if x7_1 ≤ x8_3 then (if x8_3 ≤ (l0.length : Int) then ((whetstoneref08_IsWord.f k3 (strOfNums ((l0.take (x8_3 : Int).toNat).drop (x7_1 : Int).toNat))).bind fun t205 => (if t205 = true then (whetstoneref08_Tokens.j5 k3 l0 t192 x6_1 x7_1 x8_3 2 24) else (whetstoneref08_Tokens.j5 k3 l0 t192 x6_1 x7_1 x8_3 1 24))) else (none)) else (none)) else (none)) = some (r1, r2, r3) := by rw [if_neg (show ¬ (false = true) by decide)] at H; exact H
                                    clear H
                                    have H := H1
                                    clear H1
                                    by_cases c20 : 0 ≤ x7_1
                                    · rw [if_pos c20] at H
                                      have c20b0 := eq_true c20
                                      have c20b1 : decide (0 ≤ x7_1) = true := decide_eq_true c20
                                      clear c20
                                      by_cases c21 : x7_1 ≤ x8_3
                                      · rw [if_pos c21] at H
                                        have c21b0 := eq_true c21
                                        have c21b1 : decide (x7_1 ≤ x8_3) = true := decide_eq_true c21
                                        clear c21
                                        by_cases c22 : x8_3 ≤ (l0.length : Int)
                                        · rw [if_pos c22] at H
                                          have c22b0 := eq_true c22
                                          have c22b1 : decide (x8_3 ≤ (l0.length : Int)) = true := decide_eq_true c22
                                          clear c22
                                          replace H := Option.bind_eq_some_iff.mp H
                                          obtain ⟨t205, A230, H⟩ := H
                                          replace H : (if t205 = true then (whetstoneref08_Tokens.j5 k3 l0 t192 x6_1 x7_1 x8_3 2 24) else (whetstoneref08_Tokens.j5 k3 l0 t192 x6_1 x7_1 x8_3 1 24)) = some (r1, r2, r3) := H
                                          have A23 := Aside0.mk A230
                                          clear A230
                                          by_cases c24 : t205 = true
                                          · subst c24
                                            have H1 : (whetstoneref08_Tokens.j5 k3 l0 t192 x6_1 x7_1 x8_3 2 24) = some (r1, r2, r3) := by rw [if_pos rfl] at H; exact H
                                            clear H
                                            have H := H1
                                            clear H1
                                            have H' := Aside0.mk H
                                            clear H
                                            have p201 : 0 ≤ (x8_3 : Int) := of_decide_eq_true (by first | (with_reducible assumption) | assumption)
                                            have q201 : x8_3 < (t192.length : Int) := of_decide_eq_true (by first | (with_reducible assumption) | assumption)
                                            obtain ⟨ad201, e201, hx201_0⟩ := Kd.at_int (Kd.R_reads' HO_5.out).2.2 x8_3 p201 q201
                                            obtain rfl : ad198 = ad201 := (by injection e201)
                                            replace p201 := eq_true p201
                                            replace q201 := eq_true q201
                                            have p202 : 0 ≤ (x8_3 : Int) := of_decide_eq_true (by first | (with_reducible assumption) | assumption)
                                            have q202 : x8_3 < (l0.length : Int) := of_decide_eq_true (by first | (with_reducible assumption) | assumption)
                                            obtain ⟨ad202, e202, hx202_0⟩ := Kd.at_int HR0.out x8_3 p202 q202
                                            cases e202
                                            replace hx202_0 := (HB.out.cell (World.block_lt_of_cell? w _ hx202_0)).trans hx202_0
                                            replace p202 := eq_true p202
                                            replace q202 := eq_true q202
                                            go_wp2_with (first | (go_at_call 23; (with_reducible refine (whetstoneref08_goesOn.calls (rd l0 x8_3) false _ A18.out).mono ?_); rintro e w' ⟨rfl, ⟨nd, rfl⟩⟩; obtain ⟨i025, hi025, _, hsz25, _⟩ := info_parts info5; obtain ⟨A25, hcut25, hA25, hC25⟩ := print_mid_of (P := Try.prog) (Value.int .u8) 0 22 5 .i64 .i64 Try.underlying22 hi025 hsz25 (some ad202) c0 l0 x7_1 x8_3 (of_decide_eq_true (by first | (with_reducible assumption) | assumption)) (by first | omega | exact of_decide_eq_true (by first | (with_reducible assumption) | assumption)) (of_decide_eq_true (by first | (with_reducible assumption) | assumption)) HC0.out; have HR204 := Aside0.mk (Kd.C_of_reads (h1 := fun _ => rfl) (hA25 _ (Kd.reads_of_C HR0.out))); have HC204 := Aside0.mk hC25; clear hA25 hC25 hi025 hsz25; have hcv26 := Kd.C_string (P := Try.prog) (A := A25) (c := (c0 - x7_1.toNat)) Try.underlying22 Try.underlying5 Try.underlying9 (Kd.C_below HR204.out HB.out); (try (have hcvs26_ := hcv26; rw [(show ((l0.take (x8_3 : Int).toNat).drop (x7_1 : Int).toNat).length = (x8_3 : Int).toNat - (x7_1 : Int).toNat from by rw [List.length_drop, List.length_take, Nat.min_eq_left (by have h_ : x8_3 ≤ (l0.length : Int) := (by first | (with_reducible assumption) | assumption | omega | exact of_decide_eq_true (by first | (with_reducible assumption) | assumption)); omega)])] at hcvs26_)); (try (have hcvd26_ := fun m_ : Nat => Kd.C_string (P := Try.prog) (A := A25) (c := (c0 - x7_1.toNat)) Try.underlying22 Try.underlying5 Try.underlying9 (Kd.C_below (Kd.C_below HR204.out HB.out) (pw_below_drewN (Below.refl _ _) m_)); rw [(show ((l0.take (x8_3 : Int).toNat).drop (x7_1 : Int).toNat).length = (x8_3 : Int).toNat - (x7_1 : Int).toNat from by rw [List.length_drop, List.length_take, Nat.min_eq_left (by have h_ : x8_3 ≤ (l0.length : Int) := (by first | (with_reducible assumption) | assumption | omega | exact of_decide_eq_true (by first | (with_reducible assumption) | assumption)); omega)])] at hcvd26_))) | ((with_reducible refine gate_callee (f := 14) rfl ?_); refine goesL_ (some 62) rfl rfl Try.func14 (by kernel_rfl) rfl #[.string (strOfNums ((l0.take (x8_3 : Int).toNat).drop (x7_1 : Int).toNat))] rfl (by (try simp only [List.map_toArray, List.map_cons, List.map_nil]); first | done | rfl | (simp only [List.length_drop, List.length_take]; rfl)) ?_; (with_reducible refine (whetstoneref08_IsWord.calls k3 (strOfNums ((l0.take (x8_3 : Int).toNat).drop (x7_1 : Int).toNat)) true _ A23.out).mono ?_); rintro e w27 ⟨rfl, hb⟩; refine ⟨_, rfl, ?_⟩; have n0_ := Aside0.mk (Kd.R_below (by (with_reducible repeat (first | apply Kd.R_alloc | apply Kd.R_drewN | apply Kd.R_drew)); exact HO_5.out) hb); have n1_ := Aside0.mk (Kd.R_below (by (with_reducible repeat (first | apply Kd.R_alloc | apply Kd.R_drewN | apply Kd.R_drew)); exact HO_6.out) hb); have n2_ := Aside0.mk (below_step (by repeat (first | (with_reducible first | exact HB.out | apply below_alloc | apply pw_below_drewN | apply below_drew1) | exact HB.out)) hb); clear HO_5; clear HO_6; clear HB; have HO_5 := n0_; have HO_6 := n1_; have HB := n2_; clear n0_ n1_ n2_; (try clear hb); (try clear hb2); (try clear hk); (try clear hi)))
                                            go_meet
                                            case rel => exact ⟨_, (x8_3), (2), (24), (by first | rfl | (simp; done) | (simp [*]; done)), (by first | rfl | (simp; done) | (simp [*]; done)), (by first | rfl | (simp; done) | (simp [*]; done)), H', ⟨by have := HK1.out; have := HJ8.out; have := HK3.out; first | omega | exact Nat.le_refl _⟩, ⟨by (with_reducible repeat (first | apply Kd.R_alloc | apply Kd.R_drewN | apply Kd.R_drew)); exact HO_5.out⟩, ⟨by (with_reducible repeat (first | apply Kd.R_alloc | apply Kd.R_drewN | apply Kd.R_drew)); exact HO_6.out⟩, ⟨by repeat (first | (with_reducible first | exact HB.out | apply below_alloc | apply pw_below_drewN | apply below_drew1) | exact HB.out)⟩⟩
                                          · replace c24 := Bool.eq_false_iff.mpr c24
                                            subst c24
                                            have H1 : (whetstoneref08_Tokens.j5 k3 l0 t192 x6_1 x7_1 x8_3 1 24) = some (r1, r2, r3) := by rw [if_neg (show ¬ (false = true) by decide)] at H; exact H
                                            clear H
                                            have H := H1
                                            clear H1
                                            have H' := Aside0.mk H
                                            clear H
                                            have p201 : 0 ≤ (x8_3 : Int) := of_decide_eq_true (by first | (with_reducible assumption) | assumption)
                                            have q201 : x8_3 < (t192.length : Int) := of_decide_eq_true (by first | (with_reducible assumption) | assumption)
                                            obtain ⟨ad201, e201, hx201_0⟩ := Kd.at_int (Kd.R_reads' HO_5.out).2.2 x8_3 p201 q201
                                            obtain rfl : ad198 = ad201 := (by injection e201)
                                            replace p201 := eq_true p201
                                            replace q201 := eq_true q201
                                            have p202 : 0 ≤ (x8_3 : Int) := of_decide_eq_true (by first | (with_reducible assumption) | assumption)
                                            have q202 : x8_3 < (l0.length : Int) := of_decide_eq_true (by first | (with_reducible assumption) | assumption)
                                            obtain ⟨ad202, e202, hx202_0⟩ := Kd.at_int HR0.out x8_3 p202 q202
                                            cases e202
                                            replace hx202_0 := (HB.out.cell (World.block_lt_of_cell? w _ hx202_0)).trans hx202_0
                                            replace p202 := eq_true p202
                                            replace q202 := eq_true q202
                                            go_wp2_with (first | (go_at_call 23; (with_reducible refine (whetstoneref08_goesOn.calls (rd l0 x8_3) false _ A18.out).mono ?_); rintro e w' ⟨rfl, ⟨nd, rfl⟩⟩; obtain ⟨i028, hi028, _, hsz28, _⟩ := info_parts info5; obtain ⟨A28, hcut28, hA28, hC28⟩ := print_mid_of (P := Try.prog) (Value.int .u8) 0 22 5 .i64 .i64 Try.underlying22 hi028 hsz28 (some ad202) c0 l0 x7_1 x8_3 (of_decide_eq_true (by first | (with_reducible assumption) | assumption)) (by first | omega | exact of_decide_eq_true (by first | (with_reducible assumption) | assumption)) (of_decide_eq_true (by first | (with_reducible assumption) | assumption)) HC0.out; have HR204 := Aside0.mk (Kd.C_of_reads (h1 := fun _ => rfl) (hA28 _ (Kd.reads_of_C HR0.out))); have HC204 := Aside0.mk hC28; clear hA28 hC28 hi028 hsz28; have hcv29 := Kd.C_string (P := Try.prog) (A := A28) (c := (c0 - x7_1.toNat)) Try.underlying22 Try.underlying5 Try.underlying9 (Kd.C_below HR204.out HB.out); (try (have hcvs29_ := hcv29; rw [(show ((l0.take (x8_3 : Int).toNat).drop (x7_1 : Int).toNat).length = (x8_3 : Int).toNat - (x7_1 : Int).toNat from by rw [List.length_drop, List.length_take, Nat.min_eq_left (by have h_ : x8_3 ≤ (l0.length : Int) := (by first | (with_reducible assumption) | assumption | omega | exact of_decide_eq_true (by first | (with_reducible assumption) | assumption)); omega)])] at hcvs29_)); (try (have hcvd29_ := fun m_ : Nat => Kd.C_string (P := Try.prog) (A := A28) (c := (c0 - x7_1.toNat)) Try.underlying22 Try.underlying5 Try.underlying9 (Kd.C_below (Kd.C_below HR204.out HB.out) (pw_below_drewN (Below.refl _ _) m_)); rw [(show ((l0.take (x8_3 : Int).toNat).drop (x7_1 : Int).toNat).length = (x8_3 : Int).toNat - (x7_1 : Int).toNat from by rw [List.length_drop, List.length_take, Nat.min_eq_left (by have h_ : x8_3 ≤ (l0.length : Int) := (by first | (with_reducible assumption) | assumption | omega | exact of_decide_eq_true (by first | (with_reducible assumption) | assumption)); omega)])] at hcvd29_))) | ((with_reducible refine gate_callee (f := 14) rfl ?_); refine goesL_ (some 62) rfl rfl Try.func14 (by kernel_rfl) rfl #[.string (strOfNums ((l0.take (x8_3 : Int).toNat).drop (x7_1 : Int).toNat))] rfl (by (try simp only [List.map_toArray, List.map_cons, List.map_nil]); first | done | rfl | (simp only [List.length_drop, List.length_take]; rfl)) ?_; (with_reducible refine (whetstoneref08_IsWord.calls k3 (strOfNums ((l0.take (x8_3 : Int).toNat).drop (x7_1 : Int).toNat)) false _ A23.out).mono ?_); rintro e w30 ⟨rfl, hb⟩; refine ⟨_, rfl, ?_⟩; have n0_ := Aside0.mk (Kd.R_below (by (with_reducible repeat (first | apply Kd.R_alloc | apply Kd.R_drewN | apply Kd.R_drew)); exact HO_5.out) hb); have n1_ := Aside0.mk (Kd.R_below (by (with_reducible repeat (first | apply Kd.R_alloc | apply Kd.R_drewN | apply Kd.R_drew)); exact HO_6.out) hb); have n2_ := Aside0.mk (below_step (by repeat (first | (with_reducible first | exact HB.out | apply below_alloc | apply pw_below_drewN | apply below_drew1) | exact HB.out)) hb); clear HO_5; clear HO_6; clear HB; have HO_5 := n0_; have HO_6 := n1_; have HB := n2_; clear n0_ n1_ n2_; (try clear hb); (try clear hb2); (try clear hk); (try clear hi)))
                                            go_meet
                                            case rel => exact ⟨_, (x8_3), (1), (24), (by first | rfl | (simp; done) | (simp [*]; done)), (by first | rfl | (simp; done) | (simp [*]; done)), (by first | rfl | (simp; done) | (simp [*]; done)), H', ⟨by have := HK1.out; have := HJ8.out; have := HK3.out; first | omega | exact Nat.le_refl _⟩, ⟨by (with_reducible repeat (first | apply Kd.R_alloc | apply Kd.R_drewN | apply Kd.R_drew)); exact HO_5.out⟩, ⟨by (with_reducible repeat (first | apply Kd.R_alloc | apply Kd.R_drewN | apply Kd.R_drew)); exact HO_6.out⟩, ⟨by repeat (first | (with_reducible first | exact HB.out | apply below_alloc | apply pw_below_drewN | apply below_drew1) | exact HB.out)⟩⟩
                                        · rw [if_neg c22] at H
                                          exact absurd H (by simp)
                                      · rw [if_neg c21] at H
                                        exact absurd H (by simp)
                                    · rw [if_neg c20] at H
                                      exact absurd H (by simp)
                                · rw [if_neg c17] at H
                                  have c17b0 : ((rd t192 x8_3) == 0) = false := beq_eq_false_iff_ne.mpr c17
                                  have c17b1 : ((rd t192 x8_3) != 0) = true := bne_iff_ne.mpr c17
                                  by_cases c31 : 0 ≤ x7_1
                                  · rw [if_pos c31] at H
                                    have c31b0 := eq_true c31
                                    have c31b1 : decide (0 ≤ x7_1) = true := decide_eq_true c31
                                    clear c31
                                    by_cases c32 : x7_1 ≤ x8_3
                                    · rw [if_pos c32] at H
                                      have c32b0 := eq_true c32
                                      have c32b1 : decide (x7_1 ≤ x8_3) = true := decide_eq_true c32
                                      clear c32
                                      by_cases c33 : x8_3 ≤ (l0.length : Int)
                                      · rw [if_pos c33] at H
                                        have c33b0 := eq_true c33
                                        have c33b1 : decide (x8_3 ≤ (l0.length : Int)) = true := decide_eq_true c33
                                        clear c33
                                        replace H := Option.bind_eq_some_iff.mp H
                                        obtain ⟨t207, A340, H⟩ := H
                                        replace H : (if t207 = true then (whetstoneref08_Tokens.j5 k3 l0 t192 x6_1 x7_1 x8_3 2 24) else (whetstoneref08_Tokens.j5 k3 l0 t192 x6_1 x7_1 x8_3 1 24)) = some (r1, r2, r3) := H
                                        have A34 := Aside0.mk A340
                                        clear A340
                                        by_cases c35 : t207 = true
                                        · subst c35
                                          have H1 : (whetstoneref08_Tokens.j5 k3 l0 t192 x6_1 x7_1 x8_3 2 24) = some (r1, r2, r3) := by rw [if_pos rfl] at H; exact H
                                          clear H
                                          have H := H1
                                          clear H1
                                          have H' := Aside0.mk H
                                          clear H
                                          have p201 : 0 ≤ (x8_3 : Int) := of_decide_eq_true (by first | (with_reducible assumption) | assumption)
                                          have q201 : x8_3 < (t192.length : Int) := of_decide_eq_true (by first | (with_reducible assumption) | assumption)
                                          obtain ⟨ad201, e201, hx201_0⟩ := Kd.at_int (Kd.R_reads' HO_5.out).2.2 x8_3 p201 q201
                                          obtain rfl : ad198 = ad201 := (by injection e201)
                                          replace p201 := eq_true p201
                                          replace q201 := eq_true q201
                                          obtain ⟨i036, hi036, _, hsz36, _⟩ := info_parts info5
                                          obtain ⟨A36, hcut36, hA36, hC36⟩ := print_mid_of (P := Try.prog) (Value.int .u8) 0 22 5 .i64 .i64 Try.underlying22 hi036 hsz36 A0 c0 l0 x7_1 x8_3 (of_decide_eq_true (by first | (with_reducible assumption) | assumption)) (by first | omega | exact of_decide_eq_true (by first | (with_reducible assumption) | assumption)) (of_decide_eq_true (by first | (with_reducible assumption) | assumption)) HC0.out
                                          have HR206 := Aside0.mk (Kd.C_of_reads (h1 := fun _ => rfl) (hA36 _ (Kd.reads_of_C HR0.out)))
                                          have HC206 := Aside0.mk hC36
                                          clear hA36 hC36 hi036 hsz36
                                          have hcv37 := Kd.C_string (P := Try.prog) (A := A36) (c := (c0 - x7_1.toNat)) Try.underlying22 Try.underlying5 Try.underlying9 (Kd.C_below HR206.out HB.out)
                                          (try (have hcvs37_ := hcv37; rw [(show ((l0.take (x8_3 : Int).toNat).drop (x7_1 : Int).toNat).length = (x8_3 : Int).toNat - (x7_1 : Int).toNat from by rw [List.length_drop, List.length_take, Nat.min_eq_left (by have h_ : x8_3 ≤ (l0.length : Int) := (by first | (with_reducible assumption) | assumption | omega | exact of_decide_eq_true (by first | (with_reducible assumption) | assumption)); omega)])] at hcvs37_))
                                          (try (have hcvd37_ := fun m_ : Nat => Kd.C_string (P := Try.prog) (A := A36) (c := (c0 - x7_1.toNat)) Try.underlying22 Try.underlying5 Try.underlying9 (Kd.C_below (Kd.C_below HR206.out HB.out) (pw_below_drewN (Below.refl _ _) m_)); rw [(show ((l0.take (x8_3 : Int).toNat).drop (x7_1 : Int).toNat).length = (x8_3 : Int).toNat - (x7_1 : Int).toNat from by rw [List.length_drop, List.length_take, Nat.min_eq_left (by have h_ : x8_3 ≤ (l0.length : Int) := (by first | (with_reducible assumption) | assumption | omega | exact of_decide_eq_true (by first | (with_reducible assumption) | assumption)); omega)])] at hcvd37_))
                                          go_wp2_with (first | ((with_reducible refine gate_callee (f := 14) rfl ?_); refine goesL_ (some 62) rfl rfl Try.func14 (by kernel_rfl) rfl #[.string (strOfNums ((l0.take (x8_3 : Int).toNat).drop (x7_1 : Int).toNat))] rfl (by (try simp only [List.map_toArray, List.map_cons, List.map_nil]); first | done | rfl | (simp only [List.length_drop, List.length_take]; rfl)) ?_; (with_reducible refine (whetstoneref08_IsWord.calls k3 (strOfNums ((l0.take (x8_3 : Int).toNat).drop (x7_1 : Int).toNat)) true _ A34.out).mono ?_); rintro e w38 ⟨rfl, hb⟩; refine ⟨_, rfl, ?_⟩; have n0_ := Aside0.mk (Kd.R_below (by (with_reducible repeat (first | apply Kd.R_alloc | apply Kd.R_drewN | apply Kd.R_drew)); exact HO_5.out) hb); have n1_ := Aside0.mk (Kd.R_below (by (with_reducible repeat (first | apply Kd.R_alloc | apply Kd.R_drewN | apply Kd.R_drew)); exact HO_6.out) hb); have n2_ := Aside0.mk (below_step (by repeat (first | (with_reducible first | exact HB.out | apply below_alloc | apply pw_below_drewN | apply below_drew1) | exact HB.out)) hb); clear HO_5; clear HO_6; clear HB; have HO_5 := n0_; have HO_6 := n1_; have HB := n2_; clear n0_ n1_ n2_; (try clear hb); (try clear hb2); (try clear hk); (try clear hi)))
                                          go_meet
                                          case rel => exact ⟨_, (x8_3), (2), (24), (by first | rfl | (simp; done) | (simp [*]; done)), (by first | rfl | (simp; done) | (simp [*]; done)), (by first | rfl | (simp; done) | (simp [*]; done)), H', ⟨by have := HK1.out; have := HJ8.out; have := HK3.out; first | omega | exact Nat.le_refl _⟩, ⟨by (with_reducible repeat (first | apply Kd.R_alloc | apply Kd.R_drewN | apply Kd.R_drew)); exact HO_5.out⟩, ⟨by (with_reducible repeat (first | apply Kd.R_alloc | apply Kd.R_drewN | apply Kd.R_drew)); exact HO_6.out⟩, ⟨by repeat (first | (with_reducible first | exact HB.out | apply below_alloc | apply pw_below_drewN | apply below_drew1) | exact HB.out)⟩⟩
                                        · replace c35 := Bool.eq_false_iff.mpr c35
                                          subst c35
                                          have H1 : (whetstoneref08_Tokens.j5 k3 l0 t192 x6_1 x7_1 x8_3 1 24) = some (r1, r2, r3) := by rw [if_neg (show ¬ (false = true) by decide)] at H; exact H
                                          clear H
                                          have H := H1
                                          clear H1
                                          have H' := Aside0.mk H
                                          clear H
                                          have p201 : 0 ≤ (x8_3 : Int) := of_decide_eq_true (by first | (with_reducible assumption) | assumption)
                                          have q201 : x8_3 < (t192.length : Int) := of_decide_eq_true (by first | (with_reducible assumption) | assumption)
                                          obtain ⟨ad201, e201, hx201_0⟩ := Kd.at_int (Kd.R_reads' HO_5.out).2.2 x8_3 p201 q201
                                          obtain rfl : ad198 = ad201 := (by injection e201)
                                          replace p201 := eq_true p201
                                          replace q201 := eq_true q201
                                          obtain ⟨i039, hi039, _, hsz39, _⟩ := info_parts info5
                                          obtain ⟨A39, hcut39, hA39, hC39⟩ := print_mid_of (P := Try.prog) (Value.int .u8) 0 22 5 .i64 .i64 Try.underlying22 hi039 hsz39 A0 c0 l0 x7_1 x8_3 (of_decide_eq_true (by first | (with_reducible assumption) | assumption)) (by first | omega | exact of_decide_eq_true (by first | (with_reducible assumption) | assumption)) (of_decide_eq_true (by first | (with_reducible assumption) | assumption)) HC0.out
                                          have HR206 := Aside0.mk (Kd.C_of_reads (h1 := fun _ => rfl) (hA39 _ (Kd.reads_of_C HR0.out)))
                                          have HC206 := Aside0.mk hC39
                                          clear hA39 hC39 hi039 hsz39
                                          have hcv40 := Kd.C_string (P := Try.prog) (A := A39) (c := (c0 - x7_1.toNat)) Try.underlying22 Try.underlying5 Try.underlying9 (Kd.C_below HR206.out HB.out)
                                          (try (have hcvs40_ := hcv40; rw [(show ((l0.take (x8_3 : Int).toNat).drop (x7_1 : Int).toNat).length = (x8_3 : Int).toNat - (x7_1 : Int).toNat from by rw [List.length_drop, List.length_take, Nat.min_eq_left (by have h_ : x8_3 ≤ (l0.length : Int) := (by first | (with_reducible assumption) | assumption | omega | exact of_decide_eq_true (by first | (with_reducible assumption) | assumption)); omega)])] at hcvs40_))
                                          (try (have hcvd40_ := fun m_ : Nat => Kd.C_string (P := Try.prog) (A := A39) (c := (c0 - x7_1.toNat)) Try.underlying22 Try.underlying5 Try.underlying9 (Kd.C_below (Kd.C_below HR206.out HB.out) (pw_below_drewN (Below.refl _ _) m_)); rw [(show ((l0.take (x8_3 : Int).toNat).drop (x7_1 : Int).toNat).length = (x8_3 : Int).toNat - (x7_1 : Int).toNat from by rw [List.length_drop, List.length_take, Nat.min_eq_left (by have h_ : x8_3 ≤ (l0.length : Int) := (by first | (with_reducible assumption) | assumption | omega | exact of_decide_eq_true (by first | (with_reducible assumption) | assumption)); omega)])] at hcvd40_))
                                          go_wp2_with (first | ((with_reducible refine gate_callee (f := 14) rfl ?_); refine goesL_ (some 62) rfl rfl Try.func14 (by kernel_rfl) rfl #[.string (strOfNums ((l0.take (x8_3 : Int).toNat).drop (x7_1 : Int).toNat))] rfl (by (try simp only [List.map_toArray, List.map_cons, List.map_nil]); first | done | rfl | (simp only [List.length_drop, List.length_take]; rfl)) ?_; (with_reducible refine (whetstoneref08_IsWord.calls k3 (strOfNums ((l0.take (x8_3 : Int).toNat).drop (x7_1 : Int).toNat)) false _ A34.out).mono ?_); rintro e w41 ⟨rfl, hb⟩; refine ⟨_, rfl, ?_⟩; have n0_ := Aside0.mk (Kd.R_below (by (with_reducible repeat (first | apply Kd.R_alloc | apply Kd.R_drewN | apply Kd.R_drew)); exact HO_5.out) hb); have n1_ := Aside0.mk (Kd.R_below (by (with_reducible repeat (first | apply Kd.R_alloc | apply Kd.R_drewN | apply Kd.R_drew)); exact HO_6.out) hb); have n2_ := Aside0.mk (below_step (by repeat (first | (with_reducible first | exact HB.out | apply below_alloc | apply pw_below_drewN | apply below_drew1) | exact HB.out)) hb); clear HO_5; clear HO_6; clear HB; have HO_5 := n0_; have HO_6 := n1_; have HB := n2_; clear n0_ n1_ n2_; (try clear hb); (try clear hb2); (try clear hk); (try clear hi)))
                                          go_meet
                                          case rel => exact ⟨_, (x8_3), (1), (24), (by first | rfl | (simp; done) | (simp [*]; done)), (by first | rfl | (simp; done) | (simp [*]; done)), (by first | rfl | (simp; done) | (simp [*]; done)), H', ⟨by have := HK1.out; have := HJ8.out; have := HK3.out; first | omega | exact Nat.le_refl _⟩, ⟨by (with_reducible repeat (first | apply Kd.R_alloc | apply Kd.R_drewN | apply Kd.R_drew)); exact HO_5.out⟩, ⟨by (with_reducible repeat (first | apply Kd.R_alloc | apply Kd.R_drewN | apply Kd.R_drew)); exact HO_6.out⟩, ⟨by repeat (first | (with_reducible first | exact HB.out | apply below_alloc | apply pw_below_drewN | apply below_drew1) | exact HB.out)⟩⟩
                                      · rw [if_neg c33] at H
                                        exact absurd H (by simp)
                                    · rw [if_neg c32] at H
                                      exact absurd H (by simp)
                                  · rw [if_neg c31] at H
                                    exact absurd H (by simp)
                              · rw [if_neg c16] at H
                                exact absurd H (by simp)
                            · rw [if_neg c15] at H
                              exact absurd H (by simp)
                          · rw [if_neg c14] at H
                            have c14b0 : decide (x8_3 < (l0.length : Int)) = false := decide_eq_false c14
                            clear c14
                            (first | rw [c14b0] | (simp only [i64_w, i32_w]; rw [c14b0]) | skip)
                            by_cases c42 : 0 ≤ x7_1
                            · rw [if_pos c42] at H
                              have c42b0 := eq_true c42
                              have c42b1 : decide (0 ≤ x7_1) = true := decide_eq_true c42
                              clear c42
                              by_cases c43 : x7_1 ≤ x8_3
                              · rw [if_pos c43] at H
                                have c43b0 := eq_true c43
                                have c43b1 : decide (x7_1 ≤ x8_3) = true := decide_eq_true c43
                                clear c43
                                by_cases c44 : x8_3 ≤ (l0.length : Int)
                                · rw [if_pos c44] at H
                                  have c44b0 := eq_true c44
                                  have c44b1 : decide (x8_3 ≤ (l0.length : Int)) = true := decide_eq_true c44
                                  clear c44
                                  replace H := Option.bind_eq_some_iff.mp H
                                  obtain ⟨t209, A450, H⟩ := H
                                  replace H : (if t209 = true then (whetstoneref08_Tokens.j5 k3 l0 t192 x6_1 x7_1 x8_3 2 24) else (whetstoneref08_Tokens.j5 k3 l0 t192 x6_1 x7_1 x8_3 1 24)) = some (r1, r2, r3) := H
                                  have A45 := Aside0.mk A450
                                  clear A450
                                  by_cases c46 : t209 = true
                                  · subst c46
                                    have H1 : (whetstoneref08_Tokens.j5 k3 l0 t192 x6_1 x7_1 x8_3 2 24) = some (r1, r2, r3) := by rw [if_pos rfl] at H; exact H
                                    clear H
                                    have H := H1
                                    clear H1
                                    have H' := Aside0.mk H
                                    clear H
                                    obtain ⟨i047, hi047, _, hsz47, _⟩ := info_parts info5
                                    obtain ⟨A47, hcut47, hA47, hC47⟩ := print_mid_of (P := Try.prog) (Value.int .u8) 0 22 5 .i64 .i64 Try.underlying22 hi047 hsz47 A0 c0 l0 x7_1 x8_3 (of_decide_eq_true (by first | (with_reducible assumption) | assumption)) (by first | omega | exact of_decide_eq_true (by first | (with_reducible assumption) | assumption)) (of_decide_eq_true (by first | (with_reducible assumption) | assumption)) HC0.out
                                    have HR208 := Aside0.mk (Kd.C_of_reads (h1 := fun _ => rfl) (hA47 _ (Kd.reads_of_C HR0.out)))
                                    have HC208 := Aside0.mk hC47
                                    clear hA47 hC47 hi047 hsz47
                                    have hcv48 := Kd.C_string (P := Try.prog) (A := A47) (c := (c0 - x7_1.toNat)) Try.underlying22 Try.underlying5 Try.underlying9 (Kd.C_below HR208.out HB.out)
                                    (try (have hcvs48_ := hcv48; rw [(show ((l0.take (x8_3 : Int).toNat).drop (x7_1 : Int).toNat).length = (x8_3 : Int).toNat - (x7_1 : Int).toNat from by rw [List.length_drop, List.length_take, Nat.min_eq_left (by have h_ : x8_3 ≤ (l0.length : Int) := (by first | (with_reducible assumption) | assumption | omega | exact of_decide_eq_true (by first | (with_reducible assumption) | assumption)); omega)])] at hcvs48_))
                                    (try (have hcvd48_ := fun m_ : Nat => Kd.C_string (P := Try.prog) (A := A47) (c := (c0 - x7_1.toNat)) Try.underlying22 Try.underlying5 Try.underlying9 (Kd.C_below (Kd.C_below HR208.out HB.out) (pw_below_drewN (Below.refl _ _) m_)); rw [(show ((l0.take (x8_3 : Int).toNat).drop (x7_1 : Int).toNat).length = (x8_3 : Int).toNat - (x7_1 : Int).toNat from by rw [List.length_drop, List.length_take, Nat.min_eq_left (by have h_ : x8_3 ≤ (l0.length : Int) := (by first | (with_reducible assumption) | assumption | omega | exact of_decide_eq_true (by first | (with_reducible assumption) | assumption)); omega)])] at hcvd48_))
                                    go_wp2_with (first | ((with_reducible refine gate_callee (f := 14) rfl ?_); refine goesL_ (some 62) rfl rfl Try.func14 (by kernel_rfl) rfl #[.string (strOfNums ((l0.take (x8_3 : Int).toNat).drop (x7_1 : Int).toNat))] rfl (by (try simp only [List.map_toArray, List.map_cons, List.map_nil]); first | done | rfl | (simp only [List.length_drop, List.length_take]; rfl)) ?_; (with_reducible refine (whetstoneref08_IsWord.calls k3 (strOfNums ((l0.take (x8_3 : Int).toNat).drop (x7_1 : Int).toNat)) true _ A45.out).mono ?_); rintro e w49 ⟨rfl, hb⟩; refine ⟨_, rfl, ?_⟩; have n0_ := Aside0.mk (Kd.R_below (by (with_reducible repeat (first | apply Kd.R_alloc | apply Kd.R_drewN | apply Kd.R_drew)); exact HO_5.out) hb); have n1_ := Aside0.mk (Kd.R_below (by (with_reducible repeat (first | apply Kd.R_alloc | apply Kd.R_drewN | apply Kd.R_drew)); exact HO_6.out) hb); have n2_ := Aside0.mk (below_step (by repeat (first | (with_reducible first | exact HB.out | apply below_alloc | apply pw_below_drewN | apply below_drew1) | exact HB.out)) hb); clear HO_5; clear HO_6; clear HB; have HO_5 := n0_; have HO_6 := n1_; have HB := n2_; clear n0_ n1_ n2_; (try clear hb); (try clear hb2); (try clear hk); (try clear hi)))
                                    go_meet
                                    case rel => exact ⟨_, (x8_3), (2), (24), (by first | rfl | (simp; done) | (simp [*]; done)), (by first | rfl | (simp; done) | (simp [*]; done)), (by first | rfl | (simp; done) | (simp [*]; done)), H', ⟨by have := HK1.out; have := HJ8.out; have := HK3.out; first | omega | exact Nat.le_refl _⟩, ⟨by (with_reducible repeat (first | apply Kd.R_alloc | apply Kd.R_drewN | apply Kd.R_drew)); exact HO_5.out⟩, ⟨by (with_reducible repeat (first | apply Kd.R_alloc | apply Kd.R_drewN | apply Kd.R_drew)); exact HO_6.out⟩, ⟨by repeat (first | (with_reducible first | exact HB.out | apply below_alloc | apply pw_below_drewN | apply below_drew1) | exact HB.out)⟩⟩
                                  · replace c46 := Bool.eq_false_iff.mpr c46
                                    subst c46
                                    have H1 : (whetstoneref08_Tokens.j5 k3 l0 t192 x6_1 x7_1 x8_3 1 24) = some (r1, r2, r3) := by rw [if_neg (show ¬ (false = true) by decide)] at H; exact H
                                    clear H
                                    have H := H1
                                    clear H1
                                    have H' := Aside0.mk H
                                    clear H
                                    obtain ⟨i050, hi050, _, hsz50, _⟩ := info_parts info5
                                    obtain ⟨A50, hcut50, hA50, hC50⟩ := print_mid_of (P := Try.prog) (Value.int .u8) 0 22 5 .i64 .i64 Try.underlying22 hi050 hsz50 A0 c0 l0 x7_1 x8_3 (of_decide_eq_true (by first | (with_reducible assumption) | assumption)) (by first | omega | exact of_decide_eq_true (by first | (with_reducible assumption) | assumption)) (of_decide_eq_true (by first | (with_reducible assumption) | assumption)) HC0.out
                                    have HR208 := Aside0.mk (Kd.C_of_reads (h1 := fun _ => rfl) (hA50 _ (Kd.reads_of_C HR0.out)))
                                    have HC208 := Aside0.mk hC50
                                    clear hA50 hC50 hi050 hsz50
                                    have hcv51 := Kd.C_string (P := Try.prog) (A := A50) (c := (c0 - x7_1.toNat)) Try.underlying22 Try.underlying5 Try.underlying9 (Kd.C_below HR208.out HB.out)
                                    (try (have hcvs51_ := hcv51; rw [(show ((l0.take (x8_3 : Int).toNat).drop (x7_1 : Int).toNat).length = (x8_3 : Int).toNat - (x7_1 : Int).toNat from by rw [List.length_drop, List.length_take, Nat.min_eq_left (by have h_ : x8_3 ≤ (l0.length : Int) := (by first | (with_reducible assumption) | assumption | omega | exact of_decide_eq_true (by first | (with_reducible assumption) | assumption)); omega)])] at hcvs51_))
                                    (try (have hcvd51_ := fun m_ : Nat => Kd.C_string (P := Try.prog) (A := A50) (c := (c0 - x7_1.toNat)) Try.underlying22 Try.underlying5 Try.underlying9 (Kd.C_below (Kd.C_below HR208.out HB.out) (pw_below_drewN (Below.refl _ _) m_)); rw [(show ((l0.take (x8_3 : Int).toNat).drop (x7_1 : Int).toNat).length = (x8_3 : Int).toNat - (x7_1 : Int).toNat from by rw [List.length_drop, List.length_take, Nat.min_eq_left (by have h_ : x8_3 ≤ (l0.length : Int) := (by first | (with_reducible assumption) | assumption | omega | exact of_decide_eq_true (by first | (with_reducible assumption) | assumption)); omega)])] at hcvd51_))
                                    go_wp2_with (first | ((with_reducible refine gate_callee (f := 14) rfl ?_); refine goesL_ (some 62) rfl rfl Try.func14 (by kernel_rfl) rfl #[.string (strOfNums ((l0.take (x8_3 : Int).toNat).drop (x7_1 : Int).toNat))] rfl (by (try simp only [List.map_toArray, List.map_cons, List.map_nil]); first | done | rfl | (simp only [List.length_drop, List.length_take]; rfl)) ?_; (with_reducible refine (whetstoneref08_IsWord.calls k3 (strOfNums ((l0.take (x8_3 : Int).toNat).drop (x7_1 : Int).toNat)) false _ A45.out).mono ?_); rintro e w52 ⟨rfl, hb⟩; refine ⟨_, rfl, ?_⟩; have n0_ := Aside0.mk (Kd.R_below (by (with_reducible repeat (first | apply Kd.R_alloc | apply Kd.R_drewN | apply Kd.R_drew)); exact HO_5.out) hb); have n1_ := Aside0.mk (Kd.R_below (by (with_reducible repeat (first | apply Kd.R_alloc | apply Kd.R_drewN | apply Kd.R_drew)); exact HO_6.out) hb); have n2_ := Aside0.mk (below_step (by repeat (first | (with_reducible first | exact HB.out | apply below_alloc | apply pw_below_drewN | apply below_drew1) | exact HB.out)) hb); clear HO_5; clear HO_6; clear HB; have HO_5 := n0_; have HO_6 := n1_; have HB := n2_; clear n0_ n1_ n2_; (try clear hb); (try clear hb2); (try clear hk); (try clear hi)))
                                    go_meet
                                    case rel => exact ⟨_, (x8_3), (1), (24), (by first | rfl | (simp; done) | (simp [*]; done)), (by first | rfl | (simp; done) | (simp [*]; done)), (by first | rfl | (simp; done) | (simp [*]; done)), H', ⟨by have := HK1.out; have := HJ8.out; have := HK3.out; first | omega | exact Nat.le_refl _⟩, ⟨by (with_reducible repeat (first | apply Kd.R_alloc | apply Kd.R_drewN | apply Kd.R_drew)); exact HO_5.out⟩, ⟨by (with_reducible repeat (first | apply Kd.R_alloc | apply Kd.R_drewN | apply Kd.R_drew)); exact HO_6.out⟩, ⟨by repeat (first | (with_reducible first | exact HB.out | apply below_alloc | apply pw_below_drewN | apply below_drew1) | exact HB.out)⟩⟩
                                · rw [if_neg c44] at H
                                  exact absurd H (by simp)
                              · rw [if_neg c43] at H
                                exact absurd H (by simp)
                            · rw [if_neg c42] at H
                              exact absurd H (by simp)
                    · replace c13 := Bool.eq_false_iff.mpr c13
                      subst c13
                      have H1 : (if 0 ≤ x7_1 then (if x7_1 < (l0.length : Int) then (if (rd l0 x7_1) ≥ 48 then (whetstoneref08_Tokens.j3 kj8 l0 t192 x6_1 x7_1 x7_1 4 2 (decide ((rd l0 x7_1) ≤ 57))) else (whetstoneref08_Tokens.j3 kj8 l0 t192 x6_1 x7_1 x7_1 4 2 false)) else (none)) else (none)) = some (r1, r2, r3) := by rw [if_neg (show ¬ (false = true) by decide)] at H; exact H
                      clear H
                      have H := H1
                      clear H1
                      have HC53 := Aside0.mk H
                      clear H
                      go_upto_region 17 with (fail)
                      go_cut [74] from 1 to 0 (fun v74 wc => ∃ (kq : Nat) (x74_52 : Bool), v74 = .bool x74_52 ∧ Aside0 (whetstoneref08_Tokens.j3 kq l0 t192 x6_1 x7_1 x7_1 4 2 x74_52 = some (r1, r2, r3)) ∧ Aside0 (kq ≤ kj8) ∧ Aside0 (Kd.R (Kd.int .i64) 3 wc w.heap.size (fun _ => True) (.slice (some ad198) t192.length co10) t192) ∧ Aside0 (Kd.R k36 36 wc w.heap.size (fun _ => True) u6 x6_1) ∧ Aside0 (Below w.heap.size w wc))
                      case first =>
                        have H := HC53.out
                        clear HC53
                        by_cases c54 : 0 ≤ x7_1
                        · rw [if_pos c54] at H
                          have c54b0 : decide (0 ≤ x7_1) = true := decide_eq_true c54
                          clear c54
                          (first | rw [c54b0] | (simp only [i64_w, i32_w]; rw [c54b0]) | skip)
                          by_cases c55 : x7_1 < (l0.length : Int)
                          · rw [if_pos c55] at H
                            have c55b0 : decide (x7_1 < (l0.length : Int)) = true := decide_eq_true c55
                            clear c55
                            by_cases c56 : (rd l0 x7_1) ≥ 48
                            · rw [if_pos c56] at H
                              have c56b0 : decide (48 ≤ (rd l0 x7_1)) = true := decide_eq_true c56
                              clear c56
                              have H' := Aside0.mk H
                              clear H
                              have p210 : 0 ≤ (x7_1 : Int) := of_decide_eq_true (by first | (with_reducible assumption) | assumption)
                              have q210 : x7_1 < (l0.length : Int) := of_decide_eq_true (by first | (with_reducible assumption) | assumption)
                              obtain ⟨ad210, e210, hx210_0⟩ := Kd.at_int HR0.out x7_1 p210 q210
                              cases e210
                              replace hx210_0 := (HB.out.cell (World.block_lt_of_cell? w _ hx210_0)).trans hx210_0
                              replace p210 := eq_true p210
                              replace q210 := eq_true q210
                              have p211 : 0 ≤ (x7_1 : Int) := of_decide_eq_true (by first | (with_reducible assumption) | assumption)
                              have q211 : x7_1 < (l0.length : Int) := of_decide_eq_true (by first | (with_reducible assumption) | assumption)
                              obtain ⟨ad211, e211, hx211_0⟩ := Kd.at_int HR0.out x7_1 p211 q211
                              obtain rfl : ad210 = ad211 := (by injection e211)
                              replace hx211_0 := (HB.out.cell (World.block_lt_of_cell? w _ hx211_0)).trans hx211_0
                              replace p211 := eq_true p211
                              replace q211 := eq_true q211
                              go_wp2
                              go_meet
                              case rel => exact ⟨_, (decide ((rd l0 x7_1) ≤ 57)), (by first | rfl | (simp; done) | (simp [*]; done)), H', ⟨by have := HK1.out; have := HJ8.out; first | omega | exact Nat.le_refl _⟩, ⟨by (with_reducible repeat (first | apply Kd.R_alloc | apply Kd.R_drewN | apply Kd.R_drew)); exact HO_5.out⟩, ⟨by (with_reducible repeat (first | apply Kd.R_alloc | apply Kd.R_drewN | apply Kd.R_drew)); exact HO_6.out⟩, ⟨by repeat (first | (with_reducible first | exact HB.out | apply below_alloc | apply pw_below_drewN | apply below_drew1) | exact HB.out)⟩⟩
                            · rw [if_neg c56] at H
                              have c56b0 : decide (48 ≤ (rd l0 x7_1)) = false := decide_eq_false c56
                              clear c56
                              have H' := Aside0.mk H
                              clear H
                              have p210 : 0 ≤ (x7_1 : Int) := of_decide_eq_true (by first | (with_reducible assumption) | assumption)
                              have q210 : x7_1 < (l0.length : Int) := of_decide_eq_true (by first | (with_reducible assumption) | assumption)
                              obtain ⟨ad210, e210, hx210_0⟩ := Kd.at_int HR0.out x7_1 p210 q210
                              cases e210
                              replace hx210_0 := (HB.out.cell (World.block_lt_of_cell? w _ hx210_0)).trans hx210_0
                              replace p210 := eq_true p210
                              replace q210 := eq_true q210
                              go_wp2
                              go_meet
                              case rel => exact ⟨_, (false), (by first | rfl | (simp; done) | (simp [*]; done)), H', ⟨by have := HK1.out; have := HJ8.out; first | omega | exact Nat.le_refl _⟩, ⟨by (with_reducible repeat (first | apply Kd.R_alloc | apply Kd.R_drewN | apply Kd.R_drew)); exact HO_5.out⟩, ⟨by (with_reducible repeat (first | apply Kd.R_alloc | apply Kd.R_drewN | apply Kd.R_drew)); exact HO_6.out⟩, ⟨by repeat (first | (with_reducible first | exact HB.out | apply below_alloc | apply pw_below_drewN | apply below_drew1) | exact HB.out)⟩⟩
                          · rw [if_neg c55] at H
                            exact absurd H (by simp)
                        · rw [if_neg c54] at H
                          exact absurd H (by simp)
                      case rest =>
                        clear HC53
                        try clear c1
                        try clear p1
                        try clear q1
                        try clear hx1
                        try clear c2
                        try clear p2
                        try clear q2
                        try clear hx2
                        try clear hcv2
                        try clear c3
                        try clear hcv3
                        try clear c4
                        try clear c4b0
                        try clear hcv4
                        try clear c5
                        try clear c5b0
                        try clear hcv5
                        try clear c6
                        try clear c6b0
                        try clear p6
                        try clear c7
                        try clear c7b0
                        try clear c7b1
                        try clear c11
                        try clear c11b0
                        try clear c12
                        try clear c13
                        try clear c14
                        try clear c14b0
                        try clear c15
                        try clear c15b0
                        try clear c16
                        try clear c16b0
                        try clear c17
                        try clear c17b0
                        try clear c17b1
                        try clear c19
                        try clear p19
                        try clear q19
                        try clear hx19
                        try clear c20
                        try clear c20b0
                        try clear c20b1
                        try clear p20
                        try clear q20
                        try clear hx20
                        try clear c21
                        try clear c21b0
                        try clear c21b1
                        try clear p21
                        try clear q21
                        try clear hx21
                        try clear c22
                        try clear c22b0
                        try clear c22b1
                        try clear c24
                        try clear hcv26
                        try clear hcv29
                        try clear c31
                        try clear c31b0
                        try clear c31b1
                        try clear c32
                        try clear c32b0
                        try clear c32b1
                        try clear c33
                        try clear c33b0
                        try clear c33b1
                        try clear c35
                        try clear hcv37
                        try clear hcv40
                        try clear c42
                        try clear c42b0
                        try clear c42b1
                        try clear c43
                        try clear c43b0
                        try clear c43b1
                        try clear c44
                        try clear c44b0
                        try clear c44b1
                        try clear c46
                        try clear hcv48
                        try clear hcv51
                        try clear c54
                        try clear c54b0
                        try clear c55
                        try clear c55b0
                        try clear c56
                        try clear c56b0
                        try clear hx198_0
                        try clear hx199_0
                        try clear hx200_0
                        try clear hx201_0
                        try clear hx202_0
                        try clear hx210_0
                        try clear hx211_0
                        try clear p1
                        try clear p198
                        try clear p199
                        try clear p2
                        try clear p200
                        try clear p201
                        try clear p202
                        try clear p210
                        try clear p211
                        try clear p6
                        try clear q1
                        try clear q198
                        try clear q199
                        try clear q2
                        try clear q200
                        try clear q201
                        try clear q202
                        try clear q210
                        try clear q211
                        obtain ⟨kq, x74_52, rfl, HA, HJ52, HO_5, HO_6, HB⟩ := hcut
                        cases kq with
                        | zero => exact absurd HA.out (by simp [whetstoneref08_Tokens.j3])
                        | succ kj52 =>
                          have H := HA.out
                          clear HA
                          simp only [whetstoneref08_Tokens.j3] at H
                          by_cases c57 : x74_52 = true
                          · subst c57
                            have H1 : (whetstoneref08_Tokens.l2 kj52 l0 t192 x6_1 x7_1 x7_1) = some (r1, r2, r3) := by rw [if_pos rfl] at H; exact H
                            clear H
                            have H := H1
                            clear H1
                            have H' := Aside0.mk H
                            clear H
                            go_wp2
                            go_loopg [8] kj52 (fun kq v8 w' => ∃ (x8_4 : Int), v8 = .int .i64 x8_4 ∧ Aside0 (whetstoneref08_Tokens.l2 kq l0 t192 x6_1 x7_1 x8_4 = some (r1, r2, r3)) ∧ Aside0 (kq ≤ kj52) ∧ Aside0 (Kd.R (Kd.int .i64) 3 w' w.heap.size (fun _ => True) (.slice (some ad198) t192.length co10) t192) ∧ Aside0 (Kd.R k36 36 w' w.heap.size (fun _ => True) u6 x6_1) ∧ Aside0 (Below w.heap.size w w'))
                            case atStart => exact ⟨(x7_1), (by first | rfl | (simp; done) | (simp [*]; done)), H', ⟨Nat.le_refl _⟩, ⟨by (with_reducible repeat (first | apply Kd.R_alloc | apply Kd.R_drewN | apply Kd.R_drew)); exact HO_5.out⟩, ⟨by (with_reducible repeat (first | apply Kd.R_alloc | apply Kd.R_drewN | apply Kd.R_drew)); exact HO_6.out⟩, ⟨by repeat (first | (with_reducible first | exact HB.out | apply below_alloc | apply pw_below_drewN | apply below_drew1) | exact HB.out)⟩⟩
                            case round =>
                              clear H'
                              try clear c1
                              try clear p1
                              try clear q1
                              try clear hx1
                              try clear c2
                              try clear p2
                              try clear q2
                              try clear hx2
                              try clear hcv2
                              try clear c3
                              try clear hcv3
                              try clear c4
                              try clear c4b0
                              try clear hcv4
                              try clear c5
                              try clear c5b0
                              try clear hcv5
                              try clear c6
                              try clear c6b0
                              try clear p6
                              try clear c7
                              try clear c7b0
                              try clear c7b1
                              try clear c11
                              try clear c11b0
                              try clear c12
                              try clear c13
                              try clear c14
                              try clear c14b0
                              try clear c15
                              try clear c15b0
                              try clear c16
                              try clear c16b0
                              try clear c17
                              try clear c17b0
                              try clear c17b1
                              try clear c19
                              try clear p19
                              try clear q19
                              try clear hx19
                              try clear c20
                              try clear c20b0
                              try clear c20b1
                              try clear p20
                              try clear q20
                              try clear hx20
                              try clear c21
                              try clear c21b0
                              try clear c21b1
                              try clear p21
                              try clear q21
                              try clear hx21
                              try clear c22
                              try clear c22b0
                              try clear c22b1
                              try clear c24
                              try clear hcv26
                              try clear hcv29
                              try clear c31
                              try clear c31b0
                              try clear c31b1
                              try clear c32
                              try clear c32b0
                              try clear c32b1
                              try clear c33
                              try clear c33b0
                              try clear c33b1
                              try clear c35
                              try clear hcv37
                              try clear hcv40
                              try clear c42
                              try clear c42b0
                              try clear c42b1
                              try clear c43
                              try clear c43b0
                              try clear c43b1
                              try clear c44
                              try clear c44b0
                              try clear c44b1
                              try clear c46
                              try clear hcv48
                              try clear hcv51
                              try clear c54
                              try clear c54b0
                              try clear c55
                              try clear c55b0
                              try clear c56
                              try clear c56b0
                              try clear c57
                              try clear hx198_0
                              try clear hx199_0
                              try clear hx200_0
                              try clear hx201_0
                              try clear hx202_0
                              try clear hx210_0
                              try clear hx211_0
                              try clear p1
                              try clear p19
                              try clear p198
                              try clear p199
                              try clear p2
                              try clear p20
                              try clear p200
                              try clear p201
                              try clear p202
                              try clear p21
                              try clear p210
                              try clear p211
                              try clear p6
                              try clear q1
                              try clear q19
                              try clear q198
                              try clear q199
                              try clear q2
                              try clear q20
                              try clear q200
                              try clear q201
                              try clear q202
                              try clear q21
                              try clear q210
                              try clear q211
                              obtain ⟨x8_4, rfl, HA, HK4, HO_5, HO_6, HB⟩ := hrel
                              cases gk with
                              | zero => exact absurd HA.out (by simp [whetstoneref08_Tokens.l2])
                              | succ k4 =>
                                have H := HA.out
                                clear HA
                                simp only [whetstoneref08_Tokens.l2] at H
                                by_cases c58 : x8_4 < (l0.length : Int)
                                · rw [if_pos c58] at H
                                  have c58b0 : decide (x8_4 < (l0.length : Int)) = true := decide_eq_true c58
                                  clear c58
                                  by_cases c59 : 0 ≤ x8_4
                                  · rw [if_pos c59] at H
                                    have c59b0 : decide (0 ≤ x8_4) = true := decide_eq_true c59
                                    clear c59
                                    by_cases c60 : x8_4 < (t192.length : Int)
                                    · rw [if_pos c60] at H
                                      have c60b0 : decide (x8_4 < (t192.length : Int)) = true := decide_eq_true c60
                                      clear c60
                                      by_cases c61 : (rd t192 x8_4) = 0
                                      · rw [if_pos c61] at H
                                        have c61b0 : ((rd t192 x8_4) == 0) = true := beq_iff_eq.mpr c61
                                        have c61b1 : ((rd t192 x8_4) != 0) = false := bne_eq_false_iff_eq.mpr c61
                                        clear c61
                                        by_cases c62 : (rd l0 x8_4) ≥ 48
                                        · rw [if_pos c62] at H
                                          have c62b0 : decide (48 ≤ (rd l0 x8_4)) = true := decide_eq_true c62
                                          clear c62
                                          by_cases c63 : (rd l0 x8_4) ≤ 57
                                          · rw [if_pos c63] at H
                                            have c63b0 : decide ((rd l0 x8_4) ≤ 57) = true := decide_eq_true c63
                                            clear c63
                                            have H' := Aside0.mk H
                                            clear H
                                            have p212 : 0 ≤ (x8_4 : Int) := of_decide_eq_true (by first | (with_reducible assumption) | assumption)
                                            have q212 : x8_4 < (t192.length : Int) := of_decide_eq_true (by first | (with_reducible assumption) | assumption)
                                            obtain ⟨ad212, e212, hx212_0⟩ := Kd.at_int (Kd.R_reads' HO_5.out).2.2 x8_4 p212 q212
                                            obtain rfl : ad198 = ad212 := (by injection e212)
                                            replace p212 := eq_true p212
                                            replace q212 := eq_true q212
                                            have p213 : 0 ≤ (x8_4 : Int) := of_decide_eq_true (by first | (with_reducible assumption) | assumption)
                                            have q213 : x8_4 < (l0.length : Int) := of_decide_eq_true (by first | (with_reducible assumption) | assumption)
                                            obtain ⟨ad213, e213, hx213_0⟩ := Kd.at_int HR0.out x8_4 p213 q213
                                            cases e213
                                            replace hx213_0 := (HB.out.cell (World.block_lt_of_cell? w _ hx213_0)).trans hx213_0
                                            replace p213 := eq_true p213
                                            replace q213 := eq_true q213
                                            have p214 : 0 ≤ (x8_4 : Int) := of_decide_eq_true (by first | (with_reducible assumption) | assumption)
                                            have q214 : x8_4 < (l0.length : Int) := of_decide_eq_true (by first | (with_reducible assumption) | assumption)
                                            obtain ⟨ad214, e214, hx214_0⟩ := Kd.at_int HR0.out x8_4 p214 q214
                                            obtain rfl : ad213 = ad214 := (by injection e214)
                                            replace hx214_0 := (HB.out.cell (World.block_lt_of_cell? w _ hx214_0)).trans hx214_0
                                            replace p214 := eq_true p214
                                            replace q214 := eq_true q214
                                            go_wp2
                                            go_roundg k4
                                            case measure => have := HK1.out; have := HJ8.out; have := HJ52.out; have := HK4.out; omega
                                            case rel => exact ⟨(wrap64 (x8_4 + 1)), (by first | rfl | (simp; done) | (simp [*]; done)), H', ⟨by have := HK1.out; have := HJ8.out; have := HJ52.out; have := HK4.out; omega⟩, ⟨by (with_reducible repeat (first | apply Kd.R_alloc | apply Kd.R_drewN | apply Kd.R_drew)); exact HO_5.out⟩, ⟨by (with_reducible repeat (first | apply Kd.R_alloc | apply Kd.R_drewN | apply Kd.R_drew)); exact HO_6.out⟩, ⟨by repeat (first | (with_reducible first | exact HB.out | apply below_alloc | apply pw_below_drewN | apply below_drew1) | exact HB.out)⟩⟩
                                          · rw [if_neg c63] at H
                                            have c63b0 : decide ((rd l0 x8_4) ≤ 57) = false := decide_eq_false c63
                                            clear c63
                                            have H' := Aside0.mk H
                                            clear H
                                            have p212 : 0 ≤ (x8_4 : Int) := of_decide_eq_true (by first | (with_reducible assumption) | assumption)
                                            have q212 : x8_4 < (t192.length : Int) := of_decide_eq_true (by first | (with_reducible assumption) | assumption)
                                            obtain ⟨ad212, e212, hx212_0⟩ := Kd.at_int (Kd.R_reads' HO_5.out).2.2 x8_4 p212 q212
                                            obtain rfl : ad198 = ad212 := (by injection e212)
                                            replace p212 := eq_true p212
                                            replace q212 := eq_true q212
                                            have p213 : 0 ≤ (x8_4 : Int) := of_decide_eq_true (by first | (with_reducible assumption) | assumption)
                                            have q213 : x8_4 < (l0.length : Int) := of_decide_eq_true (by first | (with_reducible assumption) | assumption)
                                            obtain ⟨ad213, e213, hx213_0⟩ := Kd.at_int HR0.out x8_4 p213 q213
                                            cases e213
                                            replace hx213_0 := (HB.out.cell (World.block_lt_of_cell? w _ hx213_0)).trans hx213_0
                                            replace p213 := eq_true p213
                                            replace q213 := eq_true q213
                                            have p214 : 0 ≤ (x8_4 : Int) := of_decide_eq_true (by first | (with_reducible assumption) | assumption)
                                            have q214 : x8_4 < (l0.length : Int) := of_decide_eq_true (by first | (with_reducible assumption) | assumption)
                                            obtain ⟨ad214, e214, hx214_0⟩ := Kd.at_int HR0.out x8_4 p214 q214
                                            obtain rfl : ad213 = ad214 := (by injection e214)
                                            replace hx214_0 := (HB.out.cell (World.block_lt_of_cell? w _ hx214_0)).trans hx214_0
                                            replace p214 := eq_true p214
                                            replace q214 := eq_true q214
                                            go_wp2
                                            go_meet
                                            case rel => exact ⟨_, (x8_4), (3), (40), (by first | rfl | (simp; done) | (simp [*]; done)), (by first | rfl | (simp; done) | (simp [*]; done)), (by first | rfl | (simp; done) | (simp [*]; done)), H', ⟨by have := HK1.out; have := HJ8.out; have := HJ52.out; have := HK4.out; first | omega | exact Nat.le_refl _⟩, ⟨by (with_reducible repeat (first | apply Kd.R_alloc | apply Kd.R_drewN | apply Kd.R_drew)); exact HO_5.out⟩, ⟨by (with_reducible repeat (first | apply Kd.R_alloc | apply Kd.R_drewN | apply Kd.R_drew)); exact HO_6.out⟩, ⟨by repeat (first | (with_reducible first | exact HB.out | apply below_alloc | apply pw_below_drewN | apply below_drew1) | exact HB.out)⟩⟩
                                        · rw [if_neg c62] at H
                                          have c62b0 : decide (48 ≤ (rd l0 x8_4)) = false := decide_eq_false c62
                                          clear c62
                                          have H' := Aside0.mk H
                                          clear H
                                          have p212 : 0 ≤ (x8_4 : Int) := of_decide_eq_true (by first | (with_reducible assumption) | assumption)
                                          have q212 : x8_4 < (t192.length : Int) := of_decide_eq_true (by first | (with_reducible assumption) | assumption)
                                          obtain ⟨ad212, e212, hx212_0⟩ := Kd.at_int (Kd.R_reads' HO_5.out).2.2 x8_4 p212 q212
                                          obtain rfl : ad198 = ad212 := (by injection e212)
                                          replace p212 := eq_true p212
                                          replace q212 := eq_true q212
                                          have p213 : 0 ≤ (x8_4 : Int) := of_decide_eq_true (by first | (with_reducible assumption) | assumption)
                                          have q213 : x8_4 < (l0.length : Int) := of_decide_eq_true (by first | (with_reducible assumption) | assumption)
                                          obtain ⟨ad213, e213, hx213_0⟩ := Kd.at_int HR0.out x8_4 p213 q213
                                          cases e213
                                          replace hx213_0 := (HB.out.cell (World.block_lt_of_cell? w _ hx213_0)).trans hx213_0
                                          replace p213 := eq_true p213
                                          replace q213 := eq_true q213
                                          go_wp2
                                          go_meet
                                          case rel => exact ⟨_, (x8_4), (3), (40), (by first | rfl | (simp; done) | (simp [*]; done)), (by first | rfl | (simp; done) | (simp [*]; done)), (by first | rfl | (simp; done) | (simp [*]; done)), H', ⟨by have := HK1.out; have := HJ8.out; have := HJ52.out; have := HK4.out; first | omega | exact Nat.le_refl _⟩, ⟨by (with_reducible repeat (first | apply Kd.R_alloc | apply Kd.R_drewN | apply Kd.R_drew)); exact HO_5.out⟩, ⟨by (with_reducible repeat (first | apply Kd.R_alloc | apply Kd.R_drewN | apply Kd.R_drew)); exact HO_6.out⟩, ⟨by repeat (first | (with_reducible first | exact HB.out | apply below_alloc | apply pw_below_drewN | apply below_drew1) | exact HB.out)⟩⟩
                                      · rw [if_neg c61] at H
                                        have c61b0 : ((rd t192 x8_4) == 0) = false := beq_eq_false_iff_ne.mpr c61
                                        have c61b1 : ((rd t192 x8_4) != 0) = true := bne_iff_ne.mpr c61
                                        have H' := Aside0.mk H
                                        clear H
                                        have p212 : 0 ≤ (x8_4 : Int) := of_decide_eq_true (by first | (with_reducible assumption) | assumption)
                                        have q212 : x8_4 < (t192.length : Int) := of_decide_eq_true (by first | (with_reducible assumption) | assumption)
                                        obtain ⟨ad212, e212, hx212_0⟩ := Kd.at_int (Kd.R_reads' HO_5.out).2.2 x8_4 p212 q212
                                        obtain rfl : ad198 = ad212 := (by injection e212)
                                        replace p212 := eq_true p212
                                        replace q212 := eq_true q212
                                        go_wp2
                                        go_meet
                                        case rel => exact ⟨_, (x8_4), (3), (40), (by first | rfl | (simp; done) | (simp [*]; done)), (by first | rfl | (simp; done) | (simp [*]; done)), (by first | rfl | (simp; done) | (simp [*]; done)), H', ⟨by have := HK1.out; have := HJ8.out; have := HJ52.out; have := HK4.out; first | omega | exact Nat.le_refl _⟩, ⟨by (with_reducible repeat (first | apply Kd.R_alloc | apply Kd.R_drewN | apply Kd.R_drew)); exact HO_5.out⟩, ⟨by (with_reducible repeat (first | apply Kd.R_alloc | apply Kd.R_drewN | apply Kd.R_drew)); exact HO_6.out⟩, ⟨by repeat (first | (with_reducible first | exact HB.out | apply below_alloc | apply pw_below_drewN | apply below_drew1) | exact HB.out)⟩⟩
                                    · rw [if_neg c60] at H
                                      exact absurd H (by simp)
                                  · rw [if_neg c59] at H
                                    exact absurd H (by simp)
                                · rw [if_neg c58] at H
                                  have c58b0 : decide (x8_4 < (l0.length : Int)) = false := decide_eq_false c58
                                  clear c58
                                  have H' := Aside0.mk H
                                  clear H
                                  go_wp2
                                  go_meet
                                  case rel => exact ⟨_, (x8_4), (3), (40), (by first | rfl | (simp; done) | (simp [*]; done)), (by first | rfl | (simp; done) | (simp [*]; done)), (by first | rfl | (simp; done) | (simp [*]; done)), H', ⟨by have := HK1.out; have := HJ8.out; have := HJ52.out; have := HK4.out; first | omega | exact Nat.le_refl _⟩, ⟨by (with_reducible repeat (first | apply Kd.R_alloc | apply Kd.R_drewN | apply Kd.R_drew)); exact HO_5.out⟩, ⟨by (with_reducible repeat (first | apply Kd.R_alloc | apply Kd.R_drewN | apply Kd.R_drew)); exact HO_6.out⟩, ⟨by repeat (first | (with_reducible first | exact HB.out | apply below_alloc | apply pw_below_drewN | apply below_drew1) | exact HB.out)⟩⟩
                          · replace c57 := Bool.eq_false_iff.mpr c57
                            subst c57
                            have H1 : ((whetstoneref08_size.f kj52 l0 x7_1 t192).bind fun t215 => (whetstoneref08_Tokens.j5 kj52 l0 t192 x6_1 x7_1 (wrap64 (x7_1 + t215)) 4 2)) = some (r1, r2, r3) := by rw [if_neg (show ¬ (false = true) by decide)] at H; exact H
                            clear H
                            have H := H1
                            clear H1
                            replace H := Option.bind_eq_some_iff.mp H
                            obtain ⟨t215, A640, H⟩ := H
                            replace H : (whetstoneref08_Tokens.j5 kj52 l0 t192 x6_1 x7_1 (wrap64 (x7_1 + t215)) 4 2) = some (r1, r2, r3) := H
                            have A64 := Aside0.mk A640
                            clear A640
                            have H' := Aside0.mk H
                            clear H
                            go_wp2_with (first | ((with_reducible refine gate_callee (f := 24) rfl ?_); refine goesL_ (some 106) rfl rfl Try.func24 (by kernel_rfl) rfl #[.slice A0 l0.length c0, .int .i64 x7_1, .slice (some ad198) t192.length co10] rfl (by (try simp only [List.map_toArray, List.map_cons, List.map_nil]); first | done | rfl | (simp only [List.length_drop, List.length_take]; rfl)) ?_; (with_reducible refine (whetstoneref08_size.calls kj52 _ _ l0 x7_1 _ _ t192 t215 _ ?side1 ?side2 ?side3 ?side4 A64.out).mono ?_); (case side1 => repeat (first | exact (Kd.C_below HR0.out HB.out) | (with_reducible refine Kd.C_alloc ?_ _) | (with_reducible refine Kd.C_drewN ?_ _) | (with_reducible refine Kd.C_drew ?_))); (case side2 => exact HC0.out); (case side3 => repeat (first | exact (Kd.R_reads' HO_5.out).2.2 | (with_reducible refine Kd.C_alloc ?_ _) | (with_reducible refine Kd.C_drewN ?_ _) | (with_reducible refine Kd.C_drew ?_))); (case side4 => exact (Kd.R_reads' HO_5.out).2.1); rintro e w65 ⟨rfl, hb⟩; refine ⟨_, rfl, ?_⟩; have n0_ := Aside0.mk (Kd.R_below (by (with_reducible repeat (first | apply Kd.R_alloc | apply Kd.R_drewN | apply Kd.R_drew)); exact HO_5.out) hb); have n1_ := Aside0.mk (Kd.R_below (by (with_reducible repeat (first | apply Kd.R_alloc | apply Kd.R_drewN | apply Kd.R_drew)); exact HO_6.out) hb); have n2_ := Aside0.mk (below_step (by repeat (first | (with_reducible first | exact HB.out | apply below_alloc | apply pw_below_drewN | apply below_drew1) | exact HB.out)) hb); clear HO_5; clear HO_6; clear HB; have HO_5 := n0_; have HO_6 := n1_; have HB := n2_; clear n0_ n1_ n2_; (try clear hb); (try clear hb2); (try clear hk); (try clear hi)))
                            go_meet
                            case rel => exact ⟨_, (wrap64 (x7_1 + t215)), (4), (2), (by first | rfl | (simp; done) | (simp [*]; done)), (by first | rfl | (simp; done) | (simp [*]; done)), (by first | rfl | (simp; done) | (simp [*]; done)), H', ⟨by have := HK1.out; have := HJ8.out; have := HJ52.out; first | omega | exact Nat.le_refl _⟩, ⟨by (with_reducible repeat (first | apply Kd.R_alloc | apply Kd.R_drewN | apply Kd.R_drew)); exact HO_5.out⟩, ⟨by (with_reducible repeat (first | apply Kd.R_alloc | apply Kd.R_drewN | apply Kd.R_drew)); exact HO_6.out⟩, ⟨by repeat (first | (with_reducible first | exact HB.out | apply below_alloc | apply pw_below_drewN | apply below_drew1) | exact HB.out)⟩⟩
                  case rest =>
                    clear HC12
                    try clear c1
                    try clear p1
                    try clear q1
                    try clear hx1
                    try clear c2
                    try clear p2
                    try clear q2
                    try clear hx2
                    try clear hcv2
                    try clear c3
                    try clear hcv3
                    try clear c4
                    try clear c4b0
                    try clear hcv4
                    try clear c5
                    try clear c5b0
                    try clear hcv5
                    try clear c6
                    try clear c6b0
                    try clear p6
                    try clear c7
                    try clear c7b0
                    try clear c7b1
                    try clear c11
                    try clear c11b0
                    try clear c12
                    try clear c13
                    try clear c14
                    try clear c14b0
                    try clear c15
                    try clear c15b0
                    try clear c16
                    try clear c16b0
                    try clear c17
                    try clear c17b0
                    try clear c17b1
                    try clear c19
                    try clear p19
                    try clear q19
                    try clear hx19
                    try clear c20
                    try clear c20b0
                    try clear c20b1
                    try clear p20
                    try clear q20
                    try clear hx20
                    try clear c21
                    try clear c21b0
                    try clear c21b1
                    try clear p21
                    try clear q21
                    try clear hx21
                    try clear c22
                    try clear c22b0
                    try clear c22b1
                    try clear c24
                    try clear hcv26
                    try clear hcv29
                    try clear c31
                    try clear c31b0
                    try clear c31b1
                    try clear c32
                    try clear c32b0
                    try clear c32b1
                    try clear c33
                    try clear c33b0
                    try clear c33b1
                    try clear c35
                    try clear hcv37
                    try clear hcv40
                    try clear c42
                    try clear c42b0
                    try clear c42b1
                    try clear c43
                    try clear c43b0
                    try clear c43b1
                    try clear c44
                    try clear c44b0
                    try clear c44b1
                    try clear c46
                    try clear hcv48
                    try clear hcv51
                    try clear c54
                    try clear c54b0
                    try clear c55
                    try clear c55b0
                    try clear c56
                    try clear c56b0
                    try clear c57
                    try clear c58
                    try clear c58b0
                    try clear c59
                    try clear c59b0
                    try clear c60
                    try clear c60b0
                    try clear c61
                    try clear c61b0
                    try clear c61b1
                    try clear c62
                    try clear c62b0
                    try clear c63
                    try clear c63b0
                    try clear p64
                    try clear hx198_0
                    try clear hx199_0
                    try clear hx200_0
                    try clear hx201_0
                    try clear hx202_0
                    try clear hx210_0
                    try clear hx211_0
                    try clear hx212_0
                    try clear hx213_0
                    try clear hx214_0
                    try clear p1
                    try clear p19
                    try clear p198
                    try clear p199
                    try clear p2
                    try clear p20
                    try clear p200
                    try clear p201
                    try clear p202
                    try clear p21
                    try clear p210
                    try clear p211
                    try clear p212
                    try clear p213
                    try clear p214
                    try clear p6
                    try clear q1
                    try clear q19
                    try clear q198
                    try clear q199
                    try clear q2
                    try clear q20
                    try clear q200
                    try clear q201
                    try clear q202
                    try clear q21
                    try clear q210
                    try clear q211
                    try clear q212
                    try clear q213
                    try clear q214
                    obtain ⟨kq, x8_11, x9_11, x10_11, rfl, rfl, rfl, HA, HJ11, HO_5, HO_6, HB⟩ := hcut
                    cases kq with
                    | zero => exact absurd HA.out (by simp [whetstoneref08_Tokens.j5])
                    | succ kj11 =>
                      have H := HA.out
                      clear HA
                      simp only [whetstoneref08_Tokens.j5] at H
                      by_cases c66 : x8_11 = x7_1
                      · rw [if_pos c66] at H
                        have c66b0 : (x8_11 == x7_1) = true := beq_iff_eq.mpr c66
                        have c66b1 : (x8_11 != x7_1) = false := bne_eq_false_iff_eq.mpr c66
                        clear c66
                        simp only [Option.some.injEq, Prod.mk.injEq] at H
                        obtain ⟨rfl, rfl, rfl⟩ := H
                        go_wp2
                        go_ret3
                        exact ⟨_, by first | rfl | (simp [errW_none, errW_some] <;> rfl) | (simp [*, errW_none, errW_some] <;> rfl), by first | exact Kd.R_nil _ _ _ _ _ | exact Kd.N_nil _ _ _ _ _ | exact Kd.V_nil _ _ _ _ _ | exact Kd.Q_nil _ _ _ _ _ | exact Kd.S_nil _ _ _ _ _, by repeat (first | (with_reducible first | exact HB.out | apply below_alloc | apply pw_below_drewN | apply below_drew1) | exact HB.out)⟩
                      · rw [if_neg c66] at H
                        have c66b0 : (x8_11 == x7_1) = false := beq_eq_false_iff_ne.mpr c66
                        have c66b1 : (x8_11 != x7_1) = true := bne_iff_ne.mpr c66
                        by_cases c67 : (wrap64 (x8_11 - x7_1)) > x10_11
                        · rw [if_pos c67] at H
                          have c67b0 : decide (x10_11 < (wrap64 (x8_11 - x7_1))) = true := decide_eq_true c67
                          clear c67
                          simp only [Option.some.injEq, Prod.mk.injEq] at H
                          obtain ⟨rfl, rfl, rfl⟩ := H
                          go_wp2
                          go_ret3
                          exact ⟨_, by first | rfl | (simp [errW_none, errW_some] <;> rfl) | (simp [*, errW_none, errW_some] <;> rfl), by first | exact Kd.R_nil _ _ _ _ _ | exact Kd.N_nil _ _ _ _ _ | exact Kd.V_nil _ _ _ _ _ | exact Kd.Q_nil _ _ _ _ _ | exact Kd.S_nil _ _ _ _ _, by repeat (first | (with_reducible first | exact HB.out | apply below_alloc | apply pw_below_drewN | apply below_drew1) | exact HB.out)⟩
                        · rw [if_neg c67] at H
                          have c67b0 : decide (x10_11 < (wrap64 (x8_11 - x7_1))) = false := decide_eq_false c67
                          clear c67
                          by_cases c68 : 0 ≤ x7_1
                          · rw [if_pos c68] at H
                            have c68b0 := eq_true c68
                            have c68b1 : decide (0 ≤ x7_1) = true := decide_eq_true c68
                            clear c68
                            by_cases c69 : x7_1 ≤ x8_11
                            · rw [if_pos c69] at H
                              have c69b0 := eq_true c69
                              have c69b1 : decide (x7_1 ≤ x8_11) = true := decide_eq_true c69
                              clear c69
                              by_cases c70 : x8_11 ≤ (l0.length : Int)
                              · rw [if_pos c70] at H
                                have c70b0 := eq_true c70
                                have c70b1 : decide (x8_11 ≤ (l0.length : Int)) = true := decide_eq_true c70
                                clear c70
                                by_cases c71 : x6_1.length < 3518437208883
                                · rw [if_pos c71] at H
                                  have LMc71 := Aside0.mk c71
                                  clear c71
                                  obtain ⟨y217, hy217⟩ : ∃ y_ : List (S36), y_ = (x6_1 ++ [(⟨x9_11, strOfNums ((l0.take (x8_11 : Int).toNat).drop (x7_1 : Int).toNat), x7_1, x8_11⟩ : S36)]) := ⟨_, rfl⟩
                                  replace H : (whetstoneref08_Tokens.l0 kj11 l0 t192 y217 x8_11) = some (r1, r2, r3) := by first | (rw [hy217]; with_reducible exact H) | (have H2_ := (Option.bind_some _ _).symm.trans H; rw [hy217]; with_reducible exact H2_) | (have H2_ := (Option.bind_some _ _).symm.trans H; with_reducible exact H2_) | with_reducible exact H | (rw [hy217]; exact H) | exact H
                                  have Ny217 := Aside0.mk hy217
                                  clear hy217
                                  have H' := Aside0.mk H
                                  clear H
                                  obtain ⟨i072, hi072, _, hsz72, _⟩ := info_parts info5
                                  obtain ⟨A72, hcut72, hA72, hC72⟩ := print_mid_of (P := Try.prog) (Value.int .u8) 0 22 5 .i64 .i64 Try.underlying22 hi072 hsz72 A0 c0 l0 x7_1 x8_11 (of_decide_eq_true (by first | (with_reducible assumption) | assumption)) (by first | omega | exact of_decide_eq_true (by first | (with_reducible assumption) | assumption)) (of_decide_eq_true (by first | (with_reducible assumption) | assumption)) HC0.out
                                  have HR216 := Aside0.mk (Kd.C_of_reads (h1 := fun _ => rfl) (hA72 _ (Kd.reads_of_C HR0.out)))
                                  have HC216 := Aside0.mk hC72
                                  clear hA72 hC72 hi072 hsz72
                                  have hcv73 := Kd.C_string (P := Try.prog) (A := A72) (c := (c0 - x7_1.toNat)) Try.underlying22 Try.underlying5 Try.underlying9 (Kd.C_below HR216.out HB.out)
                                  (try (have hcvs73_ := hcv73; rw [(show ((l0.take (x8_11 : Int).toNat).drop (x7_1 : Int).toNat).length = (x8_11 : Int).toNat - (x7_1 : Int).toNat from by rw [List.length_drop, List.length_take, Nat.min_eq_left (by have h_ : x8_11 ≤ (l0.length : Int) := (by first | (with_reducible assumption) | assumption | omega | exact of_decide_eq_true (by first | (with_reducible assumption) | assumption)); omega)])] at hcvs73_))
                                  (try (have hcvd73_ := fun m_ : Nat => Kd.C_string (P := Try.prog) (A := A72) (c := (c0 - x7_1.toNat)) Try.underlying22 Try.underlying5 Try.underlying9 (Kd.C_below (Kd.C_below HR216.out HB.out) (pw_below_drewN (Below.refl _ _) m_)); rw [(show ((l0.take (x8_11 : Int).toNat).drop (x7_1 : Int).toNat).length = (x8_11 : Int).toNat - (x7_1 : Int).toNat from by rw [List.length_drop, List.length_take, Nat.min_eq_left (by have h_ : x8_11 ≤ (l0.length : Int) := (by first | (with_reducible assumption) | assumption | omega | exact of_decide_eq_true (by first | (with_reducible assumption) | assumption)); omega)])] at hcvd73_))
                                  go_wp2_with (first | ((with_reducible refine gate_builtin (b := .append) (xs := #[.tmp 118, .tmp 128]) rfl ?_); at_builtin; refine Kd.R_append k36 (w0 := w) w.heap.size rfl (.tmp 118) (.tmp 128) 28 36 (.agg #[(.int .i64 0), (.string ⟨#[]⟩), (.int .i64 0), (.int .i64 0)]) 40 rfl Try.underlying28 info36 rfl (by decide) (by omega) u6 x6_1 (⟨x9_11, strOfNums ((l0.take (x8_11 : Int).toNat).drop (x7_1 : Int).toNat), x7_1, x8_11⟩ : S36) [.int .i64 x9_11, .string (strOfNums ((l0.take (x8_11 : Int).toNat).drop (x7_1 : Int).toNat)), .int .i64 x7_1, .int .i64 x8_11] (fun _ => True) (fun _ => False) rfl rfl ?aP (fun _ hk => hk.elim) ?aF ?aO ?aB ?aS ?aL ?_; (case aP => exact k36_mkM _ _ _ (⟨x9_11, strOfNums ((l0.take (x8_11 : Int).toNat).drop (x7_1 : Int).toNat), x7_1, x8_11⟩ : S36)); (case aB => exact (by repeat (first | (with_reducible first | exact HB.out | apply below_alloc | apply pw_below_drewN | apply below_drew1) | exact HB.out))); (case aF => exact (fun _ _ => trivial)); (case aO => exact (by (with_reducible repeat (first | apply Kd.R_alloc | apply Kd.R_drewN | apply Kd.R_drew)); exact HO_6.out)); (case aS => exact (below_size (by repeat (first | (with_reducible first | exact HB.out | apply below_alloc | apply pw_below_drewN | apply below_drew1) | exact HB.out)))); (case aL => have := LMc71.out; omega); intro v218 w74 ho hb hg hat; rw [← Ny217.out] at ho; have n0_ := Aside0.mk (Kd.R_over' (by (with_reducible repeat (first | apply Kd.R_alloc | apply Kd.R_drewN | apply Kd.R_drew)); exact HO_5.out) (Kd.R_typed (by (with_reducible repeat (first | apply Kd.R_alloc | apply Kd.R_drewN | apply Kd.R_drew)); exact HO_6.out)) (by decide) hg); have n1_ := Aside0.mk (hb); have n2_ := Aside0.mk (ho); clear HO_5; clear HB; clear HO_6; have HO_5 := n0_; have HB := n1_; have HO219 := n2_; clear n0_ n1_ n2_; clear ho hb hg hat))
                                  go_roundg kj11
                                  case measure => have := HK1.out; have := HJ8.out; have := HJ11.out; omega
                                  case rel => exact ⟨(y217), (x8_11), (by first | rfl | (simp; done) | (simp [*]; done)), H', ⟨by have := HK1.out; have := HJ8.out; have := HJ11.out; omega⟩, ⟨by (with_reducible repeat (first | apply Kd.R_alloc | apply Kd.R_drewN | apply Kd.R_drew)); exact HO_5.out⟩, ⟨by (with_reducible repeat (first | apply Kd.R_alloc | apply Kd.R_drewN | apply Kd.R_drew)); exact HO219.out⟩, ⟨by repeat (first | (with_reducible first | exact HB.out | apply below_alloc | apply pw_below_drewN | apply below_drew1) | exact HB.out)⟩⟩
                                · rw [if_neg c71] at H
                                  exact absurd H (by simp)
                              · rw [if_neg c70] at H
                                exact absurd H (by simp)
                            · rw [if_neg c69] at H
                              exact absurd H (by simp)
                          · rw [if_neg c68] at H
                            exact absurd H (by simp)
          · rw [if_neg c6] at H
            exact absurd H (by simp)
        · rw [if_neg c5] at H
          exact absurd H (by simp)
      · rw [if_neg c4] at H
        have c4b0 : decide (x7_1 < (l0.length : Int)) = false := decide_eq_false c4
        clear c4
        by_cases c75 : x6_1.length < 3518437208883
        · rw [if_pos c75] at H
          have LMc75 := Aside0.mk c75
          clear c75
          obtain ⟨y195, hy195⟩ : ∃ y_ : List (S36), y_ = (x6_1 ++ [(⟨0, (⟨#[]⟩ : ByteArray), (l0.length : Int), (l0.length : Int)⟩ : S36)]) := ⟨_, rfl⟩
          replace H : (some (y195, 0, 0)) = some (r1, r2, r3) := by first | (rw [hy195]; with_reducible exact H) | (have H2_ := (Option.bind_some _ _).symm.trans H; rw [hy195]; with_reducible exact H2_) | (have H2_ := (Option.bind_some _ _).symm.trans H; with_reducible exact H2_) | with_reducible exact H | (rw [hy195]; exact H) | exact H
          have Ny195 := Aside0.mk hy195
          clear hy195
          simp only [Option.some.injEq, Prod.mk.injEq] at H
          obtain ⟨rfl, rfl, rfl⟩ := H
          go_wp2_with (first | ((with_reducible refine gate_builtin (b := .append) (xs := #[.tmp 131, .tmp 137]) rfl ?_); at_builtin; refine Kd.R_append k36 (w0 := w) w.heap.size rfl (.tmp 131) (.tmp 137) 28 36 (.agg #[(.int .i64 0), (.string ⟨#[]⟩), (.int .i64 0), (.int .i64 0)]) 40 rfl Try.underlying28 info36 rfl (by decide) (by omega) u6 x6_1 (⟨0, (⟨#[]⟩ : ByteArray), (l0.length : Int), (l0.length : Int)⟩ : S36) [.int .i64 0, .string (⟨#[]⟩ : ByteArray), .int .i64 (l0.length : Int), .int .i64 (l0.length : Int)] (fun _ => True) (fun _ => False) rfl rfl ?aP (fun _ hk => hk.elim) ?aF ?aO ?aB ?aS ?aL ?_; (case aP => exact k36_mkM _ _ _ (⟨0, (⟨#[]⟩ : ByteArray), (l0.length : Int), (l0.length : Int)⟩ : S36)); (case aB => exact (by repeat (first | (with_reducible first | exact HB.out | apply below_alloc | apply pw_below_drewN | apply below_drew1) | exact HB.out))); (case aF => exact (fun _ _ => trivial)); (case aO => exact (by (with_reducible repeat (first | apply Kd.R_alloc | apply Kd.R_drewN | apply Kd.R_drew)); exact HO_6.out)); (case aS => exact (below_size (by repeat (first | (with_reducible first | exact HB.out | apply below_alloc | apply pw_below_drewN | apply below_drew1) | exact HB.out)))); (case aL => have := LMc75.out; omega); intro v196 w76 ho hb hg hat; rw [← Ny195.out] at ho; have n0_ := Aside0.mk (Kd.R_over' (by (with_reducible repeat (first | apply Kd.R_alloc | apply Kd.R_drewN | apply Kd.R_drew)); exact HO_5.out) (Kd.R_typed (by (with_reducible repeat (first | apply Kd.R_alloc | apply Kd.R_drewN | apply Kd.R_drew)); exact HO_6.out)) (by decide) hg); have n1_ := Aside0.mk (hb); have n2_ := Aside0.mk (ho); clear HO_5; clear HB; clear HO_6; have HO_5 := n0_; have HB := n1_; have HO197 := n2_; clear n0_ n1_ n2_; clear ho hb hg hat))
          go_ret3
          exact ⟨_, by first | rfl | (simp [errW_none, errW_some] <;> rfl) | (simp [*, errW_none, errW_some] <;> rfl), by (with_reducible repeat (first | apply Kd.R_alloc | apply Kd.R_drewN | apply Kd.R_drew)); exact HO197.out, by repeat (first | (with_reducible first | exact HB.out | apply below_alloc | apply pw_below_drewN | apply below_drew1) | exact HB.out)⟩
        · rw [if_neg c75] at H
          exact absurd H (by simp)

end Go.Proofs.Ytkngkfjjgkfcnaa.QLexTokens
