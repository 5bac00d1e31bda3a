-- written by wip/wprint, a program of this session
import Derived.Test.YtjpnaapimnoamaaQBigTextsx0
import Derived.Test.YtjpnaapimnoamaaQBigTextsx6
namespace Go.Proofs.Ytjpnaapimnoamaa.QBigTexts
open Go.RowKit Go.Proofs.YtjpnaapimnoamaaW.PrintWords Go.Proofs.YtjpnaapimnoamaaW.PrintLast Go.Proofs.YtjpnaapimnoamaaW.PrintMore
open Go.Proofs.YtjpnaapimnoamaaW.PrintWords.Kd renaming R_alloc → qa, R_drewN → qn, R_drew → qd
open Go.Proofs.YtjpnaapimnoamaaW.PrintWords renaming below_alloc → ba, pw_below_drewN → bn, below_drew1 → bd
attribute [local go_sem] max2_int min2_int max_two min_two max_three min_three max_four min_four   -- for this text's walks alone
set_option linter.unusedVariables false
set_option linter.unusedSimpArgs false

/-! ### whetstoneref01_Parse: function 53 -/
mutual
def whetstoneref01_Parse.j0 : Nat → ByteArray → Bool → Option (List Int × Int)
 | 0, _, _ => none
 | k + 1, x0, x18 => if x18 = true then (some (([] : List Int), 6)) else (whetstoneref01_Parse.l0 k x0 ([] : List Int) (wrap64 ((x0.size : Int) - 1)))
def whetstoneref01_Parse.l0 : Nat → ByteArray → List Int → Int → Option (List Int × Int)
 | 0, _, _, _ => none
 | k + 1, x0, x4, x5 => if x5 ≥ 0 then (if 0 ≤ x5 then (if x5 < (x0.size : Int) then (if (bt x0 x5) < 48 then (some (([] : List Int), 6)) else (if (bt x0 x5) > 57 then (some (([] : List Int), 6)) else (if x4.length < 17592186044416 then (whetstoneref01_Parse.l0 k x0 (x4 ++ [((bt x0 x5) - 48) % 256]) (wrap64 (x5 - 1))) else (none)))) else (none)) else (none)) else ((whetstoneref01_Trim.f k x4).bind fun t612 => (some (t612, 0)))
end
def whetstoneref01_Parse.f (k : Nat) (a0 : ByteArray) : Option (List Int × Int) := if (a0.size : Int) = 0 then (whetstoneref01_Parse.j0 k a0 true) else (if (a0.size : Int) > 1 then (if 0 < (a0.size : Int) then (whetstoneref01_Parse.j0 k a0 ((bt a0 0) == 48)) else (none)) else (whetstoneref01_Parse.j0 k a0 false))
theorem whetstoneref01_Parse.mono_l : ∀ k, (∀ y0 y1, LeO (whetstoneref01_Parse.j0 k y0 y1) (whetstoneref01_Parse.j0 (k + 1) y0 y1)) ∧ (∀ y0 y1 y2, LeO (whetstoneref01_Parse.l0 k y0 y1 y2) (whetstoneref01_Parse.l0 (k + 1) y0 y1 y2))
 | 0 => ⟨fun _ _ r h => by simp [whetstoneref01_Parse.j0] at h, fun _ _ _ r h => by simp [whetstoneref01_Parse.l0] at h⟩
 | k + 1 => by
  obtain ⟨ih0, ih1⟩ := whetstoneref01_Parse.mono_l k
  refine ⟨?_, ?_⟩
  ·intro y0 y1
   unfold whetstoneref01_Parse.j0
   repeat' with_reducible first | exact ih0 _ _ | exact ih1 _ _ _ | exact whetstoneref01_Trim.mono _ _ | exact LeO.refl _ | exact LeO.none _ | refine LeO.ite ?_ ?_ | refine LeO.bind ?_ (fun _ => ?_)
  ·intro y0 y1 y2
   unfold whetstoneref01_Parse.l0
   repeat' with_reducible first | exact ih0 _ _ | exact ih1 _ _ _ | exact whetstoneref01_Trim.mono _ _ | exact LeO.refl _ | exact LeO.none _ | refine LeO.ite ?_ ?_ | refine LeO.bind ?_ (fun _ => ?_)
theorem whetstoneref01_Parse.mono : ∀ a0 k, LeO (whetstoneref01_Parse.f k a0) (whetstoneref01_Parse.f (k + 1) a0) := by
 intro a0 k
 obtain ⟨ih0, ih1⟩ := whetstoneref01_Parse.mono_l k
 unfold whetstoneref01_Parse.f
 repeat' with_reducible first | exact ih0 _ _ | exact ih1 _ _ _ | exact whetstoneref01_Trim.mono _ _ | exact LeO.refl _ | exact LeO.none _ | refine LeO.ite ?_ ?_ | refine LeO.bind ?_ (fun _ => ?_)
set_option maxHeartbeats 8000000 in
set_option maxRecDepth 100000 in
theorem whetstoneref01_Parse.calls (k : Nat) (a0 : ByteArray) (r1 : List Int) (r2 : Int) (w : World) (h : whetstoneref01_Parse.f k a0 = some (r1, r2)) :
  Calls Try.prog 53 #[.string a0] w fun e w' => ∃ v0_ : Value, e = .returned (.tuple #[v0_, .int .i64 r2]) ∧ Kd.R (Kd.int .i64) 3 w' w.heap.size (fun _ => True) v0_ r1 ∧ Below w.heap.size w w' := by
 have HB := Aside0.mk (Below.refl w.heap.size w)
 have H : (if (a0.size : Int) = 0 then (whetstoneref01_Parse.j0 k a0 true) else (if (a0.size : Int) > 1 then (if 0 < (a0.size : Int) then (whetstoneref01_Parse.j0 k a0 ((bt a0 0) == 48)) else (none)) else (whetstoneref01_Parse.j0 k a0 false))) = some (r1, r2) := h
 clear h
 have HC2 := Aside0.mk H
 clear H
 go_enter Try.func53, Try.ntmps53
 go_upto_region 1 with (fail)
 go_cut [18] from 1 to 0 (fun v18 wc => ∃ (kq : Nat) (x18_1 : Bool), v18 = .bool x18_1 ∧ Aside0 (whetstoneref01_Parse.j0 kq a0 x18_1 = some (r1, r2)) ∧ Aside0 (kq ≤ k) ∧ Aside0 (Below w.heap.size w wc))
 case first =>
  have H := HC2.out
  clear HC2
  by_cases c3 : (a0.size : Int) = 0
  ·rw [if_pos c3] at H
   have c3b0 : ((a0.size : Int) == 0) = true := beq_iff_eq.mpr c3
   have c3b1 : ((a0.size : Int) != 0) = false := bne_eq_false_iff_eq.mpr c3
   clear c3
   (first | rw [c3b0] | rw [c3b1] | (simp only [i64_w, i32_w]; rw [c3b0]) | skip)
   have H' := Aside0.mk H
   clear H
   go_wp2
   go_meet
   case rel => exact ⟨_, (true), (by first | rfl | (simp; done) | (simp [*]; done)), H', ⟨by first | omega | exact Nat.le_refl _⟩, ⟨tb HB⟩⟩
  ·rw [if_neg c3] at H
   have c3b0 : ((a0.size : Int) == 0) = false := beq_eq_false_iff_ne.mpr c3
   have c3b1 : ((a0.size : Int) != 0) = true := bne_iff_ne.mpr c3
   (first | rw [c3b0] | rw [c3b1] | (simp only [i64_w, i32_w]; rw [c3b0]) | skip)
   by_cases c4 : (a0.size : Int) > 1
   ·rw [if_pos c4] at H
    have c4b0 : decide (1 < (a0.size : Int)) = true := decide_eq_true c4
    have c4b1 : decide (1 < a0.size) = true := decide_eq_true (by omega)
    clear c4
    by_cases c5 : 0 < (a0.size : Int)
    ·rw [if_pos c5] at H
     have c5b0 : decide (0 < (a0.size : Int)) = true := decide_eq_true c5
     have c5b1 : decide (0 < a0.size) = true := decide_eq_true (by omega)
     clear c5
     have H' := Aside0.mk H
     clear H
     have p6 : 0 ≤ (0 : Int) := (by omega)
     have q6 : 0 < a0.size := (by have : (0 : Int) < (a0.size : Int) := td; omega)
     have hx6 : ∀ h : 0 < a0.size, ((a0[0]'h).toNat : Int) = bt a0 0 := bt_at a0 0
     clear p6
     have qi6 : (0 < (a0.size : Int)) = True := eq_true (td)
     replace q6 := eq_true q6
     go_wp2
     go_meet
     case rel => exact ⟨_, (((bt a0 0) == 48)), (by first | rfl | (simp; done) | (simp [*]; done)), H', ⟨by first | omega | exact Nat.le_refl _⟩, ⟨tb HB⟩⟩
    ·rw [if_neg c5] at H
     exact absurd H (by simp)
   ·rw [if_neg c4] at H
    have c4b0 : decide (1 < (a0.size : Int)) = false := decide_eq_false c4
    have c4b1 : decide (1 < a0.size) = false := decide_eq_false (by omega)
    clear c4
    have H' := Aside0.mk H
    clear H
    go_wp2
    go_meet
    case rel => exact ⟨_, (false), (by first | rfl | (simp; done) | (simp [*]; done)), H', ⟨by first | omega | exact Nat.le_refl _⟩, ⟨tb HB⟩⟩
 case rest =>
  clear HC2
  (try clear p2); (try clear c3); (try clear c3b0); (try clear c3b1); (try clear c4); (try clear c4b0); (try clear c4b1); (try clear c5); (try clear c5b0); (try clear c5b1); (try clear p6); (try clear q6); (try clear hx6); (try clear qi6); (try clear p6); (try clear q6)
  obtain ⟨kq, x18_1, rfl, HA, HJ1, HB⟩ := hcut
  cases kq with
  | zero => exact absurd HA.out (by simp [whetstoneref01_Parse.j0])
  | succ kj1 =>
   have H := HA.out
   clear HA
   simp only [whetstoneref01_Parse.j0] at H
   by_cases c7 : x18_1 = true
   ·subst c7
    have H1 : (some (([] : List Int), 6)) = some (r1, r2) := by rw [if_pos rfl] at H; exact H
    clear H
    have H := H1
    clear H1
    simp only [Option.some.injEq, Prod.mk.injEq] at H
    obtain ⟨rfl, rfl⟩ := H
    go_wp2
    go_ret2
    exact ⟨_, by first | rfl | (simp [errW_none, errW_some] <;> rfl) | (simp [*, errW_none, errW_some] <;> rfl), by first | exact Kd.R_nil _ _ _ _ _ | exact Kd.N_nil _ _ _ _ _ | exact Kd.V_nil _ _ _ _ _ | exact Kd.Q_nil _ _ _ _ _ | exact Kd.S_nil _ _ _ _ _, tb HB⟩
   ·replace c7 := Bool.eq_false_iff.mpr c7
    subst c7
    have H1 : (whetstoneref01_Parse.l0 kj1 a0 ([] : List Int) (wrap64 ((a0.size : Int) - 1))) = some (r1, r2) := by rw [if_neg (show ¬ (false = true) by decide)] at H; exact H
    clear H
    have H := H1
    clear H1
    have H' := Aside0.mk H
    clear H
    go_wp2
    go_loopg [4, 5] kj1 (fun kq v4 v5 w' => ∃ (x4_2 : List Int) (x5_2 : Int), v5 = .int .i64 x5_2 ∧ Aside0 (whetstoneref01_Parse.l0 kq a0 x4_2 x5_2 = some (r1, r2)) ∧ Aside0 (kq ≤ kj1) ∧ Aside0 (Kd.R (Kd.int .i64) 3 w' w.heap.size (fun _ => True) v4 x4_2) ∧ Aside0 (Below w.heap.size w w'))
    case atStart => exact ⟨(([] : List Int)), (wrap64 ((a0.size : Int) - 1)), (by first | rfl | (simp; done) | (simp [*]; done)), H', ⟨Nat.le_refl _⟩, ⟨by first | exact Kd.R_nil _ _ _ _ _ | exact Kd.N_nil _ _ _ _ _ | exact Kd.V_nil _ _ _ _ _ | exact Kd.Q_nil _ _ _ _ _ | exact Kd.S_nil _ _ _ _ _⟩, ⟨tb HB⟩⟩
    case round =>
     clear H'
     (try clear p2); (try clear c3); (try clear c3b0); (try clear c3b1); (try clear c4); (try clear c4b0); (try clear c4b1); (try clear c5); (try clear c5b0); (try clear c5b1); (try clear p6); (try clear q6); (try clear hx6); (try clear qi6); (try clear c7); (try clear p2); (try clear p6); (try clear q6)
     obtain ⟨x4_2, x5_2, rfl, HA, HK2, HO_4, HB⟩ := hrel
     cases gk with
     | zero => exact absurd HA.out (by simp [whetstoneref01_Parse.l0])
     | succ k2 =>
      have H := HA.out
      clear HA
      simp only [whetstoneref01_Parse.l0] at H
      by_cases c8 : x5_2 ≥ 0
      ·rw [if_pos c8] at H
       have c8b0 : decide (0 ≤ x5_2) = true := decide_eq_true c8
       clear c8
       by_cases c9 : 0 ≤ x5_2
       ·rw [if_pos c9] at H
        have c9b0 : decide (0 ≤ x5_2) = true := decide_eq_true c9
        clear c9
        by_cases c10 : x5_2 < (a0.size : Int)
        ·rw [if_pos c10] at H
         have c10b0 : decide (x5_2 < (a0.size : Int)) = true := decide_eq_true c10
         clear c10
         by_cases c12 : (bt a0 x5_2) < 48
         ·rw [if_pos c12] at H
          have c12b0 : decide ((bt a0 x5_2) < 48) = true := decide_eq_true c12
          clear c12
          simp only [Option.some.injEq, Prod.mk.injEq] at H
          obtain ⟨rfl, rfl⟩ := H
          have p11 : 0 ≤ (x5_2 : Int) := td
          have q11 : x5_2 < (a0.size : Int) := td
          have hx11 := bt_at a0 x5_2
          replace p11 := eq_true p11
          replace q11 := eq_true q11
          go_wp2
          go_ret2
          exact ⟨_, by first | rfl | (simp [errW_none, errW_some] <;> rfl) | (simp [*, errW_none, errW_some] <;> rfl), by first | exact Kd.R_nil _ _ _ _ _ | exact Kd.N_nil _ _ _ _ _ | exact Kd.V_nil _ _ _ _ _ | exact Kd.Q_nil _ _ _ _ _ | exact Kd.S_nil _ _ _ _ _, tb HB⟩
         ·rw [if_neg c12] at H
          have c12b0 : decide ((bt a0 x5_2) < 48) = false := decide_eq_false c12
          clear c12
          by_cases c14 : (bt a0 x5_2) > 57
          ·rw [if_pos c14] at H
           have c14b0 : decide (57 < (bt a0 x5_2)) = true := decide_eq_true c14
           clear c14
           simp only [Option.some.injEq, Prod.mk.injEq] at H
           obtain ⟨rfl, rfl⟩ := H
           have p11 : 0 ≤ (x5_2 : Int) := td
           have q11 : x5_2 < (a0.size : Int) := td
           have hx11 := bt_at a0 x5_2
           replace p11 := eq_true p11
           replace q11 := eq_true q11
           have p13 : 0 ≤ (x5_2 : Int) := td
           have q13 : x5_2 < (a0.size : Int) := td
           have hx13 := bt_at a0 x5_2
           replace p13 := eq_true p13
           replace q13 := eq_true q13
           go_wp2
           go_ret2
           exact ⟨_, by first | rfl | (simp [errW_none, errW_some] <;> rfl) | (simp [*, errW_none, errW_some] <;> rfl), by first | exact Kd.R_nil _ _ _ _ _ | exact Kd.N_nil _ _ _ _ _ | exact Kd.V_nil _ _ _ _ _ | exact Kd.Q_nil _ _ _ _ _ | exact Kd.S_nil _ _ _ _ _, tb HB⟩
          ·rw [if_neg c14] at H
           have c14b0 : decide (57 < (bt a0 x5_2)) = false := decide_eq_false c14
           clear c14
           by_cases c16 : x4_2.length < 17592186044416
           ·rw [if_pos c16] at H
            have LMc16 := Aside0.mk c16
            clear c16
            obtain ⟨y609, hy609⟩ : ∃ y_ : List Int, y_ = (x4_2 ++ [((bt a0 x5_2) - 48) % 256]) := ⟨_, rfl⟩
            replace H : (whetstoneref01_Parse.l0 k2 a0 y609 (wrap64 (x5_2 - 1))) = some (r1, r2) := by first | (rw [hy609]; with_reducible exact H) | (have H2_ := (Option.bind_some _ _).symm.trans H; rw [hy609]; with_reducible exact H2_) | (have H2_ := (Option.bind_some _ _).symm.trans H; with_reducible exact H2_) | with_reducible exact H | (rw [hy609]; exact H) | exact H
            have Ny609 := Aside0.mk hy609
            clear hy609
            have H' := Aside0.mk H
            clear H
            have p11 : 0 ≤ (x5_2 : Int) := td
            have q11 : x5_2 < (a0.size : Int) := td
            have hx11 := bt_at a0 x5_2
            replace p11 := eq_true p11
            replace q11 := eq_true q11
            have p13 : 0 ≤ (x5_2 : Int) := td
            have q13 : x5_2 < (a0.size : Int) := td
            have hx13 := bt_at a0 x5_2
            replace p13 := eq_true p13
            replace q13 := eq_true q13
            have p15 : 0 ≤ (x5_2 : Int) := td
            have q15 : x5_2 < (a0.size : Int) := td
            have hx15 := bt_at a0 x5_2
            replace p15 := eq_true p15
            replace q15 := eq_true q15
            go_wp2_with (first | ((with_reducible refine gate_builtin (b := .append) (xs := #[.tmp 36, .tmp 42]) rfl ?_); (try (refine gate_guard (by rfl) ?_; dsimp only)); at_builtin; refine Kd.R_append (Kd.int .i64) (w0 := w) w.heap.size rfl (.tmp 36) (.tmp 42) 30 3 (.int .i64 0) 8 rfl Try.underlying30 info3 rfl (by decide) (by omega) u4 x4_2 (((bt a0 x5_2) - 48) % 256) [.int .i64 (((bt a0 x5_2) - 48) % 256)] (fun _ => True) (fun _ => False) rfl rfl ?aP (fun _ hk => hk.elim) ?aF ?aO ?aB ?aS ?aL ?_; (case aP => exact rfl); (case aB => exact (tb HB)); (case aF => exact (fun _ _ => trivial)); (case aO => exact (tq HO_4)); (case aS => exact (below_size (tb HB))); (case aL => have := LMc16.out; omega); intro v610 w17 ho hb hg hat; rw [← Ny609.out] at ho; replace HB := Aside0.mk (hb); have HO611 := Aside0.mk (ho); clear HO_4 ho hb hg hat))
            go_roundg k2
            case measure => have := HJ1.out; have := HK2.out; omega
            case rel => exact ⟨(y609), (wrap64 (x5_2 - 1)), (by first | rfl | (simp; done) | (simp [*]; done)), H', ⟨by have := HJ1.out; have := HK2.out; omega⟩, ⟨tq HO611⟩, ⟨tb HB⟩⟩
           ·rw [if_neg c16] at H
            exact absurd H (by simp)
        ·rw [if_neg c10] at H
         exact absurd H (by simp)
       ·rw [if_neg c9] at H
        exact absurd H (by simp)
      ·rw [if_neg c8] at H
       have c8b0 : decide (0 ≤ x5_2) = false := decide_eq_false c8
       clear c8
       replace H := bi H
       obtain ⟨t612, A180, H⟩ := H
       have A18 := Aside0.mk A180
       clear A180
       simp only [Option.some.injEq, Prod.mk.injEq] at H
       obtain ⟨rfl, rfl⟩ := H
       obtain ⟨Ao19, co19, eo19⟩ := Kd.R_slice HO_4.out
       subst eo19
       go_wp2_with (first | ((with_reducible refine gate_callee (f := 69) rfl ?_); refine gL (N := some 45) Try.func69 #[.slice Ao19 x4_2.length co19] ?_; (with_reducible refine (whetstoneref01_Trim.calls k2 _ _ x4_2 t612 _ ?side1 ?side2 A18.out).mono ?_); (case side1 => exact tc (Kd.R_reads' HO_4.out).2.2); (case side2 => exact (Kd.R_reads' HO_4.out).2.1); rintro e w20 ⟨v613, rfl, ho0, hb⟩; refine ⟨_, rfl, ?_⟩; have HO614 := Aside0.mk (Kd.R_lower (Kd.R_new' ho0 (Kd.R_lt (tq HO_4))) (below_size (tb HB))); replace HB := bs HB hb; (try clear hb); (try clear hb2); (try clear hk); (try clear hi); (try clear ho0)))
       go_ret2
       exact ⟨_, by first | rfl | (simp [errW_none, errW_some] <;> rfl) | (simp [*, errW_none, errW_some] <;> rfl), by (with_reducible repeat first | apply qa | apply qn | apply qd); exact Kd.R_mono HO614.out (fun _ hk => trivial), tb HB⟩

/-! ### whetstoneref02_Parse: function 15 -/
mutual
def whetstoneref02_Parse.j0 : Nat → ByteArray → Bool → Option (Bool × List Int × Int)
 | 0, _, _ => none
 | k + 1, x0, x4 => if x4 = true then (if 1 ≤ (x0.size : Int) then (whetstoneref02_Parse.j1 k x4 (x0.extract 1 x0.size)) else (none)) else (whetstoneref02_Parse.j1 k x4 x0)
def whetstoneref02_Parse.j1 : Nat → Bool → ByteArray → Option (Bool × List Int × Int)
 | 0, _, _ => none
 | k + 1, x4, x5 => (whetstoneref01_Parse.f k x5).bind fun bt616 => (if bt616.2 = 0 then (if x4 = true then (if (bt616.1.length : Int) = 0 then (some (false, ([] : List Int), 6)) else ((whetstoneref02_Norm.f k x4 bt616.1).bind fun bt620 => (some (bt620.1, bt620.2, 0)))) else ((whetstoneref02_Norm.f k x4 bt616.1).bind fun bt624 => (some (bt624.1, bt624.2, 0)))) else (some (false, ([] : List Int), 6)))
end
def whetstoneref02_Parse.f (k : Nat) (a0 : ByteArray) : Option (Bool × List Int × Int) := if (a0.size : Int) > 0 then (if 0 < (a0.size : Int) then (whetstoneref02_Parse.j0 k a0 ((bt a0 0) == 45)) else (none)) else (whetstoneref02_Parse.j0 k a0 false)
theorem whetstoneref02_Parse.mono_l : ∀ k, (∀ y0 y1, LeO (whetstoneref02_Parse.j0 k y0 y1) (whetstoneref02_Parse.j0 (k + 1) y0 y1)) ∧ (∀ y0 y1, LeO (whetstoneref02_Parse.j1 k y0 y1) (whetstoneref02_Parse.j1 (k + 1) y0 y1))
 | 0 => ⟨fun _ _ r h => by simp [whetstoneref02_Parse.j0] at h, fun _ _ r h => by simp [whetstoneref02_Parse.j1] at h⟩
 | k + 1 => by
  obtain ⟨ih0, ih1⟩ := whetstoneref02_Parse.mono_l k
  refine ⟨?_, ?_⟩
  ·intro y0 y1
   unfold whetstoneref02_Parse.j0
   repeat' with_reducible first | exact ih0 _ _ | exact ih1 _ _ | exact whetstoneref01_Parse.mono _ _ | exact whetstoneref02_Norm.mono _ _ _ | exact LeO.refl _ | exact LeO.none _ | refine LeO.ite ?_ ?_ | refine LeO.bind ?_ (fun _ => ?_)
  ·intro y0 y1
   unfold whetstoneref02_Parse.j1
   repeat' with_reducible first | exact ih0 _ _ | exact ih1 _ _ | exact whetstoneref01_Parse.mono _ _ | exact whetstoneref02_Norm.mono _ _ _ | exact LeO.refl _ | exact LeO.none _ | refine LeO.ite ?_ ?_ | refine LeO.bind ?_ (fun _ => ?_)
theorem whetstoneref02_Parse.mono : ∀ a0 k, LeO (whetstoneref02_Parse.f k a0) (whetstoneref02_Parse.f (k + 1) a0) := by
 intro a0 k
 obtain ⟨ih0, ih1⟩ := whetstoneref02_Parse.mono_l k
 unfold whetstoneref02_Parse.f
 repeat' with_reducible first | exact ih0 _ _ | exact ih1 _ _ | exact whetstoneref01_Parse.mono _ _ | exact whetstoneref02_Norm.mono _ _ _ | exact LeO.refl _ | exact LeO.none _ | refine LeO.ite ?_ ?_ | refine LeO.bind ?_ (fun _ => ?_)
set_option maxHeartbeats 8000000 in
set_option maxRecDepth 100000 in
theorem whetstoneref02_Parse.calls (k : Nat) (a0 : ByteArray) (r1 : Bool) (r2 : List Int) (r3 : Int) (w : World) (h : whetstoneref02_Parse.f k a0 = some (r1, r2, r3)) :
  Calls Try.prog 15 #[.string a0] w fun e w' => ∃ v1_ : Value, e = .returned (.tuple #[.agg #[.bool r1, v1_], .int .i64 r3]) ∧ Kd.R (Kd.int .i64) 3 w' w.heap.size (fun _ => True) v1_ r2 ∧ Below w.heap.size w w' := by
 have hu32 := Try.underlying32
 have HB := Aside0.mk (Below.refl w.heap.size w)
 have H : (if (a0.size : Int) > 0 then (if 0 < (a0.size : Int) then (whetstoneref02_Parse.j0 k a0 ((bt a0 0) == 45)) else (none)) else (whetstoneref02_Parse.j0 k a0 false)) = some (r1, r2, r3) := h
 clear h
 have HC2 := Aside0.mk H
 clear H
 go_enter Try.func15, Try.ntmps15
 go_upto_region 1 with (first | ((with_reducible refine gate_dst (N := 2) rfl ?_); (try (refine gate_guard (by rfl) ?_; dsimp only)); refine bx (N := 2) #[.bool false, .slice none 0 0] 32 ?_; intro gb615 hg w3 hbox hb; have BK615 := Aside0.mk (hbox); have GW615 := bz hg HB; have GE615 := bz hg HB; replace HB := bs HB hb; clear hb hbox hg))
 (try simp only [Act.put, List.setIfInBounds_toArray, List.set_cons_zero, List.set_cons_succ])
 go_cut [4] from 1 to 0 (fun v4 wc => ∃ (kq : Nat) (x4_1 : Bool), v4 = .bool x4_1 ∧ Aside0 (whetstoneref02_Parse.j0 kq a0 x4_1 = some (r1, r2, r3)) ∧ Aside0 (kq ≤ k) ∧ Aside0 (wc.heap[gb615]? = some (.cells #[.bool false, (.slice none 0 0)] 32 (0, 0))) ∧ Aside0 (Below w.heap.size w wc))
 case first =>
  have H := HC2.out
  clear HC2
  by_cases c4 : (a0.size : Int) > 0
  ·rw [if_pos c4] at H
   have c4b0 : decide (0 < (a0.size : Int)) = true := decide_eq_true c4
   have c4b1 : decide (0 < a0.size) = true := decide_eq_true (by omega)
   clear c4
   (first | rw [c4b0] | rw [c4b1] | (simp only [i64_w, i32_w]; rw [c4b0]) | skip)
   by_cases c5 : 0 < (a0.size : Int)
   ·rw [if_pos c5] at H
    have c5b0 : decide (0 < (a0.size : Int)) = true := decide_eq_true c5
    have c5b1 : decide (0 < a0.size) = true := decide_eq_true (by omega)
    clear c5
    have H' := Aside0.mk H
    clear H
    have p6 : 0 ≤ (0 : Int) := (by omega)
    have q6 : 0 < a0.size := (by have : (0 : Int) < (a0.size : Int) := td; omega)
    have hx6 : ∀ h : 0 < a0.size, ((a0[0]'h).toNat : Int) = bt a0 0 := bt_at a0 0
    clear p6
    have qi6 : (0 < (a0.size : Int)) = True := eq_true (td)
    replace q6 := eq_true q6
    go_wp2
    go_meet
    case rel => exact ⟨_, (((bt a0 0) == 45)), (by first | rfl | (simp; done) | (simp [*]; done)), H', ⟨by first | omega | exact Nat.le_refl _⟩, ⟨tk BK615⟩, ⟨tb HB⟩⟩
   ·rw [if_neg c5] at H
    exact absurd H (by simp)
  ·rw [if_neg c4] at H
   have c4b0 : decide (0 < (a0.size : Int)) = false := decide_eq_false c4
   have c4b1 : decide (0 < a0.size) = false := decide_eq_false (by omega)
   clear c4
   (first | rw [c4b0] | rw [c4b1] | (simp only [i64_w, i32_w]; rw [c4b0]) | skip)
   have H' := Aside0.mk H
   clear H
   go_wp2
   go_meet
   case rel => exact ⟨_, (false), (by first | rfl | (simp; done) | (simp [*]; done)), H', ⟨by first | omega | exact Nat.le_refl _⟩, ⟨tk BK615⟩, ⟨tb HB⟩⟩
 case rest =>
  clear HC2
  (try clear c1); (try clear p2); (try clear c4); (try clear c4b0); (try clear c4b1); (try clear c5); (try clear c5b0); (try clear c5b1); (try clear p6); (try clear q6); (try clear hx6); (try clear qi6); (try clear p6); (try clear q6)
  obtain ⟨kq, x4_1, rfl, HA, HJ1, BK615, HB⟩ := hcut
  cases kq with
  | zero => exact absurd HA.out (by simp [whetstoneref02_Parse.j0])
  | succ kj1 =>
   have H := HA.out
   clear HA
   simp only [whetstoneref02_Parse.j0] at H
   have HC7 := Aside0.mk H
   clear H
   go_upto_if 17 with (fail)
   go_cut [5] from 17 to 17 (fun v5 wc => ∃ (kq : Nat) (x5_6 : ByteArray), v5 = .string x5_6 ∧ Aside0 (whetstoneref02_Parse.j1 kq x4_1 x5_6 = some (r1, r2, r3)) ∧ Aside0 (kq ≤ kj1) ∧ Aside0 (wc.heap[gb615]? = some (.cells #[.bool false, (.slice none 0 0)] 32 (0, 0))) ∧ Aside0 (Below w.heap.size w wc))
   case first =>
    have H := HC7.out
    clear HC7
    by_cases c8 : x4_1 = true
    ·subst c8
     have H1 : (if 1 ≤ (a0.size : Int) then (whetstoneref02_Parse.j1 kj1 true (a0.extract 1 a0.size)) else (none)) = some (r1, r2, r3) := by rw [if_pos rfl] at H; exact H
     clear H
     have H := H1
     clear H1
     by_cases c9 : 1 ≤ (a0.size : Int)
     ·rw [if_pos c9] at H
      have c9b0 := eq_true c9
      have c9b1 : decide (1 ≤ (a0.size : Int)) = true := decide_eq_true c9
      clear c9
      have H' := Aside0.mk H
      clear H
      go_wp2
      go_meet
      case rel => exact ⟨_, (a0.extract 1 a0.size), (by first | rfl | (simp; done) | (simp [*]; done)), H', ⟨by have := HJ1.out; first | omega | exact Nat.le_refl _⟩, ⟨tk BK615⟩, ⟨tb HB⟩⟩
     ·rw [if_neg c9] at H
      exact absurd H (by simp)
    ·replace c8 := Bool.eq_false_iff.mpr c8
     subst c8
     have H1 : (whetstoneref02_Parse.j1 kj1 false a0) = some (r1, r2, r3) := by rw [if_neg (show ¬ (false = true) by decide)] at H; exact H
     clear H
     have H := H1
     clear H1
     have H' := Aside0.mk H
     clear H
     go_wp2
     go_meet
     case rel => exact ⟨_, (a0), (by first | rfl | (simp; done) | (simp [*]; done)), H', ⟨by have := HJ1.out; first | omega | exact Nat.le_refl _⟩, ⟨tk BK615⟩, ⟨tb HB⟩⟩
   case rest =>
    clear HC7
    (try clear c1); (try clear p2); (try clear c4); (try clear c4b0); (try clear c4b1); (try clear c5); (try clear c5b0); (try clear c5b1); (try clear p6); (try clear q6); (try clear hx6); (try clear qi6); (try clear c8); (try clear c9); (try clear c9b0); (try clear c9b1); (try clear p2); (try clear p6); (try clear q6)
    obtain ⟨kq, x5_6, rfl, HA, HJ6, BK615, HB⟩ := hcut
    cases kq with
    | zero => exact absurd HA.out (by simp [whetstoneref02_Parse.j1])
    | succ kj6 =>
     have H := HA.out
     clear HA
     simp only [whetstoneref02_Parse.j1] at H
     replace H := bi H
     obtain ⟨⟨t616, t617⟩, A100, H⟩ := H
     try dsimp only at H
     have A10 := Aside0.mk A100
     clear A100
     by_cases c11 : t617 = 0
     ·rw [if_pos c11] at H
      have c11b0 : (t617 == 0) = true := beq_iff_eq.mpr c11
      have c11b1 : (t617 != 0) = false := bne_eq_false_iff_eq.mpr c11
      clear c11
      by_cases c12 : x4_1 = true
      ·subst c12
       have H1 : (if (t616.length : Int) = 0 then (some (false, ([] : List Int), 6)) else ((whetstoneref02_Norm.f kj6 true t616).bind fun bt620 => (some (bt620.1, bt620.2, 0)))) = some (r1, r2, r3) := by rw [if_pos rfl] at H; exact H
       clear H
       have H := H1
       clear H1
       by_cases c13 : (t616.length : Int) = 0
       ·rw [if_pos c13] at H
        have c13b0 : ((t616.length : Int) == 0) = true := beq_iff_eq.mpr c13
        have c13b1 : ((t616.length : Int) != 0) = false := bne_eq_false_iff_eq.mpr c13
        clear c13
        simp only [Option.some.injEq, Prod.mk.injEq] at H
        obtain ⟨rfl, rfl, rfl⟩ := H
        go_wp2_with (first | ((with_reducible refine gate_callee (f := 53) rfl ?_); refine gL (N := some 22) Try.func53 #[.string x5_6] ?_; (with_reducible refine (whetstoneref01_Parse.calls kj6 x5_6 t616 t617 _ A10.out).mono ?_); rintro e w14 ⟨v618, rfl, ho0, hb⟩; refine ⟨_, rfl, ?_⟩; have HO619 := rl ho0 HB; replace BK615 := kb BK615 hb; replace HB := bs HB hb; (try clear hb); (try clear hb2); (try clear hk); (try clear hi); (try clear ho0); obtain ⟨Ao15, co15, eo15⟩ := Kd.R_slice HO619.out; subst eo15; have hcz16_0 := bc BK615 0 (.bool false); have hcz16_1 := bc BK615 1 (.slice none 0 0); have hfz16_0 := blk_frozen BK615.out 0; have hfz16_1 := blk_frozen BK615.out 1))
        refine bodyPost_ret (results_ct rfl _ _ gb615 32 #[.bool false, .slice none 0 0] (0, 0) _ rfl (tk BK615) Try.underlying32 rfl (by kernel_rfl)) rfl ?_
        exact ⟨_, by first | rfl | (simp [errW_none, errW_some] <;> rfl) | (simp [*, errW_none, errW_some] <;> rfl), by first | exact Kd.R_nil _ _ _ _ _ | exact Kd.N_nil _ _ _ _ _ | exact Kd.V_nil _ _ _ _ _ | exact Kd.Q_nil _ _ _ _ _ | exact Kd.S_nil _ _ _ _ _, tb HB⟩
       ·rw [if_neg c13] at H
        have c13b0 : ((t616.length : Int) == 0) = false := beq_eq_false_iff_ne.mpr c13
        have c13b1 : ((t616.length : Int) != 0) = true := bne_iff_ne.mpr c13
        have c13b2 : ¬ (t616 = []) := fun h_ => c13 (by rw [h_]; rfl)
        replace H := bi H
        obtain ⟨⟨t620, t621⟩, A170, H⟩ := H
        try dsimp only at H
        have A17 := Aside0.mk A170
        clear A170
        simp only [Option.some.injEq, Prod.mk.injEq] at H
        obtain ⟨rfl, rfl, rfl⟩ := H
        go_wp2_with (first | ((with_reducible refine gate_callee (f := 53) rfl ?_); refine gL (N := some 22) Try.func53 #[.string x5_6] ?_; (with_reducible refine (whetstoneref01_Parse.calls kj6 x5_6 t616 t617 _ A10.out).mono ?_); rintro e w18 ⟨v618, rfl, ho0, hb⟩; refine ⟨_, rfl, ?_⟩; have HO619 := rl ho0 HB; replace BK615 := kb BK615 hb; replace HB := bs HB hb; (try clear hb); (try clear hb2); (try clear hk); (try clear hi); (try clear ho0); obtain ⟨Ao19, co19, eo19⟩ := Kd.R_slice HO619.out; subst eo19) | ((with_reducible refine gate_callee (f := 54) rfl ?_); refine gL (N := some 39) Try.func54 #[.agg #[.bool true, .slice Ao19 t616.length co19]] ?_; (with_reducible refine (whetstoneref02_Norm.calls kj6 true _ _ t616 t620 t621 _ ?side1 ?side2 A17.out).mono ?_); (case side1 => exact tc (Kd.R_reads' HO619.out).2.2); (case side2 => exact (Kd.R_reads' HO619.out).2.1); rintro e w20 ⟨v622, rfl, ho0, hb⟩; refine ⟨_, rfl, ?_⟩; have HO623 := Aside0.mk (Kd.R_lower (Kd.R_new' ho0 (Kd.R_lt (tq HO619))) (below_size (tb HB))); replace BK615 := kb BK615 hb; replace HB := bs HB hb; (try clear hb); (try clear hb2); (try clear hk); (try clear hi); (try clear ho0); have hcz21_0 := bc BK615 0 (.bool false); have hcz21_1 := bc BK615 1 (.slice none 0 0); have hfz21_0 := blk_frozen BK615.out 0; have hfz21_1 := blk_frozen BK615.out 1; obtain ⟨Ao22, co22, eo22⟩ := Kd.R_slice HO623.out; subst eo22))
        refine bodyPost_ret (results_ct rfl _ _ gb615 32 #[.bool t620, .slice Ao22 t621.length co22] (0, 0) _ rfl (tk BK615) Try.underlying32 rfl (by kernel_rfl)) rfl ?_
        exact ⟨_, by first | rfl | (simp [errW_none, errW_some] <;> rfl) | (simp [*, errW_none, errW_some] <;> rfl), by (with_reducible repeat first | apply qa | apply qn | apply qd); exact Kd.R_mono (Kd.R_far (p := ⟨gb615, 1, none⟩) (Kd.R_far (p := ⟨gb615, 0, none⟩) (Kd.R_types HO623.out BK615.out (by decide)) (fun _ hk => hk.2) (.bool t620)) (fun _ hk => hk.2) (.slice Ao22 t621.length co22)) (fun _ hk => trivial), tb HB⟩
      ·replace c12 := Bool.eq_false_iff.mpr c12
       subst c12
       have H1 : ((whetstoneref02_Norm.f kj6 false t616).bind fun bt624 => (some (bt624.1, bt624.2, 0))) = some (r1, r2, r3) := by rw [if_neg (show ¬ (false = true) by decide)] at H; exact H
       clear H
       have H := H1
       clear H1
       replace H := bi H
       obtain ⟨⟨t624, t625⟩, A230, H⟩ := H
       try dsimp only at H
       have A23 := Aside0.mk A230
       clear A230
       simp only [Option.some.injEq, Prod.mk.injEq] at H
       obtain ⟨rfl, rfl, rfl⟩ := H
       go_wp2_with (first | ((with_reducible refine gate_callee (f := 53) rfl ?_); refine gL (N := some 22) Try.func53 #[.string x5_6] ?_; (with_reducible refine (whetstoneref01_Parse.calls kj6 x5_6 t616 t617 _ A10.out).mono ?_); rintro e w24 ⟨v618, rfl, ho0, hb⟩; refine ⟨_, rfl, ?_⟩; have HO619 := rl ho0 HB; replace BK615 := kb BK615 hb; replace HB := bs HB hb; (try clear hb); (try clear hb2); (try clear hk); (try clear hi); (try clear ho0); obtain ⟨Ao25, co25, eo25⟩ := Kd.R_slice HO619.out; subst eo25) | ((with_reducible refine gate_callee (f := 54) rfl ?_); refine gL (N := some 39) Try.func54 #[.agg #[.bool false, .slice Ao25 t616.length co25]] ?_; (with_reducible refine (whetstoneref02_Norm.calls kj6 false _ _ t616 t624 t625 _ ?side1 ?side2 A23.out).mono ?_); (case side1 => exact tc (Kd.R_reads' HO619.out).2.2); (case side2 => exact (Kd.R_reads' HO619.out).2.1); rintro e w26 ⟨v626, rfl, ho0, hb⟩; refine ⟨_, rfl, ?_⟩; have HO627 := Aside0.mk (Kd.R_lower (Kd.R_new' ho0 (Kd.R_lt (tq HO619))) (below_size (tb HB))); replace BK615 := kb BK615 hb; replace HB := bs HB hb; (try clear hb); (try clear hb2); (try clear hk); (try clear hi); (try clear ho0); have hcz27_0 := bc BK615 0 (.bool false); have hcz27_1 := bc BK615 1 (.slice none 0 0); have hfz27_0 := blk_frozen BK615.out 0; have hfz27_1 := blk_frozen BK615.out 1; obtain ⟨Ao28, co28, eo28⟩ := Kd.R_slice HO627.out; subst eo28))
       refine bodyPost_ret (results_ct rfl _ _ gb615 32 #[.bool t624, .slice Ao28 t625.length co28] (0, 0) _ rfl (tk BK615) Try.underlying32 rfl (by kernel_rfl)) rfl ?_
       exact ⟨_, by first | rfl | (simp [errW_none, errW_some] <;> rfl) | (simp [*, errW_none, errW_some] <;> rfl), by (with_reducible repeat first | apply qa | apply qn | apply qd); exact Kd.R_mono (Kd.R_far (p := ⟨gb615, 1, none⟩) (Kd.R_far (p := ⟨gb615, 0, none⟩) (Kd.R_types HO627.out BK615.out (by decide)) (fun _ hk => hk.2) (.bool t624)) (fun _ hk => hk.2) (.slice Ao28 t625.length co28)) (fun _ hk => trivial), tb HB⟩
     ·rw [if_neg c11] at H
      have c11b0 : (t617 == 0) = false := beq_eq_false_iff_ne.mpr c11
      have c11b1 : (t617 != 0) = true := bne_iff_ne.mpr c11
      simp only [Option.some.injEq, Prod.mk.injEq] at H
      obtain ⟨rfl, rfl, rfl⟩ := H
      go_wp2_with (first | ((with_reducible refine gate_callee (f := 53) rfl ?_); refine gL (N := some 22) Try.func53 #[.string x5_6] ?_; (with_reducible refine (whetstoneref01_Parse.calls kj6 x5_6 t616 t617 _ A10.out).mono ?_); rintro e w29 ⟨v618, rfl, ho0, hb⟩; refine ⟨_, rfl, ?_⟩; replace BK615 := kb BK615 hb; replace HB := bs HB hb; (try clear hb); (try clear hb2); (try clear hk); (try clear hi); (try clear ho0); have hcz30_0 := bc BK615 0 (.bool false); have hcz30_1 := bc BK615 1 (.slice none 0 0); have hfz30_0 := blk_frozen BK615.out 0; have hfz30_1 := blk_frozen BK615.out 1))
      refine bodyPost_ret (results_ct rfl _ _ gb615 32 #[.bool false, .slice none 0 0] (0, 0) _ rfl (tk BK615) Try.underlying32 rfl (by kernel_rfl)) rfl ?_
      exact ⟨_, by first | rfl | (simp [errW_none, errW_some] <;> rfl) | (simp [*, errW_none, errW_some] <;> rfl), by first | exact Kd.R_nil _ _ _ _ _ | exact Kd.N_nil _ _ _ _ _ | exact Kd.V_nil _ _ _ _ _ | exact Kd.Q_nil _ _ _ _ _ | exact Kd.S_nil _ _ _ _ _, tb HB⟩

/-! ### whetstoneref02_Sign: function 27 -/
def whetstoneref02_Sign.f (k : Nat) (a0_0 : Bool) (l0_1 : List Int) : Option (Int) := (whetstoneref02_Norm.f k a0_0 l0_1).bind fun bt629 => (if (bt629.2.length : Int) = 0 then (some 0) else (if bt629.1 = true then (some (-1)) else (some 1)))
theorem whetstoneref02_Sign.mono : ∀ a0 a1 k, LeO (whetstoneref02_Sign.f k a0 a1) (whetstoneref02_Sign.f (k + 1) a0 a1) := by
 intro a0 a1 k
 unfold whetstoneref02_Sign.f
 repeat' with_reducible first | exact whetstoneref02_Norm.mono _ _ _ | exact LeO.refl _ | exact LeO.none _ | refine LeO.ite ?_ ?_ | refine LeO.bind ?_ (fun _ => ?_)
set_option maxHeartbeats 8000000 in
set_option maxRecDepth 100000 in
theorem whetstoneref02_Sign.calls (k : Nat) (a0_0 : Bool) (A0_1 : Option Addr) (c0_1 : Nat) (l0_1 : List Int) (r : Int) (w : World) (hr0_1 : Kd.C (Kd.int .i64) w A0_1 l0_1.length l0_1) (hc0_1 : l0_1.length ≤ c0_1) (h : whetstoneref02_Sign.f k a0_0 l0_1 = some r) :
  Calls Try.prog 27 #[.agg #[.bool a0_0, .slice A0_1 l0_1.length c0_1]] w fun e w' => e = .returned (.int .i64 r) ∧ Below w.heap.size w w' := by
 have hu32 := Try.underlying32
 have HR0_1 := Aside0.mk hr0_1
 have HC0_1 := Aside0.mk hc0_1
 clear hr0_1 hc0_1
 have HB := Aside0.mk (Below.refl w.heap.size w)
 have H : ((whetstoneref02_Norm.f k a0_0 l0_1).bind fun bt629 => (if (bt629.2.length : Int) = 0 then (some 0) else (if bt629.1 = true then (some (-1)) else (some 1)))) = some r := h
 clear h
 replace H := bi H
 obtain ⟨⟨t629, t630⟩, A20, H⟩ := H
 try dsimp only at H
 have A2 := Aside0.mk A20
 clear A20
 by_cases c3 : (t630.length : Int) = 0
 ·rw [if_pos c3] at H
  have c3b0 : ((t630.length : Int) == 0) = true := beq_iff_eq.mpr c3
  have c3b1 : ((t630.length : Int) != 0) = false := bne_eq_false_iff_eq.mpr c3
  clear c3
  obtain rfl := Option.some.inj H
  go_enter Try.func27, Try.ntmps27
  go_wp2_with (first | ((with_reducible refine gate_dst (N := 1) rfl ?_); refine bx (N := 1) #[.bool a0_0, .slice A0_1 l0_1.length c0_1] 32 ?_; intro gb628 hg w4 hbox hb; have BK628 := Aside0.mk (hbox); have GW628 := bz hg HB; have GE628 := bz hg HB; replace HB := bs HB hb; clear hb hbox hg; have hcz5_0 := bc BK628 0 (.bool a0_0); have hcz5_1 := bc BK628 1 (.slice A0_1 l0_1.length c0_1); have hfz5_0 := blk_frozen BK628.out 0; have hfz5_1 := blk_frozen BK628.out 1) | ((with_reducible refine gate_callee (f := 54) rfl ?_); refine gL (N := some 5) Try.func54 #[.agg #[.bool a0_0, .slice A0_1 l0_1.length c0_1]] ?_; (with_reducible refine (whetstoneref02_Norm.calls k a0_0 _ _ l0_1 t629 t630 _ ?side1 ?side2 A2.out).mono ?_); (case side1 => exact tc (Kd.C_below HR0_1.out HB.out)); (case side2 => exact HC0_1.out); rintro e w6 ⟨v631, rfl, ho0, hb⟩; refine ⟨_, rfl, ?_⟩; have HO632 := rl ho0 HB; replace BK628 := kb BK628 hb; replace HB := bs HB hb; (try clear hb); (try clear hb2); (try clear hk); (try clear hi); (try clear ho0)) | ((with_reducible refine gate_dst (N := 3) rfl ?_); refine bx (N := 3) #[.bool false, .slice none 0 0] 32 ?_; intro gb633 hg w7 hbox hb; replace HO632 := rb HO632 hb; have BK633 := Aside0.mk (hbox); have GW633 := bz hg HB; have GE633 := bz hg HB; replace HB := bs HB hb; have NB628_633 := nl hg BK628; have NB633_628 := ng hg BK628; clear hb hbox hg; have hnb8 := NB633_628.out; have hnc8 := NB628_633.out; have hcz9_0 := bc BK633 0 (.bool false); have hcz9_1 := bc BK633 1 (.slice none 0 0); have hfz9_0 := blk_frozen BK633.out 0; have hfz9_1 := blk_frozen BK633.out 1; obtain ⟨Ao10, co10, eo10⟩ := Kd.R_slice HO632.out; subst eo10))
  go_ret
  exact ⟨by first | rfl | (simp [errW_none, errW_some] <;> rfl) | (simp [*, errW_none, errW_some] <;> rfl), tb HB⟩
 ·rw [if_neg c3] at H
  have c3b0 : ((t630.length : Int) == 0) = false := beq_eq_false_iff_ne.mpr c3
  have c3b1 : ((t630.length : Int) != 0) = true := bne_iff_ne.mpr c3
  have c3b2 : ¬ (t630 = []) := fun h_ => c3 (by rw [h_]; rfl)
  by_cases c11 : t629 = true
  ·subst c11
   have H1 : (some (-1)) = some r := by rw [if_pos rfl] at H; exact H
   clear H
   have H := H1
   clear H1
   obtain rfl := Option.some.inj H
   go_enter Try.func27, Try.ntmps27
   go_wp2_with (first | ((with_reducible refine gate_dst (N := 1) rfl ?_); refine bx (N := 1) #[.bool a0_0, .slice A0_1 l0_1.length c0_1] 32 ?_; intro gb628 hg w12 hbox hb; have BK628 := Aside0.mk (hbox); have GW628 := bz hg HB; have GE628 := bz hg HB; replace HB := bs HB hb; clear hb hbox hg; have hcz13_0 := bc BK628 0 (.bool a0_0); have hcz13_1 := bc BK628 1 (.slice A0_1 l0_1.length c0_1); have hfz13_0 := blk_frozen BK628.out 0; have hfz13_1 := blk_frozen BK628.out 1) | ((with_reducible refine gate_callee (f := 54) rfl ?_); refine gL (N := some 5) Try.func54 #[.agg #[.bool a0_0, .slice A0_1 l0_1.length c0_1]] ?_; (with_reducible refine (whetstoneref02_Norm.calls k a0_0 _ _ l0_1 true t630 _ ?side1 ?side2 A2.out).mono ?_); (case side1 => exact tc (Kd.C_below HR0_1.out HB.out)); (case side2 => exact HC0_1.out); rintro e w14 ⟨v631, rfl, ho0, hb⟩; refine ⟨_, rfl, ?_⟩; have HO632 := rl ho0 HB; replace BK628 := kb BK628 hb; replace HB := bs HB hb; (try clear hb); (try clear hb2); (try clear hk); (try clear hi); (try clear ho0)) | ((with_reducible refine gate_dst (N := 3) rfl ?_); refine bx (N := 3) #[.bool false, .slice none 0 0] 32 ?_; intro gb633 hg w15 hbox hb; replace HO632 := rb HO632 hb; have BK633 := Aside0.mk (hbox); have GW633 := bz hg HB; have GE633 := bz hg HB; replace HB := bs HB hb; have NB628_633 := nl hg BK628; have NB633_628 := ng hg BK628; clear hb hbox hg; have hnb16 := NB633_628.out; have hnc16 := NB628_633.out; have hcz17_0 := bc BK633 0 (.bool false); have hcz17_1 := bc BK633 1 (.slice none 0 0); have hfz17_0 := blk_frozen BK633.out 0; have hfz17_1 := blk_frozen BK633.out 1; obtain ⟨Ao18, co18, eo18⟩ := Kd.R_slice HO632.out; subst eo18))
   go_ret
   exact ⟨by first | rfl | (simp [errW_none, errW_some] <;> rfl) | (simp [*, errW_none, errW_some] <;> rfl), tb HB⟩
  ·replace c11 := Bool.eq_false_iff.mpr c11
   subst c11
   have H1 : (some 1) = some r := by rw [if_neg (show ¬ (false = true) by decide)] at H; exact H
   clear H
   have H := H1
   clear H1
   obtain rfl := Option.some.inj H
   go_enter Try.func27, Try.ntmps27
   go_wp2_with (first | ((with_reducible refine gate_dst (N := 1) rfl ?_); refine bx (N := 1) #[.bool a0_0, .slice A0_1 l0_1.length c0_1] 32 ?_; intro gb628 hg w19 hbox hb; have BK628 := Aside0.mk (hbox); have GW628 := bz hg HB; have GE628 := bz hg HB; replace HB := bs HB hb; clear hb hbox hg; have hcz20_0 := bc BK628 0 (.bool a0_0); have hcz20_1 := bc BK628 1 (.slice A0_1 l0_1.length c0_1); have hfz20_0 := blk_frozen BK628.out 0; have hfz20_1 := blk_frozen BK628.out 1) | ((with_reducible refine gate_callee (f := 54) rfl ?_); refine gL (N := some 5) Try.func54 #[.agg #[.bool a0_0, .slice A0_1 l0_1.length c0_1]] ?_; (with_reducible refine (whetstoneref02_Norm.calls k a0_0 _ _ l0_1 false t630 _ ?side1 ?side2 A2.out).mono ?_); (case side1 => exact tc (Kd.C_below HR0_1.out HB.out)); (case side2 => exact HC0_1.out); rintro e w21 ⟨v631, rfl, ho0, hb⟩; refine ⟨_, rfl, ?_⟩; have HO632 := rl ho0 HB; replace BK628 := kb BK628 hb; replace HB := bs HB hb; (try clear hb); (try clear hb2); (try clear hk); (try clear hi); (try clear ho0)) | ((with_reducible refine gate_dst (N := 3) rfl ?_); refine bx (N := 3) #[.bool false, .slice none 0 0] 32 ?_; intro gb633 hg w22 hbox hb; replace HO632 := rb HO632 hb; have BK633 := Aside0.mk (hbox); have GW633 := bz hg HB; have GE633 := bz hg HB; replace HB := bs HB hb; have NB628_633 := nl hg BK628; have NB633_628 := ng hg BK628; clear hb hbox hg; have hnb23 := NB633_628.out; have hnc23 := NB628_633.out; have hcz24_0 := bc BK633 0 (.bool false); have hcz24_1 := bc BK633 1 (.slice none 0 0); have hfz24_0 := blk_frozen BK633.out 0; have hfz24_1 := blk_frozen BK633.out 1; obtain ⟨Ao25, co25, eo25⟩ := Kd.R_slice HO632.out; subst eo25))
   go_ret
   exact ⟨by first | rfl | (simp [errW_none, errW_some] <;> rfl) | (simp [*, errW_none, errW_some] <;> rfl), tb HB⟩

/-! ### whetstoneref01_Text: function 56 -/
def whetstoneref01_Text.l0 : Nat → List Int → List Int → Int → Option (ByteArray)
 | 0, _, _, _ => none
 | k + 1, x3, x4, x5 => if x5 ≥ 0 then (if 0 ≤ x5 then (if x5 < (x3.length : Int) then (if x4.length < 140737488355328 then (whetstoneref01_Text.l0 k x3 (x4 ++ [(wrap64 (48 + (rd x3 x5))) % 256]) (wrap64 (x5 - 1))) else (none)) else (none)) else (none)) else (some (strOfNums x4))
def whetstoneref01_Text.f (k : Nat) (l0 : List Int) : Option (ByteArray) := (whetstoneref01_Trim.f k l0).bind fun t634 => (if (t634.length : Int) = 0 then (some (⟨#[48]⟩ : ByteArray)) else (whetstoneref01_Text.l0 k t634 ([] : List Int) (wrap64 ((t634.length : Int) - 1))))
theorem whetstoneref01_Text.mono_l : ∀ k, (∀ y0 y1 y2, LeO (whetstoneref01_Text.l0 k y0 y1 y2) (whetstoneref01_Text.l0 (k + 1) y0 y1 y2))
 | 0 => fun _ _ _ r h => by simp [whetstoneref01_Text.l0] at h
 | k + 1 => by
  have ih0 := whetstoneref01_Text.mono_l k
  ·intro y0 y1 y2
   unfold whetstoneref01_Text.l0
   repeat' with_reducible first | exact ih0 _ _ _ | exact whetstoneref01_Trim.mono _ _ | exact LeO.refl _ | exact LeO.none _ | refine LeO.ite ?_ ?_ | refine LeO.bind ?_ (fun _ => ?_)
theorem whetstoneref01_Text.mono : ∀ a0 k, LeO (whetstoneref01_Text.f k a0) (whetstoneref01_Text.f (k + 1) a0) := by
 intro a0 k
 have ih0 := whetstoneref01_Text.mono_l k
 unfold whetstoneref01_Text.f
 repeat' with_reducible first | exact ih0 _ _ _ | exact whetstoneref01_Trim.mono _ _ | exact LeO.refl _ | exact LeO.none _ | refine LeO.ite ?_ ?_ | refine LeO.bind ?_ (fun _ => ?_)
set_option maxHeartbeats 8000000 in
set_option maxRecDepth 100000 in
theorem whetstoneref01_Text.calls (k : Nat) (A0 : Option Addr) (c0 : Nat) (l0 : List Int) (r : ByteArray) (w : World) (hr0 : Kd.C (Kd.int .i64) w A0 l0.length l0) (hc0 : l0.length ≤ c0) (h : whetstoneref01_Text.f k l0 = some r) :
  Calls Try.prog 56 #[.slice A0 l0.length c0] w fun e w' => e = .returned (.string r) ∧ Below w.heap.size w w' := by
 have HR0 := Aside0.mk hr0
 have HC0 := Aside0.mk hc0
 clear hr0 hc0
 have HB := Aside0.mk (Below.refl w.heap.size w)
 have H : ((whetstoneref01_Trim.f k l0).bind fun t634 => (if (t634.length : Int) = 0 then (some (⟨#[48]⟩ : ByteArray)) else (whetstoneref01_Text.l0 k t634 ([] : List Int) (wrap64 ((t634.length : Int) - 1))))) = some r := h
 clear h
 replace H := bi H
 obtain ⟨t634, A20, H⟩ := H
 have A2 := Aside0.mk A20
 clear A20
 by_cases c3 : (t634.length : Int) = 0
 ·rw [if_pos c3] at H
  have c3b0 : ((t634.length : Int) == 0) = true := beq_iff_eq.mpr c3
  have c3b1 : ((t634.length : Int) != 0) = false := bne_eq_false_iff_eq.mpr c3
  clear c3
  obtain rfl := Option.some.inj H
  go_enter Try.func56, Try.ntmps56
  go_wp2_with (first | ((with_reducible refine gate_callee (f := 69) rfl ?_); refine gL (N := some 7) Try.func69 #[.slice A0 l0.length c0] ?_; (with_reducible refine (whetstoneref01_Trim.calls k _ _ l0 t634 _ ?side1 ?side2 A2.out).mono ?_); (case side1 => repeat (first | exact HR0.out | (with_reducible refine Kd.C_alloc ?_ _) | (with_reducible refine Kd.C_drewN ?_ _) | (with_reducible refine Kd.C_drew ?_))); (case side2 => exact HC0.out); rintro e w4 ⟨v635, rfl, ho0, hb⟩; refine ⟨_, rfl, ?_⟩; have HO636 := rl ho0 HB; replace HB := bs HB hb; (try clear hb); (try clear hb2); (try clear hk); (try clear hi); (try clear ho0); obtain ⟨Ao5, co5, eo5⟩ := Kd.R_slice HO636.out; subst eo5))
  go_ret
  exact ⟨by first | rfl | (simp [errW_none, errW_some] <;> rfl) | (simp [*, errW_none, errW_some] <;> rfl), tb HB⟩
 ·rw [if_neg c3] at H
  have c3b0 : ((t634.length : Int) == 0) = false := beq_eq_false_iff_ne.mpr c3
  have c3b1 : ((t634.length : Int) != 0) = true := bne_iff_ne.mpr c3
  have c3b2 : ¬ (t634 = []) := fun h_ => c3 (by rw [h_]; rfl)
  have H' := Aside0.mk H
  clear H
  go_enter Try.func56, Try.ntmps56
  go_wp2_with (first | ((with_reducible refine gate_callee (f := 69) rfl ?_); refine gL (N := some 7) Try.func69 #[.slice A0 l0.length c0] ?_; (with_reducible refine (whetstoneref01_Trim.calls k _ _ l0 t634 _ ?side1 ?side2 A2.out).mono ?_); (case side1 => repeat (first | exact HR0.out | (with_reducible refine Kd.C_alloc ?_ _) | (with_reducible refine Kd.C_drewN ?_ _) | (with_reducible refine Kd.C_drew ?_))); (case side2 => exact HC0.out); rintro e w6 ⟨v635, rfl, ho0, hb⟩; refine ⟨_, rfl, ?_⟩; have HO636 := rl ho0 HB; replace HB := bs HB hb; (try clear hb); (try clear hb2); (try clear hk); (try clear hi); (try clear ho0); obtain ⟨Ao7, co7, eo7⟩ := Kd.R_slice HO636.out; subst eo7))
  go_loopg [4, 5] k (fun kq v4 v5 w' => ∃ (x4_1 : List Int) (x5_1 : Int), v5 = .int .i64 x5_1 ∧ Aside0 (whetstoneref01_Text.l0 kq t634 x4_1 x5_1 = some r) ∧ Aside0 (kq ≤ k) ∧ Aside0 (Kd.R (Kd.int .i64) 3 w' w.heap.size (fun _ => True) (.slice Ao7 t634.length co7) t634) ∧ Aside0 (Kd.R (Kd.int .u8) 5 w' w.heap.size (fun _ => True) v4 x4_1) ∧ Aside0 (Below w.heap.size w w'))
  case atStart => exact ⟨(([] : List Int)), (wrap64 ((t634.length : Int) - 1)), (by first | rfl | (simp; done) | (simp [*]; done)), H', ⟨Nat.le_refl _⟩, ⟨tq HO636⟩, ⟨by first | exact Kd.R_nil _ _ _ _ _ | exact Kd.N_nil _ _ _ _ _ | exact Kd.V_nil _ _ _ _ _ | exact Kd.Q_nil _ _ _ _ _ | exact Kd.S_nil _ _ _ _ _⟩, ⟨tb HB⟩⟩
  case round =>
   clear H'
   (try clear p2); (try clear c3); (try clear c3b0); (try clear c3b1); (try clear c3b2); (try clear c5); (try clear c6); (try clear p6)
   obtain ⟨x4_1, x5_1, rfl, HA, HK1, HO_3, HO_4, HB⟩ := hrel
   cases gk with
   | zero => exact absurd HA.out (by simp [whetstoneref01_Text.l0])
   | succ k1 =>
    have H := HA.out
    clear HA
    simp only [whetstoneref01_Text.l0] at H
    by_cases c8 : x5_1 ≥ 0
    ·rw [if_pos c8] at H
     have c8b0 : decide (0 ≤ x5_1) = true := decide_eq_true c8
     clear c8
     by_cases c9 : 0 ≤ x5_1
     ·rw [if_pos c9] at H
      have c9b0 : decide (0 ≤ x5_1) = true := decide_eq_true c9
      clear c9
      by_cases c10 : x5_1 < (t634.length : Int)
      ·rw [if_pos c10] at H
       have c10b0 : decide (x5_1 < (t634.length : Int)) = true := decide_eq_true c10
       clear c10
       by_cases c11 : x4_1.length < 140737488355328
       ·rw [if_pos c11] at H
        have LMc11 := Aside0.mk c11
        clear c11
        obtain ⟨y638, hy638⟩ : ∃ y_ : List Int, y_ = (x4_1 ++ [(wrap64 (48 + (rd t634 x5_1))) % 256]) := ⟨_, rfl⟩
        replace H : (whetstoneref01_Text.l0 k1 t634 y638 (wrap64 (x5_1 - 1))) = some r := by first | (rw [hy638]; with_reducible exact H) | (have H2_ := (Option.bind_some _ _).symm.trans H; rw [hy638]; with_reducible exact H2_) | (have H2_ := (Option.bind_some _ _).symm.trans H; with_reducible exact H2_) | with_reducible exact H | (rw [hy638]; exact H) | exact H
        have Ny638 := Aside0.mk hy638
        clear hy638
        have H' := Aside0.mk H
        clear H
        have p637 : 0 ≤ (x5_1 : Int) := td
        have q637 : x5_1 < (t634.length : Int) := td
        obtain ⟨ad637, e637, hx637_0⟩ := Kd.at_int (Kd.R_reads' HO_3.out).2.2 x5_1 p637 q637
        cases e637
        replace p637 := eq_true p637
        replace q637 := eq_true q637
        go_wp2_with (first | ((with_reducible refine gate_builtin (b := .append) (xs := #[.tmp 18, .tmp 25]) rfl ?_); at_builtin; refine Kd.R_append (Kd.int .u8) (w0 := w) w.heap.size rfl (.tmp 18) (.tmp 25) 89 5 (.int .u8 0) 1 rfl Try.underlying89 info5 rfl (by decide) (by omega) u4 x4_1 ((wrap64 (48 + (rd t634 x5_1))) % 256) [.int .u8 ((wrap64 (48 + (rd t634 x5_1))) % 256)] (fun _ => True) (fun _ => False) rfl rfl ?aP (fun _ hk => hk.elim) ?aF ?aO ?aB ?aS ?aL ?_; (case aP => exact rfl); (case aB => exact (tb HB)); (case aF => exact (fun _ _ => trivial)); (case aO => exact (tq HO_4)); (case aS => exact (below_size (tb HB))); (case aL => have := LMc11.out; omega); intro v639 w12 ho hb hg hat; rw [← Ny638.out] at ho; replace HO_3 := Aside0.mk (Kd.R_over' (tq HO_3) (Kd.R_typed (tq HO_4)) (by decide) hg); replace HB := Aside0.mk (hb); have HO640 := Aside0.mk (ho); clear HO_4 ho hb hg hat))
        go_roundg k1
        case measure => have := HK1.out; omega
        case rel => exact ⟨(y638), (wrap64 (x5_1 - 1)), (by first | rfl | (simp; done) | (simp [*]; done)), H', ⟨by have := HK1.out; omega⟩, ⟨tq HO_3⟩, ⟨tq HO640⟩, ⟨tb HB⟩⟩
       ·rw [if_neg c11] at H
        exact absurd H (by simp)
      ·rw [if_neg c10] at H
       exact absurd H (by simp)
     ·rw [if_neg c9] at H
      exact absurd H (by simp)
    ·rw [if_neg c8] at H
     have c8b0 : decide (0 ≤ x5_1) = false := decide_eq_false c8
     clear c8
     obtain rfl := Option.some.inj H
     have hcv13 := own_string (P := Try.prog) Try.underlying89 Try.underlying5 Try.underlying9 (Kd.own_of_R HO_4.out); have hcvd13_ := fun m_ : Nat => own_string (P := Try.prog) Try.underlying89 Try.underlying5 Try.underlying9 (Kd.own_of_R (Kd.R_drewN HO_4.out m_))
     go_wp2
     go_ret
     exact ⟨by first | rfl | (simp [errW_none, errW_some] <;> rfl) | (simp [*, errW_none, errW_some] <;> rfl), tb HB⟩

/-! ### whetstoneref02_Text: function 17 -/
def whetstoneref02_Text.f (k : Nat) (a0_0 : Bool) (l0_1 : List Int) : Option (ByteArray) := (whetstoneref02_Sign.f k a0_0 l0_1).bind fun t642 => (if t642 < 0 then ((whetstoneref01_Text.f k l0_1).bind fun t643 => (if 1 + t643.size ≤ 9223372036854775807 then (some ((⟨#[45]⟩ : ByteArray) ++ t643)) else (none))) else ((whetstoneref01_Text.f k l0_1).bind fun t644 => (some t644)))
theorem whetstoneref02_Text.mono : ∀ a0 a1 k, LeO (whetstoneref02_Text.f k a0 a1) (whetstoneref02_Text.f (k + 1) a0 a1) := by
 intro a0 a1 k
 unfold whetstoneref02_Text.f
 repeat' with_reducible first | exact whetstoneref01_Text.mono _ _ | exact whetstoneref02_Sign.mono _ _ _ | exact LeO.refl _ | exact LeO.none _ | refine LeO.ite ?_ ?_ | refine LeO.bind ?_ (fun _ => ?_)
set_option maxHeartbeats 8000000 in
set_option maxRecDepth 100000 in
theorem whetstoneref02_Text.calls (k : Nat) (a0_0 : Bool) (A0_1 : Option Addr) (c0_1 : Nat) (l0_1 : List Int) (r : ByteArray) (w : World) (hr0_1 : Kd.C (Kd.int .i64) w A0_1 l0_1.length l0_1) (hc0_1 : l0_1.length ≤ c0_1) (h : whetstoneref02_Text.f k a0_0 l0_1 = some r) :
  Calls Try.prog 17 #[.agg #[.bool a0_0, .slice A0_1 l0_1.length c0_1]] w fun e w' => e = .returned (.string r) ∧ Below w.heap.size w w' := by
 have hu32 := Try.underlying32
 have HR0_1 := Aside0.mk hr0_1
 have HC0_1 := Aside0.mk hc0_1
 clear hr0_1 hc0_1
 have HB := Aside0.mk (Below.refl w.heap.size w)
 have H : ((whetstoneref02_Sign.f k a0_0 l0_1).bind fun t642 => (if t642 < 0 then ((whetstoneref01_Text.f k l0_1).bind fun t643 => (if 1 + t643.size ≤ 9223372036854775807 then (some ((⟨#[45]⟩ : ByteArray) ++ t643)) else (none))) else ((whetstoneref01_Text.f k l0_1).bind fun t644 => (some t644)))) = some r := h
 clear h
 replace H := bi H
 obtain ⟨t642, A20, H⟩ := H
 have A2 := Aside0.mk A20
 clear A20
 by_cases c3 : t642 < 0
 ·rw [if_pos c3] at H
  have c3b0 : decide (t642 < 0) = true := decide_eq_true c3
  clear c3
  replace H := bi H
  obtain ⟨t643, A40, H⟩ := H
  have A4 := Aside0.mk A40
  clear A40
  by_cases c5 : 1 + t643.size ≤ 9223372036854775807
  ·rw [if_pos c5] at H
   have c5b0 := eq_true c5
   have c5b1 : decide (1 + t643.size ≤ 9223372036854775807) = true := decide_eq_true c5
   try have c5b2 : (9223372036854775807 < 1 + t643.size) = False := eq_false (Nat.not_lt.2 c5)
   obtain rfl := Option.some.inj H
   go_enter Try.func17, Try.ntmps17
   go_wp2_with (first | ((with_reducible refine gate_dst (N := 1) rfl ?_); refine bx (N := 1) #[.bool a0_0, .slice A0_1 l0_1.length c0_1] 32 ?_; intro gb641 hg w6 hbox hb; have BK641 := Aside0.mk (hbox); have GW641 := bz hg HB; have GE641 := bz hg HB; replace HB := bs HB hb; clear hb hbox hg; have hcz7_0 := bc BK641 0 (.bool a0_0); have hcz7_1 := bc BK641 1 (.slice A0_1 l0_1.length c0_1); have hfz7_0 := blk_frozen BK641.out 0; have hfz7_1 := blk_frozen BK641.out 1) | ((with_reducible refine gate_callee (f := 27) rfl ?_); refine gL (N := some 4) Try.func27 #[.agg #[.bool a0_0, .slice A0_1 l0_1.length c0_1]] ?_; (with_reducible refine (whetstoneref02_Sign.calls k a0_0 _ _ l0_1 t642 _ ?side1 ?side2 A2.out).mono ?_); (case side1 => exact tc (Kd.C_below HR0_1.out HB.out)); (case side2 => exact HC0_1.out); rintro e w8 ⟨rfl, hb⟩; refine ⟨_, rfl, ?_⟩; replace BK641 := kb BK641 hb; replace HB := bs HB hb; (try clear hb); (try clear hb2); (try clear hk); (try clear hi); have hcz9_0 := bc BK641 0 (.bool a0_0); have hcz9_1 := bc BK641 1 (.slice A0_1 l0_1.length c0_1); have hfz9_0 := blk_frozen BK641.out 0; have hfz9_1 := blk_frozen BK641.out 1) | ((with_reducible refine gate_callee (f := 56) rfl ?_); refine gL (N := some 8) Try.func56 #[.slice A0_1 l0_1.length c0_1] ?_; (with_reducible refine (whetstoneref01_Text.calls k _ _ l0_1 t643 _ ?side1 ?side2 A4.out).mono ?_); (case side1 => exact tc (Kd.C_below HR0_1.out HB.out)); (case side2 => exact HC0_1.out); rintro e w10 ⟨rfl, hb⟩; refine ⟨_, rfl, ?_⟩; replace HB := bs HB hb; (try clear hb); (try clear hb2); (try clear hk); (try clear hi)))
   go_ret
   exact ⟨by first | rfl | (simp [errW_none, errW_some] <;> rfl) | (simp [*, errW_none, errW_some] <;> rfl), tb HB⟩
  ·rw [if_neg c5] at H
   exact absurd H (by simp)
 ·rw [if_neg c3] at H
  have c3b0 : decide (t642 < 0) = false := decide_eq_false c3
  clear c3
  replace H := bi H
  obtain ⟨t644, A110, H⟩ := H
  have A11 := Aside0.mk A110
  clear A110
  obtain rfl := Option.some.inj H
  go_enter Try.func17, Try.ntmps17
  go_wp2_with (first | ((with_reducible refine gate_dst (N := 1) rfl ?_); refine bx (N := 1) #[.bool a0_0, .slice A0_1 l0_1.length c0_1] 32 ?_; intro gb641 hg w12 hbox hb; have BK641 := Aside0.mk (hbox); have GW641 := bz hg HB; have GE641 := bz hg HB; replace HB := bs HB hb; clear hb hbox hg; have hcz13_0 := bc BK641 0 (.bool a0_0); have hcz13_1 := bc BK641 1 (.slice A0_1 l0_1.length c0_1); have hfz13_0 := blk_frozen BK641.out 0; have hfz13_1 := blk_frozen BK641.out 1) | ((with_reducible refine gate_callee (f := 27) rfl ?_); refine gL (N := some 4) Try.func27 #[.agg #[.bool a0_0, .slice A0_1 l0_1.length c0_1]] ?_; (with_reducible refine (whetstoneref02_Sign.calls k a0_0 _ _ l0_1 t642 _ ?side1 ?side2 A2.out).mono ?_); (case side1 => exact tc (Kd.C_below HR0_1.out HB.out)); (case side2 => exact HC0_1.out); rintro e w14 ⟨rfl, hb⟩; refine ⟨_, rfl, ?_⟩; replace BK641 := kb BK641 hb; replace HB := bs HB hb; (try clear hb); (try clear hb2); (try clear hk); (try clear hi); have hcz15_0 := bc BK641 0 (.bool a0_0); have hcz15_1 := bc BK641 1 (.slice A0_1 l0_1.length c0_1); have hfz15_0 := blk_frozen BK641.out 0; have hfz15_1 := blk_frozen BK641.out 1) | ((with_reducible refine gate_callee (f := 56) rfl ?_); refine gL (N := some 12) Try.func56 #[.slice A0_1 l0_1.length c0_1] ?_; (with_reducible refine (whetstoneref01_Text.calls k _ _ l0_1 t644 _ ?side1 ?side2 A11.out).mono ?_); (case side1 => exact tc (Kd.C_below HR0_1.out HB.out)); (case side2 => exact HC0_1.out); rintro e w16 ⟨rfl, hb⟩; refine ⟨_, rfl, ?_⟩; replace HB := bs HB hb; (try clear hb); (try clear hb2); (try clear hk); (try clear hi)))
  go_ret
  exact ⟨by first | rfl | (simp [errW_none, errW_some] <;> rfl) | (simp [*, errW_none, errW_some] <;> rfl), tb HB⟩

end Go.Proofs.Ytjpnaapimnoamaa.QBigTexts
