-- written by wip/wprint, a program of this session
import Derived.Test.YtkbefeadmchmbaaQBigQuotientsx0
import Derived.Test.YtkbefeadmchmbaaQBigQuotientsx1
import Derived.Test.YtkbefeadmchmbaaQBigQuotientsx3
import Derived.Test.YtkbefeadmchmbaaQBigQuotientsx5
import Derived.Test.YtkbefeadmchmbaaQBigQuotientsx9
import Derived.Test.YtkbefeadmchmbaaQBigQuotientsx14
namespace Go.Proofs.Ytkbefeadmchmbaa.QBigQuotients
open Go.RowKit Go.Proofs.YtkbefeadmchmbaaW.PrintWords Go.Proofs.YtkbefeadmchmbaaW.PrintLast Go.Proofs.YtkbefeadmchmbaaW.PrintMore
open Go.Proofs.YtkbefeadmchmbaaW.PrintWords.Kd renaming R_alloc → qa, R_drewN → qn, R_drew → qd, V_alloc → va, V_drewN → vn, V_drew → vd
open Go.Proofs.YtkbefeadmchmbaaW.PrintWords renaming below_alloc → ba, pw_below_drewN → bn, below_drew1 → bd
attribute [local go_sem] max2_int min2_int max_two min_two max_three min_three max_four min_four   -- for this text's walks alone
set_option linter.unusedVariables false
set_option linter.unusedSimpArgs false

/-! ### big_Parse: function 15 -/
mutual
def big_Parse.j0 : Nat → ByteArray → Bool → Option (Bool × List Int × Int)
 | 0, _, _ => none
 | k + 1, x0, x4 => if x4 = true then (if 1 ≤ (x0.size : Int) then (big_Parse.j1 k (x0.extract 1 x0.size) x4) else (none)) else (big_Parse.j1 k x0 x4)
def big_Parse.j1 : Nat → ByteArray → Bool → Option (Bool × List Int × Int)
 | 0, _, _ => none
 | k + 1, x0, x4 => (nat_Parse.f k x0).bind fun bt513 => (if bt513.2 = 0 then (if x4 = true then (if (bt513.1.length : Int) = 0 then (some (false, ([] : List Int), 6)) else ((big_norm.f k x4 bt513.1).bind fun bt517 => (some (bt517.1, bt517.2, 0)))) else ((big_norm.f k x4 bt513.1).bind fun bt521 => (some (bt521.1, bt521.2, 0)))) else (some (false, ([] : List Int), 6)))
end
def big_Parse.f (k : Nat) (a0 : ByteArray) : Option (Bool × List Int × Int) := if (a0.size : Int) > 0 then (if 0 < (a0.size : Int) then (big_Parse.j0 k a0 ((bt a0 0) == 45)) else (none)) else (big_Parse.j0 k a0 false)
theorem big_Parse.mono_l : ∀ k, (∀ y0 y1, LeO (big_Parse.j0 k y0 y1) (big_Parse.j0 (k + 1) y0 y1)) ∧ (∀ y0 y1, LeO (big_Parse.j1 k y0 y1) (big_Parse.j1 (k + 1) y0 y1))
 | 0 => ⟨fun _ _ r h => by simp [big_Parse.j0] at h, fun _ _ r h => by simp [big_Parse.j1] at h⟩
 | k + 1 => by
  obtain ⟨ih0, ih1⟩ := big_Parse.mono_l k; refine ⟨?_, ?_⟩
  ·intro y0 y1
   unfold big_Parse.j0
   repeat' with_reducible first | exact ih0 _ _ | exact ih1 _ _ | exact big_norm.mono _ _ _ | exact nat_Parse.mono _ _ | exact LeO.refl _ | exact LeO.none _ | refine LeO.ite ?_ ?_ | refine LeO.bind ?_ (fun _ => ?_)
  ·intro y0 y1
   unfold big_Parse.j1
   repeat' with_reducible first | exact ih0 _ _ | exact ih1 _ _ | exact big_norm.mono _ _ _ | exact nat_Parse.mono _ _ | exact LeO.refl _ | exact LeO.none _ | refine LeO.ite ?_ ?_ | refine LeO.bind ?_ (fun _ => ?_)
theorem big_Parse.mono : ∀ a0 k, LeO (big_Parse.f k a0) (big_Parse.f (k + 1) a0) := by
 intro a0 k; obtain ⟨ih0, ih1⟩ := big_Parse.mono_l k
 unfold big_Parse.f
 repeat' with_reducible first | exact ih0 _ _ | exact ih1 _ _ | exact big_norm.mono _ _ _ | exact nat_Parse.mono _ _ | exact LeO.refl _ | exact LeO.none _ | refine LeO.ite ?_ ?_ | refine LeO.bind ?_ (fun _ => ?_)
set_option maxHeartbeats 8000000 in
set_option maxRecDepth 100000 in
theorem big_Parse.calls (k : Nat) (a0 : ByteArray) (r1 : Bool) (r2 : List Int) (r3 : Int) (w : World) (h : big_Parse.f k a0 = some (r1, r2, r3)) :
  Calls Try.prog 15 #[.string a0] w fun e w' => ∃ v1_ : Value, e = .returned (.tuple #[.agg #[.bool r1, v1_], .int .i64 r3]) ∧ Kd.R (Kd.int .u32) 70 w' w.heap.size (fun _ => True) v1_ r2 ∧ Below w.heap.size w w' := by
 have hu24 := Try.underlying24; have HB := Aside0.mk (Below.refl w.heap.size w); have H : (if (a0.size : Int) > 0 then (if 0 < (a0.size : Int) then (big_Parse.j0 k a0 ((bt a0 0) == 45)) else (none)) else (big_Parse.j0 k a0 false)) = some (r1, r2, r3) := h; clear h; have HC2 := Aside0.mk H; clear H
 go_enter Try.func15, Try.ntmps15
 go_upto_region 1 with (first | ((with_reducible refine gate_dst (N := 2) rfl ?_); (try (refine gate_guard (by rfl) ?_; dsimp only)); refine bx (N := 2) #[.bool false, .slice none 0 0] 24 ?_; intro gb512 hg w3 hbox hb; have BK512 := Aside0.mk (hbox); have GW512 := bz hg HB; have GE512 := bz hg HB; replace HB := bs HB hb; clear hb hbox hg))
 (try simp only [Act.put, List.setIfInBounds_toArray, List.set_cons_zero, List.set_cons_succ])
 go_cut [4] from 1 to 0 (fun v4 wc => ∃ (kq : Nat) (x4_1 : Bool), v4 = .bool x4_1 ∧ Aside0 (big_Parse.j0 kq a0 x4_1 = some (r1, r2, r3)) ∧ Aside0 (kq ≤ k) ∧ Aside0 (wc.heap[gb512]? = some (.cells #[.bool false, (.slice none 0 0)] 24 (0, 0))) ∧ Aside0 (Below w.heap.size w wc))
 case first =>
  have H := HC2.out; clear HC2
  by_cases c4 : (a0.size : Int) > 0
  ·rw [if_pos c4] at H
   have c4b0 : decide (0 < (a0.size : Int)) = true := decide_eq_true c4; have c4b1 : decide (0 < a0.size) = true := decide_eq_true (by omega); clear c4; (first | rw [c4b0] | rw [c4b1] | (simp only [i64_w, i32_w]; rw [c4b0]) | skip)
   by_cases c5 : 0 < (a0.size : Int)
   ·rw [if_pos c5] at H
    have c5b0 : decide (0 < (a0.size : Int)) = true := decide_eq_true c5; have c5b1 : decide (0 < a0.size) = true := decide_eq_true (by omega); clear c5; have H' := Aside0.mk H; clear H; have p6 : 0 ≤ (0 : Int) := (by omega); have q6 : 0 < a0.size := (by have : (0 : Int) < (a0.size : Int) := td; omega); have hx6 : ∀ h : 0 < a0.size, ((a0[0]'h).toNat : Int) = bt a0 0 := bt_at a0 0; clear p6; have qi6 : (0 < (a0.size : Int)) = True := eq_true (td); replace q6 := eq_true q6
    go_wp2
    go_meet
    case rel => exact ⟨_, (((bt a0 0) == 45)), (by first | rfl | (simp; done) | (simp [*]; done)), H', ⟨by first | omega | exact Nat.le_refl _⟩, ⟨tk BK512⟩, ⟨tb HB⟩⟩
   ·rw [if_neg c5] at H
    exact absurd H (by simp)
  ·rw [if_neg c4] at H
   have c4b0 : decide (0 < (a0.size : Int)) = false := decide_eq_false c4; have c4b1 : decide (0 < a0.size) = false := decide_eq_false (by omega); clear c4; (first | rw [c4b0] | rw [c4b1] | (simp only [i64_w, i32_w]; rw [c4b0]) | skip); have H' := Aside0.mk H; clear H
   go_wp2
   go_meet
   case rel => exact ⟨_, (false), (by first | rfl | (simp; done) | (simp [*]; done)), H', ⟨by first | omega | exact Nat.le_refl _⟩, ⟨tk BK512⟩, ⟨tb HB⟩⟩
 case rest =>
  clear HC2; (try clear c1); (try clear p2); (try clear c4); (try clear c4b0); (try clear c4b1); (try clear c5); (try clear c5b0); (try clear c5b1); (try clear p6); (try clear q6); (try clear hx6); (try clear qi6); (try clear p6); (try clear q6); obtain ⟨kq, x4_1, rfl, HA, HJ1, BK512, HB⟩ := hcut
  cases kq with
  | zero => exact absurd HA.out (by simp [big_Parse.j0])
  | succ kj1 =>
   have H := HA.out; clear HA; simp only [big_Parse.j0] at H; have HC7 := Aside0.mk H; clear H
   go_upto_if 15 with (fail)
   go_cut [0] from 15 to 15 (fun v0 wc => ∃ (kq : Nat) (x0_6 : ByteArray), v0 = .string x0_6 ∧ Aside0 (big_Parse.j1 kq x0_6 x4_1 = some (r1, r2, r3)) ∧ Aside0 (kq ≤ kj1) ∧ Aside0 (wc.heap[gb512]? = some (.cells #[.bool false, (.slice none 0 0)] 24 (0, 0))) ∧ Aside0 (Below w.heap.size w wc))
   case first =>
    have H := HC7.out; clear HC7
    by_cases c8 : x4_1 = true
    ·subst c8
     have H1 : (if 1 ≤ (a0.size : Int) then (big_Parse.j1 kj1 (a0.extract 1 a0.size) true) else (none)) = some (r1, r2, r3) := by rw [if_pos rfl] at H; exact H
     clear H; have H := H1; clear H1
     by_cases c9 : 1 ≤ (a0.size : Int)
     ·rw [if_pos c9] at H
      have c9b0 := eq_true c9; have c9b1 : decide (1 ≤ (a0.size : Int)) = true := decide_eq_true c9; clear c9; have H' := Aside0.mk H; clear H
      go_wp2
      go_meet
      case rel => exact ⟨_, (a0.extract 1 a0.size), (by first | rfl | (simp; done) | (simp [*]; done)), H', ⟨by have := HJ1.out; first | omega | exact Nat.le_refl _⟩, ⟨tk BK512⟩, ⟨tb HB⟩⟩
     ·rw [if_neg c9] at H
      exact absurd H (by simp)
    ·replace c8 := Bool.eq_false_iff.mpr c8
     subst c8
     have H1 : (big_Parse.j1 kj1 a0 false) = some (r1, r2, r3) := by rw [if_neg (show ¬ (false = true) by decide)] at H; exact H
     clear H; have H := H1; clear H1; have H' := Aside0.mk H; clear H
     go_wp2
     go_meet
     case rel => exact ⟨_, (a0), (by first | rfl | (simp; done) | (simp [*]; done)), H', ⟨by have := HJ1.out; first | omega | exact Nat.le_refl _⟩, ⟨tk BK512⟩, ⟨tb HB⟩⟩
   case rest =>
    clear HC7; (try clear c1); (try clear p2); (try clear c4); (try clear c4b0); (try clear c4b1); (try clear c5); (try clear c5b0); (try clear c5b1); (try clear p6); (try clear q6); (try clear hx6); (try clear qi6); (try clear c8); (try clear c9); (try clear c9b0); (try clear c9b1); (try clear p2); (try clear p6); (try clear q6); obtain ⟨kq, x0_6, rfl, HA, HJ6, BK512, HB⟩ := hcut
    cases kq with
    | zero => exact absurd HA.out (by simp [big_Parse.j1])
    | succ kj6 =>
     have H := HA.out; clear HA; simp only [big_Parse.j1] at H; replace H := bi H; obtain ⟨⟨t513, t516⟩, A100, H⟩ := H
     try dsimp only at H
     have A10 := Aside0.mk A100; clear A100
     by_cases c11 : t516 = 0
     ·rw [if_pos c11] at H
      have c11b0 : (t516 == 0) = true := beq_iff_eq.mpr c11; have c11b1 : (t516 != 0) = false := bne_eq_false_iff_eq.mpr c11; clear c11
      by_cases c12 : x4_1 = true
      ·subst c12
       have H1 : (if (t513.length : Int) = 0 then (some (false, ([] : List Int), 6)) else ((big_norm.f kj6 true t513).bind fun bt517 => (some (bt517.1, bt517.2, 0)))) = some (r1, r2, r3) := by rw [if_pos rfl] at H; exact H
       clear H; have H := H1; clear H1
       by_cases c13 : (t513.length : Int) = 0
       ·rw [if_pos c13] at H
        have c13b0 : ((t513.length : Int) == 0) = true := beq_iff_eq.mpr c13; have c13b1 : ((t513.length : Int) != 0) = false := bne_eq_false_iff_eq.mpr c13; clear c13; simp only [Option.some.injEq, Prod.mk.injEq] at H; obtain ⟨rfl, rfl, rfl⟩ := H
        go_wp2_with (first | ((with_reducible refine gate_callee (f := 36) rfl ?_); refine gL (N := some 20) Try.func36 #[.string x0_6] ?_; (with_reducible refine (nat_Parse.calls kj6 x0_6 t513 t516 _ A10.out).mono ?_); rintro e w14 ⟨v514, rfl, ho0, hb⟩; refine ⟨_, rfl, ?_⟩; have HO515 := Aside0.mk (Kd.V_lower (Kd.V_mono (ok' := fun k_ => k_ ≠ gb512) ho0 (fun k_ hk_ => (Kd.freshB (g := gb512) (o := .cells #[.bool false, .slice none 0 0] 24 (0, 0)) (tk BK512) k_ hk_))) (below_size (tb HB))); replace BK512 := kb BK512 hb; replace HB := bs HB hb; (try clear hb); (try clear ho0); obtain ⟨Ao15, co15, eo15⟩ := Kd.V_slice HO515.out; subst eo15; obtain ⟨hcz16_0, hcz16_1, hfz16_0, hfz16_1⟩ := b2 BK512))
        refine bodyPost_ret (results_ct rfl _ _ gb512 24 #[.bool false, .slice none 0 0] (0, 0) _ rfl (tk BK512) Try.underlying24 rfl (by kernel_rfl)) rfl ?_; exact ⟨_, ee, by first | exact Kd.R_nil _ _ _ _ _ | exact Kd.N_nil _ _ _ _ _ | exact Kd.V_nil _ _ _ _ _ | exact Kd.Q_nil _ _ _ _ _ | exact Kd.S_nil _ _ _ _ _, tb HB⟩
       ·rw [if_neg c13] at H
        have c13b0 : ((t513.length : Int) == 0) = false := beq_eq_false_iff_ne.mpr c13; have c13b1 : ((t513.length : Int) != 0) = true := bne_iff_ne.mpr c13; have c13b2 : ¬ (t513 = []) := fun h_ => c13 (by rw [h_]; rfl); replace H := bi H; obtain ⟨⟨t517, t518⟩, A170, H⟩ := H
        try dsimp only at H
        have A17 := Aside0.mk A170; clear A170; simp only [Option.some.injEq, Prod.mk.injEq] at H; obtain ⟨rfl, rfl, rfl⟩ := H
        go_wp2_with (first | ((with_reducible refine gate_callee (f := 36) rfl ?_); refine gL (N := some 20) Try.func36 #[.string x0_6] ?_; (with_reducible refine (nat_Parse.calls kj6 x0_6 t513 t516 _ A10.out).mono ?_); rintro e w18 ⟨v514, rfl, ho0, hb⟩; refine ⟨_, rfl, ?_⟩; have HO515 := Aside0.mk (Kd.V_lower (Kd.V_mono (ok' := fun k_ => k_ ≠ gb512) ho0 (fun k_ hk_ => (Kd.freshB (g := gb512) (o := .cells #[.bool false, .slice none 0 0] 24 (0, 0)) (tk BK512) k_ hk_))) (below_size (tb HB))); replace BK512 := kb BK512 hb; replace HB := bs HB hb; (try clear hb); (try clear ho0); obtain ⟨Ao19, co19, eo19⟩ := Kd.V_slice HO515.out; subst eo19) | ((with_reducible refine gate_callee (f := 19) rfl ?_); refine gL (N := some 36) Try.func19 #[.bool true, .slice Ao19 t513.length co19] ?_; (with_reducible refine (big_norm.calls kj6 true _ _ t513 t517 t518 _ ?side1 ?side2 A17.out).mono ?_); (case side1 => exact tc (Kd.V_reads' HO515.out).2.2); (case side2 => exact (Kd.V_reads' HO515.out).2.1); rintro e w20 ⟨v519, rfl, ho0, hb⟩; refine ⟨_, rfl, ?_⟩; have HO520 := rl ho0 HB; replace BK512 := kb BK512 hb; replace HB := bs HB hb; (try clear hb); (try clear ho0); obtain ⟨hcz21_0, hcz21_1, hfz21_0, hfz21_1⟩ := b2 BK512; obtain ⟨Ao22, co22, eo22⟩ := Kd.R_slice HO520.out; subst eo22))
        refine bodyPost_ret (results_ct rfl _ _ gb512 24 #[.bool t517, .slice Ao22 t518.length co22] (0, 0) _ rfl (tk BK512) Try.underlying24 rfl (by kernel_rfl)) rfl ?_; exact ⟨_, ee, by (with_reducible repeat first | apply qa | apply qn | apply qd); exact Kd.R_mono (Kd.R_far (p := ⟨gb512, 1, none⟩) (Kd.R_far (p := ⟨gb512, 0, none⟩) (Kd.R_types HO520.out BK512.out (by decide)) (fun _ hk => hk.2) (.bool t517)) (fun _ hk => hk.2) (.slice Ao22 t518.length co22)) (fun _ hk => trivial), tb HB⟩
      ·replace c12 := Bool.eq_false_iff.mpr c12
       subst c12
       have H1 : ((big_norm.f kj6 false t513).bind fun bt521 => (some (bt521.1, bt521.2, 0))) = some (r1, r2, r3) := by rw [if_neg (show ¬ (false = true) by decide)] at H; exact H
       clear H; have H := H1; clear H1; replace H := bi H; obtain ⟨⟨t521, t522⟩, A230, H⟩ := H
       try dsimp only at H
       have A23 := Aside0.mk A230; clear A230; simp only [Option.some.injEq, Prod.mk.injEq] at H; obtain ⟨rfl, rfl, rfl⟩ := H
       go_wp2_with (first | ((with_reducible refine gate_callee (f := 36) rfl ?_); refine gL (N := some 20) Try.func36 #[.string x0_6] ?_; (with_reducible refine (nat_Parse.calls kj6 x0_6 t513 t516 _ A10.out).mono ?_); rintro e w24 ⟨v514, rfl, ho0, hb⟩; refine ⟨_, rfl, ?_⟩; have HO515 := Aside0.mk (Kd.V_lower (Kd.V_mono (ok' := fun k_ => k_ ≠ gb512) ho0 (fun k_ hk_ => (Kd.freshB (g := gb512) (o := .cells #[.bool false, .slice none 0 0] 24 (0, 0)) (tk BK512) k_ hk_))) (below_size (tb HB))); replace BK512 := kb BK512 hb; replace HB := bs HB hb; (try clear hb); (try clear ho0); obtain ⟨Ao25, co25, eo25⟩ := Kd.V_slice HO515.out; subst eo25) | ((with_reducible refine gate_callee (f := 19) rfl ?_); refine gL (N := some 36) Try.func19 #[.bool false, .slice Ao25 t513.length co25] ?_; (with_reducible refine (big_norm.calls kj6 false _ _ t513 t521 t522 _ ?side1 ?side2 A23.out).mono ?_); (case side1 => exact tc (Kd.V_reads' HO515.out).2.2); (case side2 => exact (Kd.V_reads' HO515.out).2.1); rintro e w26 ⟨v523, rfl, ho0, hb⟩; refine ⟨_, rfl, ?_⟩; have HO524 := rl ho0 HB; replace BK512 := kb BK512 hb; replace HB := bs HB hb; (try clear hb); (try clear ho0); obtain ⟨hcz27_0, hcz27_1, hfz27_0, hfz27_1⟩ := b2 BK512; obtain ⟨Ao28, co28, eo28⟩ := Kd.R_slice HO524.out; subst eo28))
       refine bodyPost_ret (results_ct rfl _ _ gb512 24 #[.bool t521, .slice Ao28 t522.length co28] (0, 0) _ rfl (tk BK512) Try.underlying24 rfl (by kernel_rfl)) rfl ?_; exact ⟨_, ee, by (with_reducible repeat first | apply qa | apply qn | apply qd); exact Kd.R_mono (Kd.R_far (p := ⟨gb512, 1, none⟩) (Kd.R_far (p := ⟨gb512, 0, none⟩) (Kd.R_types HO524.out BK512.out (by decide)) (fun _ hk => hk.2) (.bool t521)) (fun _ hk => hk.2) (.slice Ao28 t522.length co28)) (fun _ hk => trivial), tb HB⟩
     ·rw [if_neg c11] at H
      have c11b0 : (t516 == 0) = false := beq_eq_false_iff_ne.mpr c11; have c11b1 : (t516 != 0) = true := bne_iff_ne.mpr c11; simp only [Option.some.injEq, Prod.mk.injEq] at H; obtain ⟨rfl, rfl, rfl⟩ := H
      go_wp2_with (first | ((with_reducible refine gate_callee (f := 36) rfl ?_); refine gL (N := some 20) Try.func36 #[.string x0_6] ?_; (with_reducible refine (nat_Parse.calls kj6 x0_6 t513 t516 _ A10.out).mono ?_); rintro e w29 ⟨v514, rfl, ho0, hb⟩; refine ⟨_, rfl, ?_⟩; replace BK512 := kb BK512 hb; replace HB := bs HB hb; (try clear hb); (try clear ho0); obtain ⟨hcz30_0, hcz30_1, hfz30_0, hfz30_1⟩ := b2 BK512))
      refine bodyPost_ret (results_ct rfl _ _ gb512 24 #[.bool false, .slice none 0 0] (0, 0) _ rfl (tk BK512) Try.underlying24 rfl (by kernel_rfl)) rfl ?_; exact ⟨_, ee, by first | exact Kd.R_nil _ _ _ _ _ | exact Kd.N_nil _ _ _ _ _ | exact Kd.V_nil _ _ _ _ _ | exact Kd.Q_nil _ _ _ _ _ | exact Kd.S_nil _ _ _ _ _, tb HB⟩

/-! ### whetstoneref02_Of: function 16 -/
def whetstoneref02_Of.f (k : Nat) (a0 : Int) : Option (Bool × List Int) := if a0 < 0 then ((whetstoneref01_Small.f k (IntKind.u64.wrap (wrap64 (-(wrap64 (a0 + 1)))))).bind fun t526 => ((whetstoneref01_Small.f k 1).bind fun t529 => ((whetstoneref01_Add.f k t526 t529).bind fun t532 => ((whetstoneref02_Norm.f k true t532).bind fun bt535 => (some (bt535.1, bt535.2)))))) else ((whetstoneref01_Small.f k (IntKind.u64.wrap (a0))).bind fun t539 => ((whetstoneref02_Norm.f k false t539).bind fun bt542 => (some (bt542.1, bt542.2))))
theorem whetstoneref02_Of.mono : ∀ a0 k, LeO (whetstoneref02_Of.f k a0) (whetstoneref02_Of.f (k + 1) a0) := by
 intro a0 k
 unfold whetstoneref02_Of.f
 repeat' with_reducible first | exact whetstoneref01_Add.mono _ _ _ | exact whetstoneref01_Small.mono _ _ | exact whetstoneref02_Norm.mono _ _ _ | exact LeO.refl _ | exact LeO.none _ | refine LeO.ite ?_ ?_ | refine LeO.bind ?_ (fun _ => ?_)
set_option maxHeartbeats 8000000 in
set_option maxRecDepth 100000 in
theorem whetstoneref02_Of.calls (k : Nat) (a0 : Int) (r1 : Bool) (r2 : List Int) (w : World) (h : whetstoneref02_Of.f k a0 = some (r1, r2)) :
  Calls Try.prog 16 #[.int .i64 a0] w fun e w' => ∃ v1_ : Value, e = .returned (.agg #[.bool r1, v1_]) ∧ Kd.R (Kd.int .i64) 3 w' w.heap.size (fun _ => True) v1_ r2 ∧ Below w.heap.size w w' := by
 have hu32 := Try.underlying32; have HB := Aside0.mk (Below.refl w.heap.size w); have H : (if a0 < 0 then ((whetstoneref01_Small.f k (IntKind.u64.wrap (wrap64 (-(wrap64 (a0 + 1)))))).bind fun t526 => ((whetstoneref01_Small.f k 1).bind fun t529 => ((whetstoneref01_Add.f k t526 t529).bind fun t532 => ((whetstoneref02_Norm.f k true t532).bind fun bt535 => (some (bt535.1, bt535.2)))))) else ((whetstoneref01_Small.f k (IntKind.u64.wrap (a0))).bind fun t539 => ((whetstoneref02_Norm.f k false t539).bind fun bt542 => (some (bt542.1, bt542.2))))) = some (r1, r2) := h; clear h
 by_cases c2 : a0 < 0
 ·rw [if_pos c2] at H
  have c2b0 : decide (a0 < 0) = true := decide_eq_true c2; clear c2; replace H := bi H; obtain ⟨t526, A30, H⟩ := H; have A3 := Aside0.mk A30; clear A30; replace H := bi H; obtain ⟨t529, A40, H⟩ := H; have A4 := Aside0.mk A40; clear A40; replace H := bi H; obtain ⟨t532, A50, H⟩ := H; have A5 := Aside0.mk A50; clear A50; replace H := bi H; obtain ⟨⟨t535, t536⟩, A60, H⟩ := H
  try dsimp only at H
  have A6 := Aside0.mk A60; clear A60; simp only [Option.some.injEq, Prod.mk.injEq] at H; obtain ⟨rfl, rfl⟩ := H
  go_enter Try.func16, Try.ntmps16
  go_wp2_with (first | ((with_reducible refine gate_dst (N := 2) rfl ?_); refine bx (N := 2) #[.bool false, .slice none 0 0] 32 ?_; intro gb525 hg w7 hbox hb; have BK525 := Aside0.mk (hbox); have GW525 := bz hg HB; have GE525 := bz hg HB; replace HB := bs HB hb; clear hb hbox hg) | ((with_reducible refine gate_callee (f := 38) rfl ?_); refine gL (N := some 9) Try.func38 #[.int .u64 (IntKind.u64.wrap (wrap64 (-(wrap64 (a0 + 1)))))] ?_; (with_reducible refine (whetstoneref01_Small.calls k (IntKind.u64.wrap (wrap64 (-(wrap64 (a0 + 1))))) t526 _ A3.out).mono ?_); rintro e w8 ⟨v527, rfl, ho0, hb⟩; refine ⟨_, rfl, ?_⟩; have HO528 := rl ho0 HB; replace BK525 := kb BK525 hb; replace HB := bs HB hb; (try clear hb); (try clear ho0)) | ((with_reducible refine gate_callee (f := 38) rfl ?_); refine gL (N := some 10) Try.func38 #[.int .u64 1] ?_; (with_reducible refine (whetstoneref01_Small.calls k 1 t529 _ A4.out).mono ?_); rintro e w9 ⟨v530, rfl, ho0, hb⟩; refine ⟨_, rfl, ?_⟩; have HO531 := rl (rn ho0 HO528) HB; replace HO528 := re HO528 (Kd.R_base ho0) hb; replace BK525 := kb BK525 hb; replace HB := bs HB hb; (try clear hb); (try clear ho0); obtain ⟨Ao10, co10, eo10⟩ := Kd.R_slice HO528.out; subst eo10; obtain ⟨Ao11, co11, eo11⟩ := Kd.R_slice HO531.out; subst eo11) | ((with_reducible refine gate_callee (f := 37) rfl ?_); refine gL (N := some 11) Try.func37 #[.slice Ao10 t526.length co10, .slice Ao11 t529.length co11] ?_; (with_reducible refine (whetstoneref01_Add.calls k _ _ t526 _ _ t529 t532 _ ?side1 ?side2 ?side3 ?side4 A5.out).mono ?_); (case side1 => exact tc (Kd.R_reads' HO528.out).2.2); (case side2 => exact (Kd.R_reads' HO528.out).2.1); (case side3 => exact tc (Kd.R_reads' HO531.out).2.2); (case side4 => exact (Kd.R_reads' HO531.out).2.1); rintro e w12 ⟨v533, rfl, ho0, hb⟩; refine ⟨_, rfl, ?_⟩; have HO534 := rl (rn (rn ho0 HO528) HO531) HB; replace HO528 := re HO528 (Kd.R_base ho0) hb; replace HO531 := re HO531 (Kd.R_base ho0) hb; replace BK525 := kb BK525 hb; replace HB := bs HB hb; (try clear hb); (try clear ho0); obtain ⟨Ao13, co13, eo13⟩ := Kd.R_slice HO534.out; subst eo13) | ((with_reducible refine gate_callee (f := 27) rfl ?_); refine gL (N := some 13) Try.func27 #[.agg #[.bool true, .slice Ao13 t532.length co13]] ?_; (with_reducible refine (whetstoneref02_Norm.calls k true _ _ t532 t535 t536 _ ?side1 ?side2 A6.out).mono ?_); (case side1 => exact tc (Kd.R_reads' HO534.out).2.2); (case side2 => exact (Kd.R_reads' HO534.out).2.1); rintro e w14 ⟨v537, rfl, ho0, hb⟩; refine ⟨_, rfl, ?_⟩; have HO538 := rl (rn (rn (rn ho0 HO528) HO531) HO534) HB; replace BK525 := kb BK525 hb; replace HB := bs HB hb; (try clear hb); (try clear ho0); obtain ⟨hcz15_0, hcz15_1, hfz15_0, hfz15_1⟩ := b2 BK525; obtain ⟨Ao16, co16, eo16⟩ := Kd.R_slice HO538.out; subst eo16))
  refine bodyPost_ret (results_cell_row rfl _ _ gb525 32 #[.bool t535, .slice Ao16 t536.length co16] (0, 0) _ rfl (tk BK525) Try.underlying32 rfl (by kernel_rfl)) rfl ?_; exact ⟨_, ee, by (with_reducible repeat first | apply qa | apply qn | apply qd); exact Kd.R_mono (Kd.R_far (p := ⟨gb525, 1, none⟩) (Kd.R_far (p := ⟨gb525, 0, none⟩) (Kd.R_types HO538.out BK525.out (by decide)) (fun _ hk => hk.2) (.bool t535)) (fun _ hk => hk.2) (.slice Ao16 t536.length co16)) (fun _ hk => trivial), tb HB⟩
 ·rw [if_neg c2] at H
  have c2b0 : decide (a0 < 0) = false := decide_eq_false c2; clear c2; replace H := bi H; obtain ⟨t539, A170, H⟩ := H; have A17 := Aside0.mk A170; clear A170; replace H := bi H; obtain ⟨⟨t542, t543⟩, A180, H⟩ := H
  try dsimp only at H
  have A18 := Aside0.mk A180; clear A180; simp only [Option.some.injEq, Prod.mk.injEq] at H; obtain ⟨rfl, rfl⟩ := H
  go_enter Try.func16, Try.ntmps16
  go_wp2_with (first | ((with_reducible refine gate_dst (N := 2) rfl ?_); refine bx (N := 2) #[.bool false, .slice none 0 0] 32 ?_; intro gb525 hg w19 hbox hb; have BK525 := Aside0.mk (hbox); have GW525 := bz hg HB; have GE525 := bz hg HB; replace HB := bs HB hb; clear hb hbox hg) | ((with_reducible refine gate_callee (f := 38) rfl ?_); refine gL (N := some 16) Try.func38 #[.int .u64 (IntKind.u64.wrap (a0))] ?_; (with_reducible refine (whetstoneref01_Small.calls k (IntKind.u64.wrap (a0)) t539 _ A17.out).mono ?_); rintro e w20 ⟨v540, rfl, ho0, hb⟩; refine ⟨_, rfl, ?_⟩; have HO541 := rl ho0 HB; replace BK525 := kb BK525 hb; replace HB := bs HB hb; (try clear hb); (try clear ho0); obtain ⟨Ao21, co21, eo21⟩ := Kd.R_slice HO541.out; subst eo21) | ((with_reducible refine gate_callee (f := 27) rfl ?_); refine gL (N := some 18) Try.func27 #[.agg #[.bool false, .slice Ao21 t539.length co21]] ?_; (with_reducible refine (whetstoneref02_Norm.calls k false _ _ t539 t542 t543 _ ?side1 ?side2 A18.out).mono ?_); (case side1 => exact tc (Kd.R_reads' HO541.out).2.2); (case side2 => exact (Kd.R_reads' HO541.out).2.1); rintro e w22 ⟨v544, rfl, ho0, hb⟩; refine ⟨_, rfl, ?_⟩; have HO545 := rl (rn ho0 HO541) HB; replace BK525 := kb BK525 hb; replace HB := bs HB hb; (try clear hb); (try clear ho0); obtain ⟨hcz23_0, hcz23_1, hfz23_0, hfz23_1⟩ := b2 BK525; obtain ⟨Ao24, co24, eo24⟩ := Kd.R_slice HO545.out; subst eo24))
  refine bodyPost_ret (results_cell_row rfl _ _ gb525 32 #[.bool t542, .slice Ao24 t543.length co24] (0, 0) _ rfl (tk BK525) Try.underlying32 rfl (by kernel_rfl)) rfl ?_; exact ⟨_, ee, by (with_reducible repeat first | apply qa | apply qn | apply qd); exact Kd.R_mono (Kd.R_far (p := ⟨gb525, 1, none⟩) (Kd.R_far (p := ⟨gb525, 0, none⟩) (Kd.R_types HO545.out BK525.out (by decide)) (fun _ hk => hk.2) (.bool t542)) (fun _ hk => hk.2) (.slice Ao24 t543.length co24)) (fun _ hk => trivial), tb HB⟩

/-! ### nat_Text: function 39 -/
mutual
def nat_Text.l0 : Nat → List Int → List Int → Option (ByteArray)
 | 0, _, _ => none
 | k + 1, x3, x4 => if (x3.length : Int) > 0 then ((nat_short.f k x3 10).bind fun bt549 => (if x4.length < 140737488355328 then (nat_Text.l0 k bt549.1 (x4 ++ [(48 + bt549.2) % 256])) else (none))) else (nat_Text.l1 k x4 0 (wrap64 ((x4.length : Int) - 1)))
def nat_Text.l1 : Nat → List Int → Int → Int → Option (ByteArray)
 | 0, _, _, _ => none
 | k + 1, x4, x6, x7 => if x6 < x7 then (if 0 ≤ x7 then (if x7 < (x4.length : Int) then (if 0 ≤ x6 then (if x6 < (x4.length : Int) then (nat_Text.l1 k ((x4.set (x6 : Int).toNat (rd x4 x7)).set (x7 : Int).toNat (rd x4 x6)) (wrap64 (x6 + 1)) (wrap64 (x7 - 1))) else (none)) else (none)) else (none)) else (none)) else (some (strOfNums x4))
end
def nat_Text.f (k : Nat) (l0 : List Int) : Option (ByteArray) := (nat_Norm.f k l0).bind fun t546 => (if (t546.length : Int) = 0 then (some (⟨#[48]⟩ : ByteArray)) else (nat_Text.l0 k t546 ([] : List Int)))
theorem nat_Text.mono_l : ∀ k, (∀ y0 y1, LeO (nat_Text.l0 k y0 y1) (nat_Text.l0 (k + 1) y0 y1)) ∧ (∀ y0 y1 y2, LeO (nat_Text.l1 k y0 y1 y2) (nat_Text.l1 (k + 1) y0 y1 y2))
 | 0 => ⟨fun _ _ r h => by simp [nat_Text.l0] at h, fun _ _ _ r h => by simp [nat_Text.l1] at h⟩
 | k + 1 => by
  obtain ⟨ih0, ih1⟩ := nat_Text.mono_l k; refine ⟨?_, ?_⟩
  ·intro y0 y1
   unfold nat_Text.l0
   repeat' with_reducible first | exact ih0 _ _ | exact ih1 _ _ _ | exact nat_Norm.mono _ _ | exact nat_short.mono _ _ _ | exact LeO.refl _ | exact LeO.none _ | refine LeO.ite ?_ ?_ | refine LeO.bind ?_ (fun _ => ?_)
  ·intro y0 y1 y2
   unfold nat_Text.l1
   repeat' with_reducible first | exact ih0 _ _ | exact ih1 _ _ _ | exact nat_Norm.mono _ _ | exact nat_short.mono _ _ _ | exact LeO.refl _ | exact LeO.none _ | refine LeO.ite ?_ ?_ | refine LeO.bind ?_ (fun _ => ?_)
theorem nat_Text.mono : ∀ a0 k, LeO (nat_Text.f k a0) (nat_Text.f (k + 1) a0) := by
 intro a0 k; obtain ⟨ih0, ih1⟩ := nat_Text.mono_l k
 unfold nat_Text.f
 repeat' with_reducible first | exact ih0 _ _ | exact ih1 _ _ _ | exact nat_Norm.mono _ _ | exact nat_short.mono _ _ _ | exact LeO.refl _ | exact LeO.none _ | refine LeO.ite ?_ ?_ | refine LeO.bind ?_ (fun _ => ?_)
def nat_Text.T12 : Bool × List (List Nat × List Nat) := (true, [([], []), ([], []), ([], []), ([], []), ([], []), ([], []), ([4, 5], [4, 5]), ([6], [6]), ([], []), ([], []), ([8, 9], [8, 9]), ([10], [10]), ([0, 1, 0, 1, 4, 5, 6, 7, 11], [0, 1]), ([12, 7, 0, 1, 4, 5, 6, 7, 11], [7, 12]), ([2, 3, 0, 1, 2, 3, 4, 5, 6, 7, 8, 9, 10, 11, 12, 13], [2, 3]), ([14, 11, 13, 0, 1, 2, 3, 4, 5, 6, 7, 8, 9, 10, 11, 12, 13], [11, 14])])
def nat_Text.B12 : List Nat := [0, 0, 0, 0, 0, 0, 48, 112, 0, 0, 768, 1792, 4083, 8179, 16383, 32767]
theorem nat_Text.tab12 : rtab .any (opsOf Try.f39 12) = nat_Text.T12 := by kernel_rfl
theorem nat_Text.bits12 : waitsOk nat_Text.T12.2 nat_Text.B12 = true := by kernel_rfl
set_option maxHeartbeats 8000000 in
set_option maxRecDepth 100000 in
theorem nat_Text.calls (k : Nat) (A0 : Option Addr) (c0 : Nat) (l0 : List Int) (r : ByteArray) (w : World) (hr0 : Kd.C (Kd.int .u32) w A0 l0.length l0) (hc0 : l0.length ≤ c0) (h : nat_Text.f k l0 = some r) :
  Calls Try.prog 39 #[.slice A0 l0.length c0] w fun e w' => e = .returned (.string r) ∧ Below w.heap.size w w' := by
 have HR0 := Aside0.mk hr0; have HC0 := Aside0.mk hc0; clear hr0 hc0; have HB := Aside0.mk (Below.refl w.heap.size w); have H : ((nat_Norm.f k l0).bind fun t546 => (if (t546.length : Int) = 0 then (some (⟨#[48]⟩ : ByteArray)) else (nat_Text.l0 k t546 ([] : List Int)))) = some r := h; clear h; replace H := bi H; obtain ⟨t546, A20, H⟩ := H; have A2 := Aside0.mk A20; clear A20
 by_cases c3 : (t546.length : Int) = 0
 ·rw [if_pos c3] at H
  have c3b0 : ((t546.length : Int) == 0) = true := beq_iff_eq.mpr c3; have c3b1 : ((t546.length : Int) != 0) = false := bne_eq_false_iff_eq.mpr c3; clear c3; obtain rfl := Option.some.inj H
  go_enter Try.func39, Try.ntmps39
  go_wp2_with (first | ((with_reducible refine gate_callee (f := 42) rfl ?_); refine gL (N := some 9) Try.func42 #[.slice A0 l0.length c0] ?_; (with_reducible refine (nat_Norm.calls k _ _ l0 t546 _ ?side1 ?side2 A2.out).mono ?_); (case side1 => repeat (first | exact HR0.out | (with_reducible refine Kd.C_alloc ?_ _) | (with_reducible refine Kd.C_drewN ?_ _) | (with_reducible refine Kd.C_drew ?_))); (case side2 => exact HC0.out); rintro e w4 ⟨v547, rfl, ho0, hb⟩; refine ⟨_, rfl, ?_⟩; have HO548 := rl ho0 HB; replace HB := bs HB hb; (try clear hb); (try clear ho0); obtain ⟨Ao5, co5, eo5⟩ := Kd.R_slice HO548.out; subst eo5))
  go_ret
  exact ⟨ee, tb HB⟩
 ·rw [if_neg c3] at H
  have c3b0 : ((t546.length : Int) == 0) = false := beq_eq_false_iff_ne.mpr c3; have c3b1 : ((t546.length : Int) != 0) = true := bne_iff_ne.mpr c3; have c3b2 : ¬ (t546 = []) := fun h_ => c3 (by rw [h_]; rfl); have H' := Aside0.mk H; clear H
  go_enter Try.func39, Try.ntmps39
  go_wp2_with (first | ((with_reducible refine gate_callee (f := 42) rfl ?_); refine gL (N := some 9) Try.func42 #[.slice A0 l0.length c0] ?_; (with_reducible refine (nat_Norm.calls k _ _ l0 t546 _ ?side1 ?side2 A2.out).mono ?_); (case side1 => repeat (first | exact HR0.out | (with_reducible refine Kd.C_alloc ?_ _) | (with_reducible refine Kd.C_drewN ?_ _) | (with_reducible refine Kd.C_drew ?_))); (case side2 => exact HC0.out); rintro e w6 ⟨v547, rfl, ho0, hb⟩; refine ⟨_, rfl, ?_⟩; have HO548 := rl ho0 HB; replace HB := bs HB hb; (try clear hb); (try clear ho0); obtain ⟨Ao7, co7, eo7⟩ := Kd.R_slice HO548.out; subst eo7))
  go_loopg [3, 4] k (fun kq v3 v4 w' => ∃ (x3_1 : List Int) (x4_1 : List Int), Aside0 (nat_Text.l0 kq x3_1 x4_1 = some r) ∧ Aside0 (kq ≤ k) ∧ Aside0 (Kd.V (Kd.int .u32) 70 w' w.heap.size (fun k_ => some k_ ≠ (v4 : Value).ownBlock) v3 x3_1) ∧ Aside0 (Kd.R (Kd.int .u8) 5 w' w.heap.size (fun _ => True) v4 x4_1) ∧ Aside0 (Below w.heap.size w w'))
  case atStart => exact ⟨(t546), (([] : List Int)), H', ⟨Nat.le_refl _⟩, ⟨Kd.R_V (by (with_reducible repeat first | apply qa | apply qn | apply qd); exact Kd.R_mono HO548.out (fun _ hk => (by simp [Value.ownBlock])))⟩, ⟨by first | exact Kd.R_nil _ _ _ _ _ | exact Kd.N_nil _ _ _ _ _ | exact Kd.V_nil _ _ _ _ _ | exact Kd.Q_nil _ _ _ _ _ | exact Kd.S_nil _ _ _ _ _⟩, ⟨tb HB⟩⟩
  case round =>
   clear H'; (try clear p2); (try clear c3); (try clear c3b0); (try clear c3b1); (try clear c3b2); (try clear c4); obtain ⟨x3_1, x4_1, HA, HK1, HO_3, HO_4, HB⟩ := hrel
   cases gk with
   | zero => exact absurd HA.out (by simp [nat_Text.l0])
   | succ k1 =>
    have H := HA.out; clear HA; simp only [nat_Text.l0] at H
    by_cases c8 : (x3_1.length : Int) > 0
    ·rw [if_pos c8] at H
     have c8b0 : decide (0 < (x3_1.length : Int)) = true := decide_eq_true c8; have c8b1 : decide (0 < x3_1.length) = true := decide_eq_true (by omega); clear c8; replace H := bi H; obtain ⟨⟨t549, t552⟩, A90, H⟩ := H
     try dsimp only at H
     have A9 := Aside0.mk A90; clear A90
     by_cases c10 : x4_1.length < 140737488355328
     ·rw [if_pos c10] at H
      have LMc10 := Aside0.mk c10; clear c10; obtain ⟨y553, hy553⟩ : ∃ y_ : List Int, y_ = (x4_1 ++ [(48 + t552) % 256]) := ⟨_, rfl⟩; replace H : (nat_Text.l0 k1 t549 y553) = some r := ti hy553 H; have Ny553 := Aside0.mk hy553; clear hy553; have H' := Aside0.mk H; clear H; obtain ⟨Ao11, co11, eo11⟩ := Kd.V_slice HO_3.out; subst eo11
      go_wp2_with (first | ((with_reducible refine gate_callee (f := 43) rfl ?_); refine gL (N := some 18) Try.func43 #[.slice Ao11 x3_1.length co11, .int .u32 10] ?_; (with_reducible refine (nat_short.calls k1 _ _ x3_1 10 t549 t552 _ ?side1 ?side2 A9.out).mono ?_); (case side1 => exact tc (Kd.V_reads' HO_3.out).2.2); (case side2 => exact (Kd.V_reads' HO_3.out).2.1); rintro e w12 ⟨v550, rfl, ho0, hb⟩; refine ⟨_, rfl, ?_⟩; have HO551 := Aside0.mk (Kd.V_lower (Kd.V_mono (ok' := fun k_ => some k_ ≠ (u4 : Value).ownBlock) ho0 (fun k_ hk_ => (Kd.fresh' (Kd.R_lt (tq HO_4)) k_ hk_))) (below_size (tb HB))); replace HO_4 := rb HO_4 hb; replace HB := bs HB hb; (try clear hb); (try clear ho0)) | ((with_reducible refine gate_builtin (b := .append) (xs := #[.tmp 21, .tmp 25]) rfl ?_); at_builtin; refine Kd.R_append (Kd.int .u8) (w0 := w) w.heap.size rfl (.tmp 21) (.tmp 25) 86 5 (.int .u8 0) 1 rfl Try.underlying86 info5 rfl (by decide) (by omega) u4 x4_1 ((48 + t552) % 256) [.int .u8 ((48 + t552) % 256)] (fun _ => True) (fun _ => False) rfl rfl ?aP (fun _ hk => hk.elim) ?aF ?aO ?aB ?aS ?aL ?_; (case aP => exact rfl); (case aB => exact (tb HB)); (case aF => exact (fun _ _ => trivial)); (case aO => exact (tq HO_4)); (case aS => exact (below_size (tb HB))); (case aL => have := LMc10.out; omega); intro v554 w13 ho hb hg hat; rw [← Ny553.out] at ho; replace HO551 := Aside0.mk (Kd.V_afterv (ok := (fun _ => True)) (by (with_reducible repeat first | apply va | apply vn | apply vd); exact Kd.V_mono HO551.out (fun _ hk => ⟨trivial, hk⟩)) hg hat); replace HB := Aside0.mk (hb); have HO555 := Aside0.mk (ho); clear HO_4 ho hb hg hat))
      go_roundg k1
      case measure => have := HK1.out; omega
      case rel => exact ⟨(t549), (y553), H', ⟨by have := HK1.out; omega⟩, ⟨by (with_reducible repeat first | apply va | apply vn | apply vd); exact Kd.V_mono HO551.out (fun _ hk => hk.2)⟩, ⟨tq HO555⟩, ⟨tb HB⟩⟩
     ·rw [if_neg c10] at H
      exact absurd H (by simp)
    ·rw [if_neg c8] at H
     have c8b0 : decide (0 < (x3_1.length : Int)) = false := decide_eq_false c8; have c8b1 : decide (0 < x3_1.length) = false := decide_eq_false (by omega); clear c8; have H' := Aside0.mk H; clear H; obtain ⟨Ao14, co14, eo14⟩ := Kd.V_slice HO_3.out; subst eo14; obtain ⟨Ao15, co15, eo15⟩ := Kd.R_slice HO_4.out; subst eo15
     go_wp2
     go_loopg [6, 7] k1 (fun kq v6 v7 w' => ∃ (x4_2 : List Int) (x6_2 : Int) (x7_2 : Int), v6 = .int .i64 x6_2 ∧ v7 = .int .i64 x7_2 ∧ Aside0 (nat_Text.l1 kq x4_2 x6_2 x7_2 = some r) ∧ Aside0 (kq ≤ k1) ∧ Aside0 (Kd.R (Kd.int .u8) 5 w' w.heap.size (fun _ => True) (.slice Ao15 x4_1.length co15) x4_2) ∧ Aside0 (Below w.heap.size w w'))
     case atStart => exact ⟨(x4_1), (0), (wrap64 ((x4_1.length : Int) - 1)), (by first | rfl | (simp; done) | (simp [*]; done)), (by first | rfl | (simp; done) | (simp [*]; done)), H', ⟨Nat.le_refl _⟩, ⟨tq HO_4⟩, ⟨tb HB⟩⟩
     case round =>
      clear H'; (try clear c1); (try clear p2); (try clear c3); (try clear c3b0); (try clear c3b1); (try clear c3b2); (try clear c4); (try clear p6); (try clear c8); (try clear c8b0); (try clear c8b1); (try clear c10); (try clear p2); obtain ⟨x4_2, x6_2, x7_2, rfl, rfl, HA, HK2, HO_4, HB⟩ := hrel; have hl4_2 := (Kd.R_reads' HO_4.out).1; rw [hl4_2] at HO_4; (try simp only [hl4_2])
      cases gk with
      | zero => exact absurd HA.out (by simp [nat_Text.l1])
      | succ k2 =>
       have H := HA.out; clear HA; simp only [nat_Text.l1] at H
       by_cases c16 : x6_2 < x7_2
       ·rw [if_pos c16] at H
        have c16b0 : decide (x6_2 < x7_2) = true := decide_eq_true c16; clear c16
        by_cases c17 : 0 ≤ x7_2
        ·rw [if_pos c17] at H
         have c17b0 : decide (0 ≤ x7_2) = true := decide_eq_true c17; clear c17
         by_cases c18 : x7_2 < (x4_2.length : Int)
         ·rw [if_pos c18] at H
          have c18b0 : decide (x7_2 < (x4_2.length : Int)) = true := decide_eq_true c18; clear c18
          by_cases c19 : 0 ≤ x6_2
          ·rw [if_pos c19] at H
           have c19b0 : decide (0 ≤ x6_2) = true := decide_eq_true c19; clear c19
           by_cases c20 : x6_2 < (x4_2.length : Int)
           ·rw [if_pos c20] at H
            have c20b0 : decide (x6_2 < (x4_2.length : Int)) = true := decide_eq_true c20; clear c20; obtain ⟨y558, hy558⟩ : ∃ y_ : List Int, y_ = (x4_2.set (x6_2 : Int).toNat (rd x4_2 x7_2)) := ⟨_, rfl⟩; replace H : (nat_Text.l1 k2 (y558.set (x7_2 : Int).toNat (rd x4_2 x6_2)) (wrap64 (x6_2 + 1)) (wrap64 (x7_2 - 1))) = some r := ti hy558 H; have Ny558 := Aside0.mk hy558; clear hy558; obtain ⟨y559, hy559⟩ : ∃ y_ : List Int, y_ = (y558.set (x7_2 : Int).toNat (rd x4_2 x6_2)) := ⟨_, rfl⟩; replace H : (nat_Text.l1 k2 y559 (wrap64 (x6_2 + 1)) (wrap64 (x7_2 - 1))) = some r := ti hy559 H; have Ny559 := Aside0.mk hy559; clear hy559; have H' := Aside0.mk H; clear H
            try go_wp2
            replace HO_4 := Aside0.mk (Kd.R_drew HO_4.out); replace HB := Aside0.mk (below_drew1 HB.out); have p556 : 0 ≤ (x7_2 : Int) := td; have q556 : x7_2 < (x4_2.length : Int) := td; obtain ⟨ad556, e556, hx556_0⟩ := Kd.at_int (Kd.R_reads' HO_4.out).2.2 x7_2 p556 q556
            cases e556
            replace p556 := eq_true p556; replace q556 := eq_true q556; have p557 : 0 ≤ (x6_2 : Int) := td; have q557 : x6_2 < (x4_2.length : Int) := td; obtain ⟨ad557, e557, hx557_0⟩ := Kd.at_int (Kd.R_reads' HO_4.out).2.2 x6_2 p557 q557; obtain rfl : ad556 = ad557 := (by injection e557); replace p557 := eq_true p557; replace q557 := eq_true q557; have p21 : 0 ≤ (x6_2 : Int) := td; have q21 : (x6_2 : Int) < ((x4_2.length : Int) : Int) := td; obtain ⟨go21, co21, eo21, gb21, gl21, cl21, HG21⟩ := Kd.R_form HO_4.out (by omega); (first | cases eo21 | (injection eo21 with ea_ en_ ec_; (first | subst ea_ | (injection ea_ with ea_; subst ea_)); subst ec_; clear en_)); have GB21 := Aside0.mk gb21; have GG21 := Aside0.mk HG21; clear gb21 gl21 HG21; (first | simp only [add_plain] at hx556_0 | skip); (first | simp only [add_plain] at hx557_0 | skip); obtain ⟨hx21_0, hf21_0⟩ := Kd.R_celln 0 HO_4.out (x6_2 : Int) p21 q21; replace p21 := eq_true p21; replace q21 := eq_true q21; have HP24 := Kd.R_putn HO_4.out (x6_2 : Int) (rd x4_2 x7_2); rw [← Ny558.out] at HP24; have HQ24 := Aside0.mk HP24; clear HP24; have p22 : 0 ≤ (x7_2 : Int) := td; have q22 : (x7_2 : Int) < ((x4_2.length : Int) : Int) := td; obtain ⟨hx22_0, hf22_0⟩ := Kd.R_celln 0 HQ24.out (x7_2 : Int) p22 q22; replace p22 := eq_true p22; replace q22 := eq_true q22; have HP25 := Kd.R_putn HQ24.out (x7_2 : Int) (rd x4_2 x6_2); rw [← Ny559.out] at HP25; have HQ25 := Aside0.mk HP25; clear HP25; refine start_ (n := 16) (S := fun w' => w'.cell? ⟨go21, (x7_2).toNat, none⟩ = some (.int .u8 (rd x4_2 x7_2)) ∧ w'.cell? ⟨go21, (x6_2).toNat, none⟩ = some (.int .u8 (rd x4_2 x6_2))) (ds := [13, 15]) #[false, false, false, false, false, false, false, false, false, false, false, false, false, false, false, false] (by kernel_rfl) rfl rfl ⟨hx556_0, hx557_0⟩ (fun hHeld => ?_); refine with_tabW nat_Text.tab12 nat_Text.bits12 (fun HT_ HW_ => ?_); generalize wr.drew = w23 at HB GG21 HQ24 HQ25 hf21_0 hf22_0 hx21_0 hx22_0 hx556_0 hx557_0 hHeld ⊢; refine pT (i := 0) (N := some 37) (bb 16 1) HT_ ?_; refine pT (i := 1) (N := some 38) (bb 16 3) HT_ ?_; refine pT (i := 2) (N := some 39) (bb 16 7) HT_ ?_; refine pT (i := 3) (N := some 40) (bb 16 15) HT_ ?_; refine pT (i := 4) (N := some 41) (bb 16 31) HT_ ?_; refine pT (i := 5) (N := some 42) (bb 16 63) HT_ ?_; refine pT (i := 6) (N := some 43) (bb 16 127) HT_ ?_; refine pT (i := 8) (N := some 45) (bb 16 383) HT_ ?_; refine pT (i := 9) (N := some 46) (bb 16 895) HT_ ?_; refine pT (i := 10) (N := some 47) (bb 16 1919) HT_ ?_; refine tW (i := 7) (N := some 44) (bb 16 2047) HT_ HW_ hHeld ?_; refine tW (i := 11) (N := some 48) (bb 16 4095) HT_ HW_ hHeld ?_; refine pT (i := 12) (N := some 49) (bb 16 8191) HT_ ?_; refine last_ (i := 13) (N := none) #[true, true, true, true, true, true, true, true, true, true, true, true, true, true, false, false] rfl rfl (one_of HT_.out (by kernel_rfl)) (by decide) (fun K hK => ?_); refine skip_ (w1 := ?_) (by rfl) rfl ?_ ?_; rotate_left
            ·go_simp
             rfl
            refine hK.out _ _ ?_; clear hK K; refine pT (i := 14) (N := some 50) (bb 16 32767) HT_ ?_; refine last_ (i := 15) (N := none) #[true, true, true, true, true, true, true, true, true, true, true, true, true, true, true, true] rfl rfl (one_of HT_.out (by kernel_rfl)) (by decide) (fun K hK => ?_); refine skip_ (w1 := ?_) (by rfl) rfl ?_ ?_; rotate_left
            ·go_simp
             rfl
            refine hK.out _ _ ?_; clear hK K; refine done_ (done_of HT_.out (by kernel_rfl)) ?_
            try go_wp2
            (try simp only [← hl4_2])
            go_roundg k2
            case measure => have := HK1.out; have := HK2.out; omega
            case rel => exact ⟨(y559), (wrap64 (x6_2 + 1)), (wrap64 (x7_2 - 1)), (by first | rfl | (simp; done) | (simp [*]; done)), (by first | rfl | (simp; done) | (simp [*]; done)), H', ⟨by have := HK1.out; have := HK2.out; omega⟩, ⟨by (try simp only [hl4_2]); (with_reducible repeat first | apply qa | apply qn | apply qd); exact HQ25.out⟩, ⟨by repeat (first | (with_reducible first | exact HB.out | apply ba | apply bn | apply bd | refine below_set ?_ GB21.out | refine below_set ?_ GB21.out) | exact HB.out)⟩⟩
           ·rw [if_neg c20] at H
            exact absurd H (by simp)
          ·rw [if_neg c19] at H
           exact absurd H (by simp)
         ·rw [if_neg c18] at H
          exact absurd H (by simp)
        ·rw [if_neg c17] at H
         exact absurd H (by simp)
       ·rw [if_neg c16] at H
        have c16b0 : decide (x6_2 < x7_2) = false := decide_eq_false c16; clear c16; obtain rfl := Option.some.inj H; have hcv26 := own_string (P := Try.prog) Try.underlying86 Try.underlying5 Try.underlying9 (Kd.own_of_R HO_4.out); have hcvd26_ := fun m_ : Nat => own_string (P := Try.prog) Try.underlying86 Try.underlying5 Try.underlying9 (Kd.own_of_R (Kd.R_drewN HO_4.out m_))
        go_wp2
        go_ret
        exact ⟨ee, tb HB⟩

/-! ### big_Text: function 17 -/
def big_Text.f (k : Nat) (a0_0 : Bool) (l0_1 : List Int) : Option (ByteArray) := (big_Sign.f k a0_0 l0_1).bind fun t561 => (if t561 < 0 then ((nat_Text.f k l0_1).bind fun t562 => (if 1 + t562.size ≤ 9223372036854775807 then (some ((⟨#[45]⟩ : ByteArray) ++ t562)) else (none))) else ((nat_Text.f k l0_1).bind fun t563 => (some t563)))
theorem big_Text.mono : ∀ a0 a1 k, LeO (big_Text.f k a0 a1) (big_Text.f (k + 1) a0 a1) := by
 intro a0 a1 k
 unfold big_Text.f
 repeat' with_reducible first | exact big_Sign.mono _ _ _ | exact nat_Text.mono _ _ | exact LeO.refl _ | exact LeO.none _ | refine LeO.ite ?_ ?_ | refine LeO.bind ?_ (fun _ => ?_)
set_option maxHeartbeats 8000000 in
set_option maxRecDepth 100000 in
theorem big_Text.calls (k : Nat) (a0_0 : Bool) (A0_1 : Option Addr) (c0_1 : Nat) (l0_1 : List Int) (r : ByteArray) (w : World) (hr0_1 : Kd.C (Kd.int .u32) w A0_1 l0_1.length l0_1) (hc0_1 : l0_1.length ≤ c0_1) (h : big_Text.f k a0_0 l0_1 = some r) :
  Calls Try.prog 17 #[.agg #[.bool a0_0, .slice A0_1 l0_1.length c0_1]] w fun e w' => e = .returned (.string r) ∧ Below w.heap.size w w' := by
 have hu24 := Try.underlying24; have HR0_1 := Aside0.mk hr0_1; have HC0_1 := Aside0.mk hc0_1; clear hr0_1 hc0_1; have HB := Aside0.mk (Below.refl w.heap.size w); have H : ((big_Sign.f k a0_0 l0_1).bind fun t561 => (if t561 < 0 then ((nat_Text.f k l0_1).bind fun t562 => (if 1 + t562.size ≤ 9223372036854775807 then (some ((⟨#[45]⟩ : ByteArray) ++ t562)) else (none))) else ((nat_Text.f k l0_1).bind fun t563 => (some t563)))) = some r := h; clear h; replace H := bi H; obtain ⟨t561, A20, H⟩ := H; have A2 := Aside0.mk A20; clear A20
 by_cases c3 : t561 < 0
 ·rw [if_pos c3] at H
  have c3b0 : decide (t561 < 0) = true := decide_eq_true c3; clear c3; replace H := bi H; obtain ⟨t562, A40, H⟩ := H; have A4 := Aside0.mk A40; clear A40
  by_cases c5 : 1 + t562.size ≤ 9223372036854775807
  ·rw [if_pos c5] at H
   have c5b0 := eq_true c5; have c5b1 : decide (1 + t562.size ≤ 9223372036854775807) = true := decide_eq_true c5
   try have c5b2 : (9223372036854775807 < 1 + t562.size) = False := eq_false (Nat.not_lt.2 c5)
   obtain rfl := Option.some.inj H
   go_enter Try.func17, Try.ntmps17
   go_wp2_with (first | ((with_reducible refine gate_dst (N := 1) rfl ?_); refine bx (N := 1) #[.bool a0_0, .slice A0_1 l0_1.length c0_1] 24 ?_; intro gb560 hg w6 hbox hb; have BK560 := Aside0.mk (hbox); have GW560 := bz hg HB; have GE560 := bz hg HB; replace HB := bs HB hb; clear hb hbox hg; obtain ⟨hcz7_0, hcz7_1, hfz7_0, hfz7_1⟩ := b2 BK560) | ((with_reducible refine gate_callee (f := 20) rfl ?_); refine gL (N := some 4) Try.func20 #[.agg #[.bool a0_0, .slice A0_1 l0_1.length c0_1]] ?_; (with_reducible refine (big_Sign.calls k a0_0 _ _ l0_1 t561 _ ?side1 ?side2 A2.out).mono ?_); (case side1 => exact tc (Kd.C_below HR0_1.out HB.out)); (case side2 => exact HC0_1.out); rintro e w8 ⟨rfl, hb⟩; refine ⟨_, rfl, ?_⟩; replace BK560 := kb BK560 hb; replace HB := bs HB hb; (try clear hb); obtain ⟨hcz9_0, hcz9_1, hfz9_0, hfz9_1⟩ := b2 BK560) | ((with_reducible refine gate_callee (f := 39) rfl ?_); refine gL (N := some 8) Try.func39 #[.slice A0_1 l0_1.length c0_1] ?_; (with_reducible refine (nat_Text.calls k _ _ l0_1 t562 _ ?side1 ?side2 A4.out).mono ?_); (case side1 => exact tc (Kd.C_below HR0_1.out HB.out)); (case side2 => exact HC0_1.out); rintro e w10 ⟨rfl, hb⟩; refine ⟨_, rfl, ?_⟩; replace HB := bs HB hb; (try clear hb)))
   go_ret
   exact ⟨ee, tb HB⟩
  ·rw [if_neg c5] at H
   exact absurd H (by simp)
 ·rw [if_neg c3] at H
  have c3b0 : decide (t561 < 0) = false := decide_eq_false c3; clear c3; replace H := bi H; obtain ⟨t563, A110, H⟩ := H; have A11 := Aside0.mk A110; clear A110; obtain rfl := Option.some.inj H
  go_enter Try.func17, Try.ntmps17
  go_wp2_with (first | ((with_reducible refine gate_dst (N := 1) rfl ?_); refine bx (N := 1) #[.bool a0_0, .slice A0_1 l0_1.length c0_1] 24 ?_; intro gb560 hg w12 hbox hb; have BK560 := Aside0.mk (hbox); have GW560 := bz hg HB; have GE560 := bz hg HB; replace HB := bs HB hb; clear hb hbox hg; obtain ⟨hcz13_0, hcz13_1, hfz13_0, hfz13_1⟩ := b2 BK560) | ((with_reducible refine gate_callee (f := 20) rfl ?_); refine gL (N := some 4) Try.func20 #[.agg #[.bool a0_0, .slice A0_1 l0_1.length c0_1]] ?_; (with_reducible refine (big_Sign.calls k a0_0 _ _ l0_1 t561 _ ?side1 ?side2 A2.out).mono ?_); (case side1 => exact tc (Kd.C_below HR0_1.out HB.out)); (case side2 => exact HC0_1.out); rintro e w14 ⟨rfl, hb⟩; refine ⟨_, rfl, ?_⟩; replace BK560 := kb BK560 hb; replace HB := bs HB hb; (try clear hb); obtain ⟨hcz15_0, hcz15_1, hfz15_0, hfz15_1⟩ := b2 BK560) | ((with_reducible refine gate_callee (f := 39) rfl ?_); refine gL (N := some 12) Try.func39 #[.slice A0_1 l0_1.length c0_1] ?_; (with_reducible refine (nat_Text.calls k _ _ l0_1 t563 _ ?side1 ?side2 A11.out).mono ?_); (case side1 => exact tc (Kd.C_below HR0_1.out HB.out)); (case side2 => exact HC0_1.out); rintro e w16 ⟨rfl, hb⟩; refine ⟨_, rfl, ?_⟩; replace HB := bs HB hb; (try clear hb)))
  go_ret
  exact ⟨ee, tb HB⟩

end Go.Proofs.Ytkbefeadmchmbaa.QBigQuotients
