-- written by wip/wprint, a program of this session
import Derived.Test.YtkbefeadmchmbaaQBigQuotientsx0
namespace Go.Proofs.Ytkbefeadmchmbaa.QBigQuotients
open Go.RowKit Go.Proofs.YtkbefeadmchmbaaW.PrintWords Go.Proofs.YtkbefeadmchmbaaW.PrintLast Go.Proofs.YtkbefeadmchmbaaW.PrintMore
open Go.Proofs.YtkbefeadmchmbaaW.PrintWords.Kd renaming R_alloc → qa, R_drewN → qn, R_drew → qd, V_alloc → va, V_drewN → vn, V_drew → vd
open Go.Proofs.YtkbefeadmchmbaaW.PrintWords renaming below_alloc → ba, pw_below_drewN → bn, below_drew1 → bd
attribute [local go_sem] max2_int min2_int max_two min_two max_three min_three max_four min_four   -- for this text's walks alone
set_option linter.unusedVariables false
set_option linter.unusedSimpArgs false

/-! ### whetstonelaw02_small: function 4 -/
def whetstonelaw02_small.f (a0_0 : Bool) (l0_1 : List Int) : Option (Bool) := some (decide ((l0_1.length : Int) ≤ 8))
set_option maxHeartbeats 8000000 in
set_option maxRecDepth 100000 in
theorem whetstonelaw02_small.calls (a0_0 : Bool) (A0_1 : Option Addr) (c0_1 : Nat) (l0_1 : List Int) (r : Bool) (w : World) (hr0_1 : Kd.C (Kd.int .u32) w A0_1 l0_1.length l0_1) (hc0_1 : l0_1.length ≤ c0_1) (h : whetstonelaw02_small.f a0_0 l0_1 = some r) :
  Calls Try.prog 4 #[.agg #[.bool a0_0, .slice A0_1 l0_1.length c0_1]] w fun e w' => e = .returned (.bool r) ∧ Below w.heap.size w w' := by
 have hu24 := Try.underlying24; have HR0_1 := Aside0.mk hr0_1; have HC0_1 := Aside0.mk hc0_1; clear hr0_1 hc0_1; have HB := Aside0.mk (Below.refl w.heap.size w); have H : (some (decide ((l0_1.length : Int) ≤ 8))) = some r := h; clear h; obtain rfl := Option.some.inj H
 go_enter Try.func4, Try.ntmps4
 go_wp2_with (first | ((with_reducible refine gate_dst (N := 1) rfl ?_); refine bx (N := 1) #[.bool a0_0, .slice A0_1 l0_1.length c0_1] 24 ?_; intro gb101 hg w2 hbox hb; have BK101 := Aside0.mk (hbox); have GW101 := bz hg HB; have GE101 := bz hg HB; replace HB := bs HB hb; clear hb hbox hg; obtain ⟨hcz3_0, hcz3_1, hfz3_0, hfz3_1⟩ := b2 BK101))
 go_ret
 exact ⟨ee, tb HB⟩

/-! ### nat_Norm: function 42 -/
def nat_Norm.l0 : Nat → List Int → Int → Option (List Int)
 | 0, _, _ => none
 | k + 1, x0, x3 => if x3 > 0 then (if 0 ≤ (wrap64 (x3 - 1)) then (if (wrap64 (x3 - 1)) < (x0.length : Int) then (if (rd x0 (wrap64 (x3 - 1))) = 0 then (nat_Norm.l0 k x0 (wrap64 (x3 - 1))) else (if 0 ≤ x3 then (if x3 ≤ (x0.length : Int) then (if ([] : List Int).length + (x0.take (x3 : Int).toNat).length < 35184372088832 then (some (([] : List Int) ++ (x0.take (x3 : Int).toNat))) else (none)) else (none)) else (none))) else (none)) else (none)) else (if 0 ≤ x3 then (if x3 ≤ (x0.length : Int) then (if ([] : List Int).length + (x0.take (x3 : Int).toNat).length < 35184372088832 then (some (([] : List Int) ++ (x0.take (x3 : Int).toNat))) else (none)) else (none)) else (none))
def nat_Norm.f (k : Nat) (l0 : List Int) : Option (List Int) := nat_Norm.l0 k l0 (l0.length : Int)
theorem nat_Norm.mono_l : ∀ k, (∀ y0 y1, LeO (nat_Norm.l0 k y0 y1) (nat_Norm.l0 (k + 1) y0 y1))
 | 0 => fun _ _ r h => by simp [nat_Norm.l0] at h
 | k + 1 => by
  have ih0 := nat_Norm.mono_l k
  ·intro y0 y1
   unfold nat_Norm.l0
   repeat' with_reducible first | exact ih0 _ _ | exact LeO.refl _ | exact LeO.none _ | refine LeO.ite ?_ ?_ | refine LeO.bind ?_ (fun _ => ?_)
theorem nat_Norm.mono : ∀ a0 k, LeO (nat_Norm.f k a0) (nat_Norm.f (k + 1) a0) := by
 intro a0 k; have ih0 := nat_Norm.mono_l k
 unfold nat_Norm.f
 repeat' with_reducible first | exact ih0 _ _ | exact LeO.refl _ | exact LeO.none _ | refine LeO.ite ?_ ?_ | refine LeO.bind ?_ (fun _ => ?_)
set_option maxHeartbeats 8000000 in
set_option maxRecDepth 100000 in
theorem nat_Norm.calls (k : Nat) (A0 : Option Addr) (c0 : Nat) (l0 : List Int) (r : List Int) (w : World) (hr0 : Kd.C (Kd.int .u32) w A0 l0.length l0) (hc0 : l0.length ≤ c0) (h : nat_Norm.f k l0 = some r) :
  Calls Try.prog 42 #[.slice A0 l0.length c0] w fun e w' => ∃ v0_ : Value, e = .returned (v0_) ∧ Kd.R (Kd.int .u32) 70 w' w.heap.size (fun _ => True) v0_ r ∧ Below w.heap.size w w' := by
 have HR0 := Aside0.mk hr0; have HC0 := Aside0.mk hc0; clear hr0 hc0; have HB := Aside0.mk (Below.refl w.heap.size w); have H : (nat_Norm.l0 k l0 (l0.length : Int)) = some r := h; clear h; have H' := Aside0.mk H; clear H
 go_enter Try.func42, Try.ntmps42
 go_wp2
 go_loopg [3] k (fun kq v3 w' => ∃ (x3_1 : Int), v3 = .int .i64 x3_1 ∧ Aside0 (nat_Norm.l0 kq l0 x3_1 = some r) ∧ Aside0 (kq ≤ k) ∧ Aside0 (Below w.heap.size w w'))
 case atStart => exact ⟨((l0.length : Int)), (by first | rfl | (simp; done) | (simp [*]; done)), H', ⟨Nat.le_refl _⟩, ⟨tb HB⟩⟩
 case round =>
  clear H'; obtain ⟨x3_1, rfl, HA, HK1, HB⟩ := hrel
  cases gk with
  | zero => exact absurd HA.out (by simp [nat_Norm.l0])
  | succ k1 =>
   have H := HA.out; clear HA; simp only [nat_Norm.l0] at H
   by_cases c2 : x3_1 > 0
   ·rw [if_pos c2] at H
    have c2b0 : decide (0 < x3_1) = true := decide_eq_true c2; clear c2; obtain ⟨ji3, hji3⟩ : ∃ j_ : Int, (wrap64 (x3_1 - 1)) = j_ := ⟨_, rfl⟩
    replace H : (if 0 ≤ (ji3) then (if (ji3) < (l0.length : Int) then (if (rd l0 (ji3)) = 0 then (nat_Norm.l0 k1 l0 ji3) else (if 0 ≤ x3_1 then (if x3_1 ≤ (l0.length : Int) then (if ([] : List Int).length + (l0.take (x3_1 : Int).toNat).length < 35184372088832 then (some (([] : List Int) ++ (l0.take (x3_1 : Int).toNat))) else (none)) else (none)) else (none))) else (none)) else (none)) = some r := by first | (rw [hji3] at H; exact H) | (simp only [hji3] at H ⊢; exact H)
    have hji3w : (IntKind.i64.wrap (x3_1 - 1)) = ji3 := (i64_w _).trans hji3
    by_cases c4 : 0 ≤ (ji3)
    ·rw [if_pos c4] at H
     have c4b0 : decide (0 ≤ (ji3)) = true := decide_eq_true c4; clear c4
     by_cases c5 : (ji3) < (l0.length : Int)
     ·rw [if_pos c5] at H
      have c5b0 : decide ((ji3) < (l0.length : Int)) = true := decide_eq_true c5; clear c5
      by_cases c6 : (rd l0 (ji3)) = 0
      ·rw [if_pos c6] at H
       have c6b0 : ((rd l0 (ji3)) == 0) = true := beq_iff_eq.mpr c6; have c6b1 : ((rd l0 (ji3)) != 0) = false := bne_eq_false_iff_eq.mpr c6; clear c6; have H' := Aside0.mk H; clear H; have p102 : 0 ≤ ((ji3) : Int) := td; have q102 : (ji3) < (l0.length : Int) := td; obtain ⟨ad102, e102, hx102_0⟩ := Kd.at_int HR0.out (ji3) p102 q102
       cases e102
       replace hx102_0 := (HB.out.cell (World.block_lt_of_cell? w _ hx102_0)).trans hx102_0; replace p102 := eq_true p102; replace q102 := eq_true q102
       go_wp2
       go_roundg k1
       case measure => have := HK1.out; omega
       case rel => exact ⟨(ji3), (by first | rfl | (simp; done) | (simp only [← hji3] <;> (first | rfl | simp)) | (simp [*]; done)), H', ⟨by have := HK1.out; omega⟩, ⟨tb HB⟩⟩
      ·rw [if_neg c6] at H
       have c6b0 : ((rd l0 (ji3)) == 0) = false := beq_eq_false_iff_ne.mpr c6; have c6b1 : ((rd l0 (ji3)) != 0) = true := bne_iff_ne.mpr c6
       by_cases c7 : 0 ≤ x3_1
       ·rw [if_pos c7] at H
        have c7b0 := eq_true c7; have c7b1 : decide (0 ≤ x3_1) = true := decide_eq_true c7; clear c7
        by_cases c8 : x3_1 ≤ (l0.length : Int)
        ·rw [if_pos c8] at H
         have c8b0 := eq_true c8; have c8b1 : decide (x3_1 ≤ (l0.length : Int)) = true := decide_eq_true c8; clear c8
         by_cases c9 : ([] : List Int).length + (l0.take (x3_1 : Int).toNat).length < 35184372088832
         ·rw [if_pos c9] at H
          have LMc9 := Aside0.mk c9; clear c9; obtain ⟨y104, hy104⟩ : ∃ y_ : List Int, y_ = (([] : List Int) ++ (l0.take (x3_1 : Int).toNat)) := ⟨_, rfl⟩; replace H : (some y104) = some r := ti hy104 H; have Ny104 := Aside0.mk hy104; clear hy104; obtain rfl := Option.some.inj H; have p102 : 0 ≤ ((ji3) : Int) := td; have q102 : (ji3) < (l0.length : Int) := td; obtain ⟨ad102, e102, hx102_0⟩ := Kd.at_int HR0.out (ji3) p102 q102
          cases e102
          replace hx102_0 := (HB.out.cell (World.block_lt_of_cell? w _ hx102_0)).trans hx102_0; replace p102 := eq_true p102; replace q102 := eq_true q102; obtain ⟨i010, hi010, _, hsz10, _⟩ := info_parts info70; obtain ⟨hcut10, hA10, hC10⟩ := print_take_of (P := Try.prog) (Value.int .u32) 0 22 70 .i64 Try.underlying22 hi010 hsz10 (some ad102) c0 l0 x3_1 (td) (td) HC0.out; have HR103 := Aside0.mk (Kd.C_of_reads (h1 := fun _ => rfl) (hA10 _ (Kd.reads_of_C HR0.out))); have HC103 := Aside0.mk hC10; clear hA10 hC10 hi010 hsz10
          go_wp2_with (first | ((with_reducible refine gate_builtin (b := .append) (xs := #[(.const (.slice none 0 0)), .tmp 20]) rfl ?_); at_builtin; refine Kd.R_append_rows (Kd.int .u32) (w0 := w) w.heap.size rfl (.const (.slice none 0 0)) (.tmp 20) 22 70 (.int .u32 0) 4 rfl Try.underlying22 info70 rfl (by decide) (by omega) (.slice none 0 0) ([] : List Int) (l0.take (x3_1 : Int).toNat) _ _ _ (fun _ => True) (fun _ => False) rfl rfl ?aO ?aR (fun _ _ h => h) (fun _ h => h.elim) ?aF ?aB ?aS ?aL ?_; (case aR => first | (refine Kd.reads_len_ (show (l0.take (x3_1 : Int).toNat).length = x3_1.toNat from (by rw [List.length_take]; have h_ : (x3_1 : Int) ≤ (l0.length : Int) := td; omega)) ?_; repeat (first | exact (Kd.C_below HR103.out HB.out) | (with_reducible refine Kd.C_alloc ?_ _) | (with_reducible refine Kd.C_drewN ?_ _) | (with_reducible refine Kd.C_drew ?_)); done) | (rw [← show (l0.take (x3_1 : Int).toNat).length = x3_1.toNat from (by rw [List.length_take]; have h_ : (x3_1 : Int) ≤ (l0.length : Int) := td; omega)]; repeat (first | exact (Kd.C_below HR103.out HB.out) | (with_reducible refine Kd.C_alloc ?_ _) | (with_reducible refine Kd.C_drewN ?_ _) | (with_reducible refine Kd.C_drew ?_))) | (repeat (first | exact (Kd.C_below HR103.out HB.out) | (with_reducible refine Kd.C_alloc ?_ _) | (with_reducible refine Kd.C_drewN ?_ _) | (with_reducible refine Kd.C_drew ?_)))); (case aB => exact (tb HB)); (case aF => exact (fun _ _ => trivial)); (case aO => exact ((Kd.R_nil _ _ _ _ (fun _ => True)))); (case aS => exact (below_size (tb HB))); (case aL => have := LMc9.out; have hlx_ := (show (l0.take (x3_1 : Int).toNat).length = x3_1.toNat from (by rw [List.length_take]; have h_ : (x3_1 : Int) ≤ (l0.length : Int) := td; omega)); omega); intro v105 w11 ho hb hg hat; rw [← Ny104.out] at ho; have HO106 := Aside0.mk (ho); replace HB := Aside0.mk (hb); clear ho hb hg hat))
          go_ret
          exact ⟨_, by first | rfl | (simp [errW_none, errW_some] <;> rfl) | (simp only [← hji3]; first | rfl | (simp [errW_none, errW_some] <;> rfl)) | (simp [*, errW_none, errW_some] <;> rfl), tq HO106, tb HB⟩
         ·rw [if_neg c9] at H
          exact absurd H (by simp)
        ·rw [if_neg c8] at H
         exact absurd H (by simp)
       ·rw [if_neg c7] at H
        exact absurd H (by simp)
     ·rw [if_neg c5] at H
      exact absurd H (by simp)
    ·rw [if_neg c4] at H
     exact absurd H (by simp)
   ·rw [if_neg c2] at H
    have c2b0 : decide (0 < x3_1) = false := decide_eq_false c2; clear c2
    by_cases c12 : 0 ≤ x3_1
    ·rw [if_pos c12] at H
     have c12b0 := eq_true c12; have c12b1 : decide (0 ≤ x3_1) = true := decide_eq_true c12; clear c12
     by_cases c13 : x3_1 ≤ (l0.length : Int)
     ·rw [if_pos c13] at H
      have c13b0 := eq_true c13; have c13b1 : decide (x3_1 ≤ (l0.length : Int)) = true := decide_eq_true c13; clear c13
      by_cases c14 : ([] : List Int).length + (l0.take (x3_1 : Int).toNat).length < 35184372088832
      ·rw [if_pos c14] at H
       have LMc14 := Aside0.mk c14; clear c14; obtain ⟨y108, hy108⟩ : ∃ y_ : List Int, y_ = (([] : List Int) ++ (l0.take (x3_1 : Int).toNat)) := ⟨_, rfl⟩; replace H : (some y108) = some r := ti hy108 H; have Ny108 := Aside0.mk hy108; clear hy108; obtain rfl := Option.some.inj H; obtain ⟨i015, hi015, _, hsz15, _⟩ := info_parts info70; obtain ⟨hcut15, hA15, hC15⟩ := print_take_of (P := Try.prog) (Value.int .u32) 0 22 70 .i64 Try.underlying22 hi015 hsz15 A0 c0 l0 x3_1 (td) (td) HC0.out; have HR107 := Aside0.mk (Kd.C_of_reads (h1 := fun _ => rfl) (hA15 _ (Kd.reads_of_C HR0.out))); have HC107 := Aside0.mk hC15; clear hA15 hC15 hi015 hsz15
       go_wp2_with (first | ((with_reducible refine gate_builtin (b := .append) (xs := #[(.const (.slice none 0 0)), .tmp 20]) rfl ?_); at_builtin; refine Kd.R_append_rows (Kd.int .u32) (w0 := w) w.heap.size rfl (.const (.slice none 0 0)) (.tmp 20) 22 70 (.int .u32 0) 4 rfl Try.underlying22 info70 rfl (by decide) (by omega) (.slice none 0 0) ([] : List Int) (l0.take (x3_1 : Int).toNat) _ _ _ (fun _ => True) (fun _ => False) rfl rfl ?aO ?aR (fun _ _ h => h) (fun _ h => h.elim) ?aF ?aB ?aS ?aL ?_; (case aR => first | (refine Kd.reads_len_ (show (l0.take (x3_1 : Int).toNat).length = x3_1.toNat from (by rw [List.length_take]; have h_ : (x3_1 : Int) ≤ (l0.length : Int) := td; omega)) ?_; repeat (first | exact (Kd.C_below HR107.out HB.out) | (with_reducible refine Kd.C_alloc ?_ _) | (with_reducible refine Kd.C_drewN ?_ _) | (with_reducible refine Kd.C_drew ?_)); done) | (rw [← show (l0.take (x3_1 : Int).toNat).length = x3_1.toNat from (by rw [List.length_take]; have h_ : (x3_1 : Int) ≤ (l0.length : Int) := td; omega)]; repeat (first | exact (Kd.C_below HR107.out HB.out) | (with_reducible refine Kd.C_alloc ?_ _) | (with_reducible refine Kd.C_drewN ?_ _) | (with_reducible refine Kd.C_drew ?_))) | (repeat (first | exact (Kd.C_below HR107.out HB.out) | (with_reducible refine Kd.C_alloc ?_ _) | (with_reducible refine Kd.C_drewN ?_ _) | (with_reducible refine Kd.C_drew ?_)))); (case aB => exact (tb HB)); (case aF => exact (fun _ _ => trivial)); (case aO => exact ((Kd.R_nil _ _ _ _ (fun _ => True)))); (case aS => exact (below_size (tb HB))); (case aL => have := LMc14.out; have hlx_ := (show (l0.take (x3_1 : Int).toNat).length = x3_1.toNat from (by rw [List.length_take]; have h_ : (x3_1 : Int) ≤ (l0.length : Int) := td; omega)); omega); intro v109 w16 ho hb hg hat; rw [← Ny108.out] at ho; have HO110 := Aside0.mk (ho); replace HB := Aside0.mk (hb); clear ho hb hg hat))
       go_ret
       exact ⟨_, ee, tq HO110, tb HB⟩
      ·rw [if_neg c14] at H
       exact absurd H (by simp)
     ·rw [if_neg c13] at H
      exact absurd H (by simp)
    ·rw [if_neg c12] at H
     exact absurd H (by simp)

/-! ### big_norm: function 19 -/
def big_norm.f (k : Nat) (a0 : Bool) (l1 : List Int) : Option (Bool × List Int) := (nat_Norm.f k l1).bind fun t112 => (if (t112.length : Int) = 0 then (some (false, ([] : List Int))) else (some (a0, t112)))
theorem big_norm.mono : ∀ a0 a1 k, LeO (big_norm.f k a0 a1) (big_norm.f (k + 1) a0 a1) := by
 intro a0 a1 k
 unfold big_norm.f
 repeat' with_reducible first | exact nat_Norm.mono _ _ | exact LeO.refl _ | exact LeO.none _ | refine LeO.ite ?_ ?_ | refine LeO.bind ?_ (fun _ => ?_)
set_option maxHeartbeats 8000000 in
set_option maxRecDepth 100000 in
theorem big_norm.calls (k : Nat) (a0 : Bool) (A1 : Option Addr) (c1 : Nat) (l1 : List Int) (r1 : Bool) (r2 : List Int) (w : World) (hr1 : Kd.C (Kd.int .u32) w A1 l1.length l1) (hc1 : l1.length ≤ c1) (h : big_norm.f k a0 l1 = some (r1, r2)) :
  Calls Try.prog 19 #[.bool a0, .slice A1 l1.length c1] w fun e w' => ∃ v1_ : Value, e = .returned (.agg #[.bool r1, v1_]) ∧ Kd.R (Kd.int .u32) 70 w' w.heap.size (fun _ => True) v1_ r2 ∧ Below w.heap.size w w' := by
 have hu24 := Try.underlying24; have HR1 := Aside0.mk hr1; have HC1 := Aside0.mk hc1; clear hr1 hc1; have HB := Aside0.mk (Below.refl w.heap.size w); have H : ((nat_Norm.f k l1).bind fun t112 => (if (t112.length : Int) = 0 then (some (false, ([] : List Int))) else (some (a0, t112)))) = some (r1, r2) := h; clear h; replace H := bi H; obtain ⟨t112, A30, H⟩ := H; have A3 := Aside0.mk A30; clear A30
 by_cases c4 : (t112.length : Int) = 0
 ·rw [if_pos c4] at H
  have c4b0 : ((t112.length : Int) == 0) = true := beq_iff_eq.mpr c4; have c4b1 : ((t112.length : Int) != 0) = false := bne_eq_false_iff_eq.mpr c4; clear c4; simp only [Option.some.injEq, Prod.mk.injEq] at H; obtain ⟨rfl, rfl⟩ := H
  go_enter Try.func19, Try.ntmps19
  go_wp2_with (first | ((with_reducible refine gate_dst (N := 4) rfl ?_); refine bx (N := 4) #[.bool false, .slice none 0 0] 24 ?_; intro gb111 hg w5 hbox hb; have BK111 := Aside0.mk (hbox); have GW111 := bz hg HB; have GE111 := bz hg HB; replace HB := bs HB hb; clear hb hbox hg) | ((with_reducible refine gate_callee (f := 42) rfl ?_); refine gL (N := some 7) Try.func42 #[.slice A1 l1.length c1] ?_; (with_reducible refine (nat_Norm.calls k _ _ l1 t112 _ ?side1 ?side2 A3.out).mono ?_); (case side1 => exact tc (Kd.C_below HR1.out HB.out)); (case side2 => exact HC1.out); rintro e w6 ⟨v113, rfl, ho0, hb⟩; refine ⟨_, rfl, ?_⟩; have HO114 := rl ho0 HB; replace BK111 := kb BK111 hb; replace HB := bs HB hb; (try clear hb); (try clear ho0); obtain ⟨Ao7, co7, eo7⟩ := Kd.R_slice HO114.out; subst eo7; obtain ⟨hcz8_0, hcz8_1, hfz8_0, hfz8_1⟩ := b2 BK111))
  refine bodyPost_ret (results_cell_row rfl _ _ gb111 24 #[.bool false, .slice none 0 0] (0, 0) _ rfl (tk BK111) Try.underlying24 rfl (by kernel_rfl)) rfl ?_; exact ⟨_, ee, by first | exact Kd.R_nil _ _ _ _ _ | exact Kd.N_nil _ _ _ _ _ | exact Kd.V_nil _ _ _ _ _ | exact Kd.Q_nil _ _ _ _ _ | exact Kd.S_nil _ _ _ _ _, tb HB⟩
 ·rw [if_neg c4] at H
  have c4b0 : ((t112.length : Int) == 0) = false := beq_eq_false_iff_ne.mpr c4; have c4b1 : ((t112.length : Int) != 0) = true := bne_iff_ne.mpr c4; have c4b2 : ¬ (t112 = []) := fun h_ => c4 (by rw [h_]; rfl); simp only [Option.some.injEq, Prod.mk.injEq] at H; obtain ⟨rfl, rfl⟩ := H
  go_enter Try.func19, Try.ntmps19
  go_wp2_with (first | ((with_reducible refine gate_dst (N := 4) rfl ?_); refine bx (N := 4) #[.bool false, .slice none 0 0] 24 ?_; intro gb111 hg w9 hbox hb; have BK111 := Aside0.mk (hbox); have GW111 := bz hg HB; have GE111 := bz hg HB; replace HB := bs HB hb; clear hb hbox hg) | ((with_reducible refine gate_callee (f := 42) rfl ?_); refine gL (N := some 7) Try.func42 #[.slice A1 l1.length c1] ?_; (with_reducible refine (nat_Norm.calls k _ _ l1 t112 _ ?side1 ?side2 A3.out).mono ?_); (case side1 => exact tc (Kd.C_below HR1.out HB.out)); (case side2 => exact HC1.out); rintro e w10 ⟨v113, rfl, ho0, hb⟩; refine ⟨_, rfl, ?_⟩; have HO114 := rl ho0 HB; replace BK111 := kb BK111 hb; replace HB := bs HB hb; (try clear hb); (try clear ho0); obtain ⟨Ao11, co11, eo11⟩ := Kd.R_slice HO114.out; subst eo11; obtain ⟨hcz12_0, hcz12_1, hfz12_0, hfz12_1⟩ := b2 BK111))
  refine bodyPost_ret (results_cell_row rfl _ _ gb111 24 #[.bool a0, .slice Ao11 t112.length co11] (0, 0) _ rfl (tk BK111) Try.underlying24 rfl (by kernel_rfl)) rfl ?_; exact ⟨_, ee, by (with_reducible repeat first | apply qa | apply qn | apply qd); exact Kd.R_mono (Kd.R_far (p := ⟨gb111, 1, none⟩) (Kd.R_far (p := ⟨gb111, 0, none⟩) (Kd.R_types HO114.out BK111.out (by decide)) (fun _ hk => hk.2) (.bool a0)) (fun _ hk => hk.2) (.slice Ao11 t112.length co11)) (fun _ hk => trivial), tb HB⟩

/-! ### nat_Of: function 35 -/
def nat_Of.f (k : Nat) (a0 : Int) : Option (List Int) := (nat_Norm.f k (([(a0) % 4294967296, (a0 / 4294967296) % 4294967296] : List Int))).bind fun t118 => (some t118)
theorem nat_Of.mono : ∀ a0 k, LeO (nat_Of.f k a0) (nat_Of.f (k + 1) a0) := by
 intro a0 k
 unfold nat_Of.f
 repeat' with_reducible first | exact nat_Norm.mono _ _ | exact LeO.refl _ | exact LeO.none _ | refine LeO.ite ?_ ?_ | refine LeO.bind ?_ (fun _ => ?_)
set_option maxHeartbeats 8000000 in
set_option maxRecDepth 100000 in
theorem nat_Of.calls (k : Nat) (a0 : Int) (r : List Int) (w : World) (h : nat_Of.f k a0 = some r) :
  Calls Try.prog 35 #[.int .u64 a0] w fun e w' => ∃ v0_ : Value, e = .returned (v0_) ∧ Kd.R (Kd.int .u32) 70 w' w.heap.size (fun _ => True) v0_ r ∧ Below w.heap.size w w' := by
 have HB := Aside0.mk (Below.refl w.heap.size w); have H : ((nat_Norm.f k (([(a0) % 4294967296, (a0 / 4294967296) % 4294967296] : List Int))).bind fun t118 => (some t118)) = some r := h; clear h; obtain ⟨y115, hy115⟩ : ∃ y_ : List Int, y_ = (([(a0) % 4294967296, (a0 / 4294967296) % 4294967296] : List Int)) := ⟨_, rfl⟩; replace H : ((nat_Norm.f k y115).bind fun t118 => (some t118)) = some r := ti hy115 H; have Ny115 := Aside0.mk hy115; clear hy115; replace H := bi H; obtain ⟨t118, A20, H⟩ := H; have A2 := Aside0.mk A20; clear A20; obtain rfl := Option.some.inj H
 go_enter Try.func35, Try.ntmps35
 go_wp2_with (first | ((with_reducible refine gate_dst (N := 8) rfl ?_); refine Kd.R_lit (Kd.int .u32) _ 70 ?hg (N := 8) ?hd (xs := ([(a0) % 4294967296, (a0 / 4294967296) % 4294967296] : List Int)) (inner := [.int .u32 ((a0) % 4294967296), .int .u32 ((a0 / 4294967296) % 4294967296)]) (ok := fun _ => True) (okp := fun _ => True) ?hr ?hp (fun _ hk => hk) trivial (Below.refl _ _) (Nat.le_refl _) (by simp) ?_; (case hd => rfl); (case hg => rfl); (case hr => first | (go_simp; done) | (go_simp; rfl)); (case hp => exact (Reps.one (show Kd.M (Kd.int .u32) _ _ _ ((a0) % 4294967296) [.int .u32 ((a0) % 4294967296)] from rfl) (Reps.one (show Kd.M (Kd.int .u32) _ _ _ ((a0 / 4294967296) % 4294967296) [.int .u32 ((a0 / 4294967296) % 4294967296)] from rfl) (Reps.none _ _)))); intro v116 w3 ho4 hb hg_ hnew_; clear hg_ hnew_; (first | rw [← Ny115.out] at ho4 | (simp only [Int.reduceToNat] at ho4; rw [← Ny115.out] at ho4)); have HO117 := rl ho4 HB; replace HB := bs HB hb; clear hb ho4; obtain ⟨Ao5, co5, eo5⟩ := Kd.R_slice HO117.out; subst eo5) | ((with_reducible refine gate_callee (f := 42) rfl ?_); refine gL (N := some 9) Try.func42 #[.slice Ao5 y115.length co5] ?_; (with_reducible refine (nat_Norm.calls k _ _ y115 t118 _ ?side1 ?side2 A2.out).mono ?_); (case side1 => exact tc (Kd.R_reads' HO117.out).2.2); (case side2 => exact (Kd.R_reads' HO117.out).2.1); rintro e w6 ⟨v119, rfl, ho0, hb⟩; refine ⟨_, rfl, ?_⟩; have HO120 := rl (rn ho0 HO117) HB; replace HB := bs HB hb; (try clear hb); (try clear ho0)))
 go_ret
 exact ⟨_, ee, by (with_reducible repeat first | apply qa | apply qn | apply qd); exact Kd.R_mono HO120.out (fun _ hk => trivial), tb HB⟩

/-! ### big_Of: function 14 -/
def big_Of.f (k : Nat) (a0 : Int) : Option (Bool × List Int) := if a0 < 0 then ((nat_Of.f k (IntKind.u64.wrap ((IntKind.u64.wrap (wrap64 (-(wrap64 (a0 + 1))))) + 1))).bind fun t122 => ((big_norm.f k true t122).bind fun bt125 => (some (bt125.1, bt125.2)))) else ((nat_Of.f k (IntKind.u64.wrap (a0))).bind fun t129 => ((big_norm.f k false t129).bind fun bt132 => (some (bt132.1, bt132.2))))
theorem big_Of.mono : ∀ a0 k, LeO (big_Of.f k a0) (big_Of.f (k + 1) a0) := by
 intro a0 k
 unfold big_Of.f
 repeat' with_reducible first | exact big_norm.mono _ _ _ | exact nat_Of.mono _ _ | exact LeO.refl _ | exact LeO.none _ | refine LeO.ite ?_ ?_ | refine LeO.bind ?_ (fun _ => ?_)
set_option maxHeartbeats 8000000 in
set_option maxRecDepth 100000 in
theorem big_Of.calls (k : Nat) (a0 : Int) (r1 : Bool) (r2 : List Int) (w : World) (h : big_Of.f k a0 = some (r1, r2)) :
  Calls Try.prog 14 #[.int .i64 a0] w fun e w' => ∃ v1_ : Value, e = .returned (.agg #[.bool r1, v1_]) ∧ Kd.R (Kd.int .u32) 70 w' w.heap.size (fun _ => True) v1_ r2 ∧ Below w.heap.size w w' := by
 have hu24 := Try.underlying24; have HB := Aside0.mk (Below.refl w.heap.size w); have H : (if a0 < 0 then ((nat_Of.f k (IntKind.u64.wrap ((IntKind.u64.wrap (wrap64 (-(wrap64 (a0 + 1))))) + 1))).bind fun t122 => ((big_norm.f k true t122).bind fun bt125 => (some (bt125.1, bt125.2)))) else ((nat_Of.f k (IntKind.u64.wrap (a0))).bind fun t129 => ((big_norm.f k false t129).bind fun bt132 => (some (bt132.1, bt132.2))))) = some (r1, r2) := h; clear h
 by_cases c2 : a0 < 0
 ·rw [if_pos c2] at H
  have c2b0 : decide (a0 < 0) = true := decide_eq_true c2; clear c2; replace H := bi H; obtain ⟨t122, A30, H⟩ := H; have A3 := Aside0.mk A30; clear A30; replace H := bi H; obtain ⟨⟨t125, t126⟩, A40, H⟩ := H
  try dsimp only at H
  have A4 := Aside0.mk A40; clear A40; simp only [Option.some.injEq, Prod.mk.injEq] at H; obtain ⟨rfl, rfl⟩ := H
  go_enter Try.func14, Try.ntmps14
  go_wp2_with (first | ((with_reducible refine gate_dst (N := 2) rfl ?_); refine bx (N := 2) #[.bool false, .slice none 0 0] 24 ?_; intro gb121 hg w5 hbox hb; have BK121 := Aside0.mk (hbox); have GW121 := bz hg HB; have GE121 := bz hg HB; replace HB := bs HB hb; clear hb hbox hg) | ((with_reducible refine gate_callee (f := 35) rfl ?_); refine gL (N := some 10) Try.func35 #[.int .u64 (IntKind.u64.wrap ((IntKind.u64.wrap (wrap64 (-(wrap64 (a0 + 1))))) + 1))] ?_; (with_reducible refine (nat_Of.calls k (IntKind.u64.wrap ((IntKind.u64.wrap (wrap64 (-(wrap64 (a0 + 1))))) + 1)) t122 _ A3.out).mono ?_); rintro e w6 ⟨v123, rfl, ho0, hb⟩; refine ⟨_, rfl, ?_⟩; have HO124 := rl ho0 HB; replace BK121 := kb BK121 hb; replace HB := bs HB hb; (try clear hb); (try clear ho0); obtain ⟨Ao7, co7, eo7⟩ := Kd.R_slice HO124.out; subst eo7) | ((with_reducible refine gate_callee (f := 19) rfl ?_); refine gL (N := some 11) Try.func19 #[.bool true, .slice Ao7 t122.length co7] ?_; (with_reducible refine (big_norm.calls k true _ _ t122 t125 t126 _ ?side1 ?side2 A4.out).mono ?_); (case side1 => exact tc (Kd.R_reads' HO124.out).2.2); (case side2 => exact (Kd.R_reads' HO124.out).2.1); rintro e w8 ⟨v127, rfl, ho0, hb⟩; refine ⟨_, rfl, ?_⟩; have HO128 := rl (rn ho0 HO124) HB; replace BK121 := kb BK121 hb; replace HB := bs HB hb; (try clear hb); (try clear ho0); obtain ⟨hcz9_0, hcz9_1, hfz9_0, hfz9_1⟩ := b2 BK121; obtain ⟨Ao10, co10, eo10⟩ := Kd.R_slice HO128.out; subst eo10))
  refine bodyPost_ret (results_cell_row rfl _ _ gb121 24 #[.bool t125, .slice Ao10 t126.length co10] (0, 0) _ rfl (tk BK121) Try.underlying24 rfl (by kernel_rfl)) rfl ?_; exact ⟨_, ee, by (with_reducible repeat first | apply qa | apply qn | apply qd); exact Kd.R_mono (Kd.R_far (p := ⟨gb121, 1, none⟩) (Kd.R_far (p := ⟨gb121, 0, none⟩) (Kd.R_types HO128.out BK121.out (by decide)) (fun _ hk => hk.2) (.bool t125)) (fun _ hk => hk.2) (.slice Ao10 t126.length co10)) (fun _ hk => trivial), tb HB⟩
 ·rw [if_neg c2] at H
  have c2b0 : decide (a0 < 0) = false := decide_eq_false c2; clear c2; replace H := bi H; obtain ⟨t129, A110, H⟩ := H; have A11 := Aside0.mk A110; clear A110; replace H := bi H; obtain ⟨⟨t132, t133⟩, A120, H⟩ := H
  try dsimp only at H
  have A12 := Aside0.mk A120; clear A120; simp only [Option.some.injEq, Prod.mk.injEq] at H; obtain ⟨rfl, rfl⟩ := H
  go_enter Try.func14, Try.ntmps14
  go_wp2_with (first | ((with_reducible refine gate_dst (N := 2) rfl ?_); refine bx (N := 2) #[.bool false, .slice none 0 0] 24 ?_; intro gb121 hg w13 hbox hb; have BK121 := Aside0.mk (hbox); have GW121 := bz hg HB; have GE121 := bz hg HB; replace HB := bs HB hb; clear hb hbox hg) | ((with_reducible refine gate_callee (f := 35) rfl ?_); refine gL (N := some 14) Try.func35 #[.int .u64 (IntKind.u64.wrap (a0))] ?_; (with_reducible refine (nat_Of.calls k (IntKind.u64.wrap (a0)) t129 _ A11.out).mono ?_); rintro e w14 ⟨v130, rfl, ho0, hb⟩; refine ⟨_, rfl, ?_⟩; have HO131 := rl ho0 HB; replace BK121 := kb BK121 hb; replace HB := bs HB hb; (try clear hb); (try clear ho0); obtain ⟨Ao15, co15, eo15⟩ := Kd.R_slice HO131.out; subst eo15) | ((with_reducible refine gate_callee (f := 19) rfl ?_); refine gL (N := some 15) Try.func19 #[.bool false, .slice Ao15 t129.length co15] ?_; (with_reducible refine (big_norm.calls k false _ _ t129 t132 t133 _ ?side1 ?side2 A12.out).mono ?_); (case side1 => exact tc (Kd.R_reads' HO131.out).2.2); (case side2 => exact (Kd.R_reads' HO131.out).2.1); rintro e w16 ⟨v134, rfl, ho0, hb⟩; refine ⟨_, rfl, ?_⟩; have HO135 := rl (rn ho0 HO131) HB; replace BK121 := kb BK121 hb; replace HB := bs HB hb; (try clear hb); (try clear ho0); obtain ⟨hcz17_0, hcz17_1, hfz17_0, hfz17_1⟩ := b2 BK121; obtain ⟨Ao18, co18, eo18⟩ := Kd.R_slice HO135.out; subst eo18))
  refine bodyPost_ret (results_cell_row rfl _ _ gb121 24 #[.bool t132, .slice Ao18 t133.length co18] (0, 0) _ rfl (tk BK121) Try.underlying24 rfl (by kernel_rfl)) rfl ?_; exact ⟨_, ee, by (with_reducible repeat first | apply qa | apply qn | apply qd); exact Kd.R_mono (Kd.R_far (p := ⟨gb121, 1, none⟩) (Kd.R_far (p := ⟨gb121, 0, none⟩) (Kd.R_types HO135.out BK121.out (by decide)) (fun _ hk => hk.2) (.bool t132)) (fun _ hk => hk.2) (.slice Ao18 t133.length co18)) (fun _ hk => trivial), tb HB⟩

/-! ### nat_trim: function 40 -/
def nat_trim.l0 : Nat → List Int → Int → Option (List Int)
 | 0, _, _ => none
 | k + 1, x0, x3 => if x3 > 0 then (if 0 ≤ (wrap64 (x3 - 1)) then (if (wrap64 (x3 - 1)) < (x0.length : Int) then (if (rd x0 (wrap64 (x3 - 1))) = 0 then (nat_trim.l0 k x0 (wrap64 (x3 - 1))) else (if 0 ≤ x3 then (if x3 ≤ (x0.length : Int) then (some (x0.take (x3 : Int).toNat)) else (none)) else (none))) else (none)) else (none)) else (if 0 ≤ x3 then (if x3 ≤ (x0.length : Int) then (some (x0.take (x3 : Int).toNat)) else (none)) else (none))
def nat_trim.f (k : Nat) (l0 : List Int) : Option (List Int) := nat_trim.l0 k l0 (l0.length : Int)
theorem nat_trim.mono_l : ∀ k, (∀ y0 y1, LeO (nat_trim.l0 k y0 y1) (nat_trim.l0 (k + 1) y0 y1))
 | 0 => fun _ _ r h => by simp [nat_trim.l0] at h
 | k + 1 => by
  have ih0 := nat_trim.mono_l k
  ·intro y0 y1
   unfold nat_trim.l0
   repeat' with_reducible first | exact ih0 _ _ | exact LeO.refl _ | exact LeO.none _ | refine LeO.ite ?_ ?_ | refine LeO.bind ?_ (fun _ => ?_)
theorem nat_trim.mono : ∀ a0 k, LeO (nat_trim.f k a0) (nat_trim.f (k + 1) a0) := by
 intro a0 k; have ih0 := nat_trim.mono_l k
 unfold nat_trim.f
 repeat' with_reducible first | exact ih0 _ _ | exact LeO.refl _ | exact LeO.none _ | refine LeO.ite ?_ ?_ | refine LeO.bind ?_ (fun _ => ?_)
set_option maxHeartbeats 8000000 in
set_option maxRecDepth 100000 in
theorem nat_trim.calls (k : Nat) (P0_ : Nat → Prop) (A0 : Option Addr) (c0 : Nat) (l0 : List Int) (r : List Int) (w : World) (hs0 : Kd.V (Kd.int .u32) 70 w w.heap.size (fun k_ => P0_ k_) (.slice A0 l0.length c0) l0) (h : nat_trim.f k l0 = some r) :
  Calls Try.prog 40 #[.slice A0 l0.length c0] w fun e w' => ∃ v0_ : Value, e = .returned (v0_) ∧ Kd.V (Kd.int .u32) 70 w' w.heap.size (fun k_ => (P0_ k_ ∨ w.heap.size ≤ k_)) v0_ r ∧ Below w.heap.size w w' := by
 have HO0 := Aside0.mk (show Kd.V (Kd.int .u32) 70 w w.heap.size (fun k_ => (P0_ k_ ∨ w.heap.size ≤ k_)) (.slice A0 l0.length c0) l0 from Kd.V_mono hs0 (fun k_ hk => .inl hk)); have HB := Aside0.mk (Below.refl w.heap.size w); have H : (nat_trim.l0 k l0 (l0.length : Int)) = some r := h; clear h; have H' := Aside0.mk H; clear H
 go_enter Try.func40, Try.ntmps40
 go_wp2
 go_loopg [3] k (fun kq v3 w' => ∃ (x3_1 : Int), v3 = .int .i64 x3_1 ∧ Aside0 (nat_trim.l0 kq l0 x3_1 = some r) ∧ Aside0 (kq ≤ k) ∧ Aside0 (Kd.V (Kd.int .u32) 70 w' w.heap.size (fun k_ => (P0_ k_ ∨ w.heap.size ≤ k_)) (.slice A0 l0.length c0) l0) ∧ Aside0 (Below w.heap.size w w'))
 case atStart => exact ⟨((l0.length : Int)), (by first | rfl | (simp; done) | (simp [*]; done)), H', ⟨Nat.le_refl _⟩, ⟨tv HO0⟩, ⟨tb HB⟩⟩
 case round =>
  clear H'; obtain ⟨x3_1, rfl, HA, HK1, HO_0, HB⟩ := hrel
  cases gk with
  | zero => exact absurd HA.out (by simp [nat_trim.l0])
  | succ k1 =>
   have H := HA.out; clear HA; simp only [nat_trim.l0] at H
   by_cases c2 : x3_1 > 0
   ·rw [if_pos c2] at H
    have c2b0 : decide (0 < x3_1) = true := decide_eq_true c2; clear c2; obtain ⟨ji3, hji3⟩ : ∃ j_ : Int, (wrap64 (x3_1 - 1)) = j_ := ⟨_, rfl⟩
    replace H : (if 0 ≤ (ji3) then (if (ji3) < (l0.length : Int) then (if (rd l0 (ji3)) = 0 then (nat_trim.l0 k1 l0 ji3) else (if 0 ≤ x3_1 then (if x3_1 ≤ (l0.length : Int) then (some (l0.take (x3_1 : Int).toNat)) else (none)) else (none))) else (none)) else (none)) = some r := by first | (rw [hji3] at H; exact H) | (simp only [hji3] at H ⊢; exact H)
    have hji3w : (IntKind.i64.wrap (x3_1 - 1)) = ji3 := (i64_w _).trans hji3
    by_cases c4 : 0 ≤ (ji3)
    ·rw [if_pos c4] at H
     have c4b0 : decide (0 ≤ (ji3)) = true := decide_eq_true c4; clear c4
     by_cases c5 : (ji3) < (l0.length : Int)
     ·rw [if_pos c5] at H
      have c5b0 : decide ((ji3) < (l0.length : Int)) = true := decide_eq_true c5; clear c5
      by_cases c6 : (rd l0 (ji3)) = 0
      ·rw [if_pos c6] at H
       have c6b0 : ((rd l0 (ji3)) == 0) = true := beq_iff_eq.mpr c6; have c6b1 : ((rd l0 (ji3)) != 0) = false := bne_eq_false_iff_eq.mpr c6; clear c6; have H' := Aside0.mk H; clear H; have p136 : 0 ≤ ((ji3) : Int) := td; have q136 : (ji3) < (l0.length : Int) := td; obtain ⟨ad136, e136, hx136_0⟩ := Kd.at_int (Kd.V_reads' HO_0.out).2.2 (ji3) p136 q136
       cases e136
       replace p136 := eq_true p136; replace q136 := eq_true q136
       go_wp2
       go_roundg k1
       case measure => have := HK1.out; omega
       case rel => exact ⟨(ji3), (by first | rfl | (simp; done) | (simp only [← hji3] <;> (first | rfl | simp)) | (simp [*]; done)), H', ⟨by have := HK1.out; omega⟩, ⟨tv HO_0⟩, ⟨tb HB⟩⟩
      ·rw [if_neg c6] at H
       have c6b0 : ((rd l0 (ji3)) == 0) = false := beq_eq_false_iff_ne.mpr c6; have c6b1 : ((rd l0 (ji3)) != 0) = true := bne_iff_ne.mpr c6
       by_cases c7 : 0 ≤ x3_1
       ·rw [if_pos c7] at H
        have c7b0 := eq_true c7; have c7b1 : decide (0 ≤ x3_1) = true := decide_eq_true c7; clear c7
        by_cases c8 : x3_1 ≤ (l0.length : Int)
        ·rw [if_pos c8] at H
         have c8b0 := eq_true c8; have c8b1 : decide (x3_1 ≤ (l0.length : Int)) = true := decide_eq_true c8; clear c8; obtain ⟨y137, hy137⟩ : ∃ y_ : List Int, y_ = (l0.take (x3_1 : Int).toNat) := ⟨_, rfl⟩; replace H : (some y137) = some r := ti hy137 H; have Ny137 := Aside0.mk hy137; clear hy137; obtain rfl := Option.some.inj H; have p136 : 0 ≤ ((ji3) : Int) := td; have q136 : (ji3) < (l0.length : Int) := td; obtain ⟨ad136, e136, hx136_0⟩ := Kd.at_int (Kd.V_reads' HO_0.out).2.2 (ji3) p136 q136
         cases e136
         replace p136 := eq_true p136; replace q136 := eq_true q136; have q9 : (x3_1 : Int) ≤ ((l0.length : Int) : Int) := td; obtain ⟨i09, hi09, _, hsz9, _⟩ := info_parts info70; have hroom9 : l0.length ≤ c0 := (Kd.V_reads' HO_0.out).2.1; have hC9 : Kd.F (Kd.int .u32) _ _ (some ad136) l0.length l0 := (Kd.V_at (base := w.heap.size) HO_0.out).2.2; have hcut9 := cut_to (P := Try.prog) 22 70 .i64 Try.underlying22 hi09 (some ad136) l0.length c0 x3_1 (td) q9 hroom9; have hr9 := Kd.F_take (m := (x3_1 : Int).toNat) hC9 (by omega); have hy9 : y137.length = (x3_1 : Int).toNat := (by rw [Ny137.out, List.length_take]; omega); rw [← Ny137.out] at hr9; rw [← hy9] at hcut9; have HO141 := Aside0.mk (show Kd.V (Kd.int .u32) 70 _ w.heap.size _ (.slice (some ad136) y137.length c0) y137 from Kd.V_mk (by omega) hr9); have HC141 := Aside0.mk (show y137.length ≤ c0 from by omega); clear hr9 hC9 hroom9 hi09 hsz9; have KY9 := Aside0.mk hy9; clear hy9; replace q9 := eq_true q9
         go_wp2
         go_ret
         exact ⟨_, by first | rfl | (simp [errW_none, errW_some] <;> rfl) | (simp only [← hji3]; first | rfl | (simp [errW_none, errW_some] <;> rfl)) | (simp [*, errW_none, errW_some] <;> rfl), tv HO141, tb HB⟩
        ·rw [if_neg c8] at H
         exact absurd H (by simp)
       ·rw [if_neg c7] at H
        exact absurd H (by simp)
     ·rw [if_neg c5] at H
      exact absurd H (by simp)
    ·rw [if_neg c4] at H
     exact absurd H (by simp)
   ·rw [if_neg c2] at H
    have c2b0 : decide (0 < x3_1) = false := decide_eq_false c2; clear c2
    by_cases c10 : 0 ≤ x3_1
    ·rw [if_pos c10] at H
     have c10b0 := eq_true c10; have c10b1 : decide (0 ≤ x3_1) = true := decide_eq_true c10; clear c10
     by_cases c11 : x3_1 ≤ (l0.length : Int)
     ·rw [if_pos c11] at H
      have c11b0 := eq_true c11; have c11b1 : decide (x3_1 ≤ (l0.length : Int)) = true := decide_eq_true c11; clear c11; obtain ⟨y142, hy142⟩ : ∃ y_ : List Int, y_ = (l0.take (x3_1 : Int).toNat) := ⟨_, rfl⟩; replace H : (some y142) = some r := ti hy142 H; have Ny142 := Aside0.mk hy142; clear hy142; obtain rfl := Option.some.inj H; have q12 : (x3_1 : Int) ≤ ((l0.length : Int) : Int) := td; obtain ⟨i012, hi012, _, hsz12, _⟩ := info_parts info70; have hroom12 : l0.length ≤ c0 := (Kd.V_reads' HO_0.out).2.1; have hC12 : Kd.F (Kd.int .u32) _ _ A0 l0.length l0 := (Kd.V_at (base := w.heap.size) HO_0.out).2.2; have hcut12 := cut_to (P := Try.prog) 22 70 .i64 Try.underlying22 hi012 A0 l0.length c0 x3_1 (td) q12 hroom12; have hr12 := Kd.F_take (m := (x3_1 : Int).toNat) hC12 (by omega); have hy12 : y142.length = (x3_1 : Int).toNat := (by rw [Ny142.out, List.length_take]; omega); rw [← Ny142.out] at hr12; rw [← hy12] at hcut12; have HO146 := Aside0.mk (show Kd.V (Kd.int .u32) 70 _ w.heap.size _ (.slice A0 y142.length c0) y142 from Kd.V_mk (by omega) hr12); have HC146 := Aside0.mk (show y142.length ≤ c0 from by omega); clear hr12 hC12 hroom12 hi012 hsz12; have KY12 := Aside0.mk hy12; clear hy12; replace q12 := eq_true q12
      go_wp2
      go_ret
      exact ⟨_, ee, tv HO146, tb HB⟩
     ·rw [if_neg c11] at H
      exact absurd H (by simp)
    ·rw [if_neg c10] at H
     exact absurd H (by simp)

/-! ### nat_limbs: function 60 -/
attribute [local go_sem] Oper.semAt_some
/-- The places of n limbs, the highest first: k of them. -/
def nat_limbs.down (n : Nat) : Nat → List (Fin n)
 | 0 => []
 | k + 1 => nat_limbs.down n k ++ (if h : n - 1 - k < n then [⟨n - 1 - k, h⟩] else [])
theorem nat_limbs.down_length {n : Nat} : ∀ {k : Nat}, k ≤ n → (nat_limbs.down n k).length = k
 | 0, _ => rfl
 | k + 1, h => by
  have hlt : n - 1 - k < n := by omega
  simp only [nat_limbs.down, dif_pos hlt, List.length_append, List.length_cons, List.length_nil]; rw [nat_limbs.down_length (by omega)]
theorem nat_limbs.down_succ {n k m : Nat} (h : m + 1 + k = n) : nat_limbs.down n (k + 1) = nat_limbs.down n k ++ [⟨m, by omega⟩] := by
 have hlt : n - 1 - k < n := by omega
 have he : n - 1 - k = m := by omega
 simp only [nat_limbs.down, dif_pos hlt]
 congr 2
 exact Fin.ext he
set_option maxRecDepth 100000 in
set_option maxHeartbeats 2000000 in
theorem nat_limbs1_in (F : Fence) (f : Nat) (h56 : F.fn 66) (hro : F.round = none) (hf : 1 ≤ f) (l Bs n₀ cap : Nat) (ad : Addr) (zs : List Int) (hreach : zs.length ≤ 9223372036854775807) (hb : ad.block < n₀) (Kp : World → World → Prop) (hKr : ∀ A, Kp A A) (hKt : ∀ {A B C : World}, Kp A B → Kp B C → Kp A C) (hK : ∀ {A B : World}, Kp A B → ∀ p : Addr, (p.block < n₀ ∨ p.block = Bs) → B.cell? p = A.cell? p) (J Jx : List (Fin zs.length) → World → Prop)
  (hY : ∀ pre x W, J pre W → pre.length < zs.length → YieldAt F (f - 1) Try.prog l #[.int .i64 (x.1 : Int), .int .u32 (zs[x.1]?.getD 0)] W fun e W' =>
   (e = .returned (.bool true) ∧ J (pre ++ [x]) W' ∧ Kp W W') ∨ (e = .returned (.bool false) ∧ Jx (pre ++ [x]) W'))
  (W : World) (hBs : W.cell? ⟨Bs, 0, none⟩ = some (.slice (some ad) zs.length cap)) (hc : ∀ j, j < zs.length → W.cell? (ad.add j) = some (.int .u32 (zs[j]?.getD 0))) (h0 : J [] W) :
  CallsIn F f Try.prog 66 #[.func (.yield l) #[] #[], .pointer (some ⟨Bs, 0, none⟩)] W fun e W' => (∃ v, e = .returned v) ∧
   (J (nat_limbs.down zs.length zs.length) W' ∨ (∃ k, k ≤ zs.length ∧ Jx (nat_limbs.down zs.length k) W')) := by
 have hadd : ∀ j, (ad.add j).block = ad.block := fun j => add_block ad j; refine callsIn_of_wp Try.func66 rfl h56 ?_ hro; simp only [Try.ntmps66, List.size_toArray, List.length_cons, List.length_nil, Nat.reduceAdd, Nat.reduceSub, Array.replicate_succ, Array.replicate_zero, List.push_toArray, List.append_toArray, List.nil_append, List.cons_append]
 gi_wp2
 gi_loopw [3] (fun i wr => ∃ m k, m + k = zs.length ∧ i = .int .i64 ((m:Int) - 1) ∧ J (nat_limbs.down zs.length k) wr ∧ Kp W wr) (fun i _ => (intOf i + 1).toNat)
 case atStart => exact ⟨zs.length, 0, rfl, rfl, h0, hKr _⟩
 case round =>
  obtain ⟨m, k, hmk, rfl, hJs, hnx⟩ := hrel; have hBx := (hK hnx ⟨Bs, 0, none⟩ (.inr rfl)).trans hBs
  rcases m with _ | m
  ·obtain rfl : k = zs.length := by omega
   gi_wp2
   go_end0
   exact ⟨⟨_, rfl⟩, .inl hJs⟩
  ·have hcx : wr.cell? (ad.add m) = some (.int .u32 (zs[m]?.getD 0)) := (hK hnx _ (.inl (by rw [hadd]; exact hb))).trans (hc m (by omega))
   obtain ⟨fn, tmps, assign, body, hy, hR⟩ := hY (nat_limbs.down zs.length k) ⟨m, by omega⟩ wr hJs (by rw [nat_limbs.down_length (by omega)]; omega); dsimp only at hy
   have hm1 : ((m + 1 : Nat) : Int) - 1 = (m : Int) := by omega
   rw [hm1]
   gi_wp2
   refine hR.mono ?_; rintro e W3 (⟨rfl, hJ3, hk3⟩ | ⟨rfl, hJx3⟩)
   ·gi_wp2
    go_roundw
    case rel => exact ⟨m, k + 1, by omega, rfl, by rw [nat_limbs.down_succ hmk]; exact hJ3, hKt hnx hk3⟩
    case measure => simp [intOf]
   ·gi_wp2
    refine bodyPost_ret (results_none rfl _ _ _) rfl ?_; exact ⟨⟨_, rfl⟩, .inr ⟨k + 1, by omega, by rw [nat_limbs.down_succ hmk]; exact hJx3⟩⟩
set_option maxRecDepth 100000 in
set_option maxHeartbeats 1000000 in
theorem nat_limbs1_nil_in (F : Fence) (f : Nat) (h56 : F.fn 66) (hro : F.round = none) (l Bs cap : Nat) (a : Option Addr) (J : World → Prop) (W : World) (hBs : W.cell? ⟨Bs, 0, none⟩ = some (.slice a 0 cap)) (h0 : J W) :
  CallsIn F f Try.prog 66 #[.func (.yield l) #[] #[], .pointer (some ⟨Bs, 0, none⟩)] W fun e W' => (∃ v, e = .returned v) ∧ J W' := by
 refine callsIn_of_wp Try.func66 rfl h56 ?_ hro; simp only [Try.ntmps66, List.size_toArray, List.length_cons, List.length_nil, Nat.reduceAdd, Nat.reduceSub, Array.replicate_succ, Array.replicate_zero, List.push_toArray, List.append_toArray, List.nil_append, List.cons_append]
 gi_wp2
 gi_loopw [3] (fun i wr => i = .int .i64 (-1) ∧ J wr) (fun _ _ => 0)
 case atStart => exact ⟨rfl, h0⟩
 case round =>
  obtain ⟨rfl, hJs⟩ := hrel
  gi_wp2
  go_end0
  exact ⟨⟨_, rfl⟩, hJs⟩
set_option maxHeartbeats 1000000 in
theorem nat_limbs_in (F : Fence) (f : Nat) (h55 : F.fn 60) (hro : F.round = none) (a : Option Addr) (len cap : Nat) (w : World) :
  CallsIn F f Try.prog 60 #[.slice a len cap] w fun e w' => e = .returned (.func (.func 66) #[] #[.pointer (some ⟨w.heap.size, 0, none⟩)]) ∧ w' = w.alloc (.cells #[.slice a len cap] 22) := by
 refine callsIn_of_wp Try.func60 rfl h55 ?_ hro; simp only [Try.ntmps60, List.size_toArray, List.length_cons, List.length_nil, Nat.reduceAdd, Nat.reduceSub, Array.replicate_succ, Array.replicate_zero, List.push_toArray, List.append_toArray, List.nil_append, List.cons_append]
 gi_wp2
 go_ret
 exact ⟨rfl, rfl⟩
/-- The cells of a slice of limbs, below n₀. -/
def nat_limbs.At (n₀ : Nat) (W : World) (a : Option Addr) (zs : List Int) : Prop :=
 zs = [] ∨ ∃ ad, a = some ad ∧ ad.block < n₀ ∧ ∀ j, j < zs.length → W.cell? (ad.add j) = some (.int .u32 (zs[j]?.getD 0))
theorem nat_limbs.At.below {n₀ : Nat} {A B : World} (h : Below n₀ A B) {a : Option Addr} {zs : List Int} : nat_limbs.At n₀ A a zs → nat_limbs.At n₀ B a zs
 | .inl e => .inl e
 | .inr ⟨ad, e, hb, hc⟩ => .inr ⟨ad, e, hb, fun j hj => (h.cell (by rw [add_block]; exact hb)).trans (hc j hj)⟩
theorem nat_limbs.At.of {W : World} {A : Option Addr} {zs : List Int} (h : Kd.C (Kd.int .u32) W A zs.length zs) : nat_limbs.At W.heap.size W A zs := by
 rcases Nat.eq_zero_or_pos zs.length with h0 | h0
 ·exact .inl (List.eq_nil_of_length_eq_zero h0)
 ·obtain ⟨ad, e, hc⟩ := h.2.2 h0
  have hcell : ∀ j, j < zs.length → W.cell? (ad.add j) = some (.int .u32 (zs[j]?.getD 0)) := fun j hj => by
   obtain ⟨c, hl, hk, hu⟩ := hc j zs[j] (List.getElem?_eq_getElem hj); have hc1 : c = [.int .u32 zs[j]] := hk; have h2 := hu 0 (.int .u32 zs[j]) (by rw [hc1]; rfl)
   have h3 : j * (Kd.int .u32).sz + 0 = j := by show j * 1 + 0 = j; omega
   rw [h3] at h2; rw [List.getElem?_eq_getElem hj]; exact h2
  refine .inr ⟨ad, e, ?_, hcell⟩; obtain ⟨o, ho, _⟩ := cells_of_cell (hcell 0 h0); rw [add_block] at ho; exact (Array.getElem?_eq_some_iff.1 ho).1
theorem nat_limbs_stops (F : Fence) (f : Nat) (h56 : F.fn 66) (hro : F.round = none) (hf : 1 ≤ f) (Bs n₀ cap : Nat) (a : Option Addr) (zs : List Int) (hreach : zs.length ≤ 9223372036854775807) (Kp : World → World → Prop) (hKr : ∀ A, Kp A A) (hKt : ∀ {A B C : World}, Kp A B → Kp B C → Kp A C) (hK : ∀ {A B : World}, Kp A B → ∀ p : Addr, (p.block < n₀ ∨ p.block = Bs) → B.cell? p = A.cell? p) (w : World) (hBs : Bs < w.heap.size) (hn₀ : n₀ ≤ w.heap.size)
  (hc : w.cell? ⟨Bs, 0, none⟩ = some (.slice a zs.length cap)) (hI : nat_limbs.At n₀ w a zs) :
  SeqStopsK F f Try.prog 66 #[.pointer (some ⟨Bs, 0, none⟩)] (fun x : Fin zs.length => #[Value.int .i64 (x.1 : Int), Value.int .u32 (zs[x.1]?.getD 0)]) Kp (fun ys => ys = nat_limbs.down zs.length zs.length)
   (fun pre => ∃ k, k ≤ zs.length ∧ pre = nat_limbs.down zs.length k) zs.length w := fun l J Jx W hW _ _ hY h0 => by
 have hc' := (hW.cell (p := ⟨Bs, 0, none⟩) hBs).trans hc
 rcases hI.below (hW.mono hn₀) with rfl | ⟨ad, rfl, hb, hcs⟩
 ·exact (nat_limbs1_nil_in F f h56 hro l Bs cap a (J []) W hc' h0).mono fun e W' ⟨he, hj⟩ => ⟨he, .inl ⟨_, rfl, hj⟩⟩
 ·refine (nat_limbs1_in F f h56 hro hf l Bs n₀ cap ad zs hreach hb Kp hKr hKt hK J Jx hY W hc' hcs h0).mono ?_
  rintro e W' ⟨he, hj | ⟨k, hk, hj⟩⟩
  ·exact ⟨he, .inl ⟨_, rfl, hj⟩⟩
  ·exact ⟨he, .inr ⟨_, ⟨k, hk, rfl⟩, hj⟩⟩

end Go.Proofs.Ytkbefeadmchmbaa.QBigQuotients
