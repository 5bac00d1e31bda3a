-- written by wip/wprint, a program of this session
import Derived.Test.YthodpjgmecnalaaQNatGcdsx0
import Derived.Test.YthodpjgmecnalaaQNatGcdsx1
namespace Go.Proofs.Ythodpjgmecnalaa.QNatGcds
open Go.RowKit Go.Proofs.YthodpjgmecnalaaW.PrintWords Go.Proofs.YthodpjgmecnalaaW.PrintLast Go.Proofs.YthodpjgmecnalaaW.PrintMore
open Go.Proofs.YthodpjgmecnalaaW.PrintWords.Kd renaming R_alloc → qa, R_drewN → qn, R_drew → qd
open Go.Proofs.YthodpjgmecnalaaW.PrintWords renaming below_alloc → ba, pw_below_drewN → bn, below_drew1 → bd
attribute [local go_sem] max2_int min2_int max_two min_two max_three min_three max_four min_four   -- for this text's walks alone
set_option linter.unusedVariables false
set_option linter.unusedSimpArgs false

/-! ### nat_Norm: function 27 -/
def nat_Norm.l0 : Nat → List Int → Int → Option (List Int)
  | 0, _, _ => none
  | k + 1, x0, x3 => if x3 > 0 then (if 0 ≤ (wrap64 (x3 - 1)) then (if (wrap64 (x3 - 1)) < (x0.length : Int) then (if (rd x0 (wrap64 (x3 - 1))) = 0 then (nat_Norm.l0 k x0 (wrap64 (x3 - 1))) else (if 0 ≤ x3 then (if x3 ≤ (x0.length : Int) then (if ([] : List Int).length + (x0.take (x3 : Int).toNat).length < 35184372088832 then (some (([] : List Int) ++ (x0.take (x3 : Int).toNat))) else (none)) else (none)) else (none))) else (none)) else (none)) else (if 0 ≤ x3 then (if x3 ≤ (x0.length : Int) then (if ([] : List Int).length + (x0.take (x3 : Int).toNat).length < 35184372088832 then (some (([] : List Int) ++ (x0.take (x3 : Int).toNat))) else (none)) else (none)) else (none))
def nat_Norm.f (k : Nat) (l0 : List Int) : Option (List Int) := nat_Norm.l0 k l0 (l0.length : Int)
theorem nat_Norm.mono_l : ∀ k, (∀ y0 y1, LeO (nat_Norm.l0 k y0 y1) (nat_Norm.l0 (k + 1) y0 y1))
  | 0 => fun _ _ r h => by simp [nat_Norm.l0] at h
  | k + 1 => by
    have ih0 := nat_Norm.mono_l k
    · intro y0 y1
      unfold nat_Norm.l0
      repeat' first
      | (with_reducible exact ih0 _ _)
      | (with_reducible exact LeO.refl _)
      | (with_reducible exact LeO.none _)
      | (with_reducible refine LeO.ite ?_ ?_)
      | (with_reducible refine LeO.bind ?_ (fun _ => ?_))
      | exact ih0 _ _
      | exact LeO.none _
      | refine LeO.ite ?_ ?_
      | refine LeO.bind ?_ (fun _ => ?_)
theorem nat_Norm.mono : ∀ a0 k, LeO (nat_Norm.f k a0) (nat_Norm.f (k + 1) a0) := by
  intro a0 k
  have ih0 := nat_Norm.mono_l k
  unfold nat_Norm.f
  repeat' first
      | (with_reducible exact ih0 _ _)
      | (with_reducible exact LeO.refl _)
      | (with_reducible exact LeO.none _)
      | (with_reducible refine LeO.ite ?_ ?_)
      | (with_reducible refine LeO.bind ?_ (fun _ => ?_))
      | exact ih0 _ _
      | exact LeO.none _
      | refine LeO.ite ?_ ?_
      | refine LeO.bind ?_ (fun _ => ?_)
set_option maxHeartbeats 8000000 in
set_option maxRecDepth 100000 in
theorem nat_Norm.calls (k : Nat) (A0 : Option Addr) (c0 : Nat) (l0 : List Int) (r : List Int) (w : World) (hr0 : Kd.C (Kd.int .u32) w A0 l0.length l0) (hc0 : l0.length ≤ c0) (h : nat_Norm.f k l0 = some r) :
    Calls Try.prog 27 #[.slice A0 l0.length c0] w fun e w' => ∃ v0_ : Value, e = .returned (v0_) ∧ Kd.R (Kd.int .u32) 42 w' w.heap.size (fun _ => True) v0_ r ∧ Below w.heap.size w w' := by
  have HR0 := Aside0.mk hr0
  have HC0 := Aside0.mk hc0
  clear hr0 hc0
  have HB := Aside0.mk (Below.refl w.heap.size w)
  have H : (nat_Norm.l0 k l0 (l0.length : Int)) = some r := h
  clear h
  have H' := Aside0.mk H
  clear H
  go_enter Try.func27, Try.ntmps27
  go_wp2
  go_loopg [3] k (fun kq v3 w' => ∃ (x3_1 : Int), v3 = .int .i64 x3_1 ∧ Aside0 (nat_Norm.l0 kq l0 x3_1 = some r) ∧ Aside0 (kq ≤ k) ∧ Aside0 (Below w.heap.size w w'))
  case atStart => exact ⟨((l0.length : Int)), (by first | rfl | (simp; done) | (simp [*]; done)), H', ⟨Nat.le_refl _⟩, ⟨by repeat (first | (with_reducible first | exact HB.out | apply ba | apply bn | apply bd) | exact HB.out)⟩⟩
  case round =>
    clear H'
    obtain ⟨x3_1, rfl, HA, HK1, HB⟩ := hrel
    cases gk with
    | zero => exact absurd HA.out (by simp [nat_Norm.l0])
    | succ k1 =>
      have H := HA.out
      clear HA
      simp only [nat_Norm.l0] at H
      by_cases c2 : x3_1 > 0
      · rw [if_pos c2] at H
        have c2b0 : decide (0 < x3_1) = true := decide_eq_true c2
        clear c2
        obtain ⟨ji3, hji3⟩ : ∃ j_ : Int, (wrap64 (x3_1 - 1)) = j_ := ⟨_, rfl⟩
        replace H : (if 0 ≤ (ji3) then (if (ji3) < (l0.length : Int) then (if (rd l0 (ji3)) = 0 then (nat_Norm.l0 k1 l0 ji3) else (if 0 ≤ x3_1 then (if x3_1 ≤ (l0.length : Int) then (if ([] : List Int).length + (l0.take (x3_1 : Int).toNat).length < 35184372088832 then (some (([] : List Int) ++ (l0.take (x3_1 : Int).toNat))) else (none)) else (none)) else (none))) else (none)) else (none)) = some r := by first | (rw [hji3] at H; exact H) | (simp only [hji3] at H ⊢; exact H)
        have hji3w : (IntKind.i64.wrap (x3_1 - 1)) = ji3 := (i64_w _).trans hji3
        by_cases c4 : 0 ≤ (ji3)
        · rw [if_pos c4] at H
          have c4b0 : decide (0 ≤ (ji3)) = true := decide_eq_true c4
          clear c4
          by_cases c5 : (ji3) < (l0.length : Int)
          · rw [if_pos c5] at H
            have c5b0 : decide ((ji3) < (l0.length : Int)) = true := decide_eq_true c5
            clear c5
            by_cases c6 : (rd l0 (ji3)) = 0
            · rw [if_pos c6] at H
              have c6b0 : ((rd l0 (ji3)) == 0) = true := beq_iff_eq.mpr c6
              have c6b1 : ((rd l0 (ji3)) != 0) = false := bne_eq_false_iff_eq.mpr c6
              clear c6
              have H' := Aside0.mk H
              clear H
              have p133 : 0 ≤ ((ji3) : Int) := of_decide_eq_true (by assumption)
              have q133 : (ji3) < (l0.length : Int) := of_decide_eq_true (by assumption)
              obtain ⟨ad133, e133, hx133_0⟩ := Kd.at_int HR0.out (ji3) p133 q133
              cases e133
              replace hx133_0 := (HB.out.cell (World.block_lt_of_cell? w _ hx133_0)).trans hx133_0
              replace p133 := eq_true p133
              replace q133 := eq_true q133
              go_wp2
              go_roundg k1
              case measure => have := HK1.out; omega
              case rel => exact ⟨(ji3), (by first | rfl | (simp; done) | (simp only [← hji3] <;> (first | rfl | simp)) | (simp [*]; done)), H', ⟨by have := HK1.out; omega⟩, ⟨by repeat (first | (with_reducible first | exact HB.out | apply ba | apply bn | apply bd) | exact HB.out)⟩⟩
            · rw [if_neg c6] at H
              have c6b0 : ((rd l0 (ji3)) == 0) = false := beq_eq_false_iff_ne.mpr c6
              have c6b1 : ((rd l0 (ji3)) != 0) = true := bne_iff_ne.mpr c6
              by_cases c7 : 0 ≤ x3_1
              · rw [if_pos c7] at H
                have c7b0 := eq_true c7
                have c7b1 : decide (0 ≤ x3_1) = true := decide_eq_true c7
                clear c7
                by_cases c8 : x3_1 ≤ (l0.length : Int)
                · rw [if_pos c8] at H
                  have c8b0 := eq_true c8
                  have c8b1 : decide (x3_1 ≤ (l0.length : Int)) = true := decide_eq_true c8
                  clear c8
                  by_cases c9 : ([] : List Int).length + (l0.take (x3_1 : Int).toNat).length < 35184372088832
                  · rw [if_pos c9] at H
                    have LMc9 := Aside0.mk c9
                    clear c9
                    obtain ⟨y135, hy135⟩ : ∃ y_ : List Int, y_ = (([] : List Int) ++ (l0.take (x3_1 : Int).toNat)) := ⟨_, rfl⟩
                    replace H : (some y135) = some r := by first | (rw [hy135]; with_reducible exact H) | (have H2_ := (Option.bind_some _ _).symm.trans H; rw [hy135]; with_reducible exact H2_) | (have H2_ := (Option.bind_some _ _).symm.trans H; with_reducible exact H2_) | with_reducible exact H | (rw [hy135]; exact H) | exact H
                    have Ny135 := Aside0.mk hy135
                    clear hy135
                    obtain rfl := Option.some.inj H
                    have p133 : 0 ≤ ((ji3) : Int) := of_decide_eq_true (by assumption)
                    have q133 : (ji3) < (l0.length : Int) := of_decide_eq_true (by assumption)
                    obtain ⟨ad133, e133, hx133_0⟩ := Kd.at_int HR0.out (ji3) p133 q133
                    cases e133
                    replace hx133_0 := (HB.out.cell (World.block_lt_of_cell? w _ hx133_0)).trans hx133_0
                    replace p133 := eq_true p133
                    replace q133 := eq_true q133
                    obtain ⟨i010, hi010, _, hsz10, _⟩ := info_parts info42
                    obtain ⟨hcut10, hA10, hC10⟩ := print_take_of (P := Try.prog) (Value.int .u32) 0 22 42 .i64 Try.underlying22 hi010 hsz10 (some ad133) c0 l0 x3_1 (of_decide_eq_true (by assumption)) (of_decide_eq_true (by assumption)) HC0.out
                    have HR134 := Aside0.mk (Kd.C_of_reads (h1 := fun _ => rfl) (hA10 _ (Kd.reads_of_C HR0.out)))
                    have HC134 := Aside0.mk hC10
                    clear hA10 hC10 hi010 hsz10
                    go_wp2_with (first | ((with_reducible refine gate_builtin (b := .append) (xs := #[(.const (.slice none 0 0)), .tmp 20]) rfl ?_); at_builtin; refine Kd.R_append_rows (Kd.int .u32) (w0 := w) w.heap.size rfl (.const (.slice none 0 0)) (.tmp 20) 22 42 (.int .u32 0) 4 rfl Try.underlying22 info42 rfl (by decide) (by omega) (.slice none 0 0) ([] : List Int) (l0.take (x3_1 : Int).toNat) _ _ _ (fun _ => True) (fun _ => False) rfl rfl ?aO ?aR (fun _ _ h => h) (fun _ h => h.elim) ?aF ?aB ?aS ?aL ?_; (case aR => first | (refine Kd.reads_len_ (show (l0.take (x3_1 : Int).toNat).length = x3_1.toNat from (by rw [List.length_take]; have h_ : (x3_1 : Int) ≤ (l0.length : Int) := of_decide_eq_true (by assumption); omega)) ?_; repeat (first | exact (Kd.C_below HR134.out HB.out) | (with_reducible refine Kd.C_alloc ?_ _) | (with_reducible refine Kd.C_drewN ?_ _) | (with_reducible refine Kd.C_drew ?_)); done) | (rw [← show (l0.take (x3_1 : Int).toNat).length = x3_1.toNat from (by rw [List.length_take]; have h_ : (x3_1 : Int) ≤ (l0.length : Int) := of_decide_eq_true (by assumption); omega)]; repeat (first | exact (Kd.C_below HR134.out HB.out) | (with_reducible refine Kd.C_alloc ?_ _) | (with_reducible refine Kd.C_drewN ?_ _) | (with_reducible refine Kd.C_drew ?_))) | (repeat (first | exact (Kd.C_below HR134.out HB.out) | (with_reducible refine Kd.C_alloc ?_ _) | (with_reducible refine Kd.C_drewN ?_ _) | (with_reducible refine Kd.C_drew ?_)))); (case aB => exact (by repeat (first | (with_reducible first | exact HB.out | apply ba | apply bn | apply bd) | exact HB.out))); (case aF => exact (fun _ _ => trivial)); (case aO => exact ((Kd.R_nil _ _ _ _ (fun _ => True)))); (case aS => exact (below_size (by repeat (first | (with_reducible first | exact HB.out | apply ba | apply bn | apply bd) | exact HB.out)))); (case aL => have := LMc9.out; have hlx_ := (show (l0.take (x3_1 : Int).toNat).length = x3_1.toNat from (by rw [List.length_take]; have h_ : (x3_1 : Int) ≤ (l0.length : Int) := of_decide_eq_true (by assumption); omega)); omega); intro v136 w11 ho hb hg hat; rw [← Ny135.out] at ho; have HO137 := Aside0.mk (ho); replace HB := Aside0.mk (hb); clear ho hb hg hat))
                    go_ret
                    exact ⟨_, by first | rfl | (simp [errW_none, errW_some] <;> rfl) | (simp only [← hji3]; first | rfl | (simp [errW_none, errW_some] <;> rfl)) | (simp [*, errW_none, errW_some] <;> rfl), by (with_reducible repeat first | apply qa | apply qn | apply qd); exact HO137.out, by repeat (first | (with_reducible first | exact HB.out | apply ba | apply bn | apply bd) | exact HB.out)⟩
                  · rw [if_neg c9] at H
                    exact absurd H (by simp)
                · rw [if_neg c8] at H
                  exact absurd H (by simp)
              · rw [if_neg c7] at H
                exact absurd H (by simp)
          · rw [if_neg c5] at H
            exact absurd H (by simp)
        · rw [if_neg c4] at H
          exact absurd H (by simp)
      · rw [if_neg c2] at H
        have c2b0 : decide (0 < x3_1) = false := decide_eq_false c2
        clear c2
        by_cases c12 : 0 ≤ x3_1
        · rw [if_pos c12] at H
          have c12b0 := eq_true c12
          have c12b1 : decide (0 ≤ x3_1) = true := decide_eq_true c12
          clear c12
          by_cases c13 : x3_1 ≤ (l0.length : Int)
          · rw [if_pos c13] at H
            have c13b0 := eq_true c13
            have c13b1 : decide (x3_1 ≤ (l0.length : Int)) = true := decide_eq_true c13
            clear c13
            by_cases c14 : ([] : List Int).length + (l0.take (x3_1 : Int).toNat).length < 35184372088832
            · rw [if_pos c14] at H
              have LMc14 := Aside0.mk c14
              clear c14
              obtain ⟨y139, hy139⟩ : ∃ y_ : List Int, y_ = (([] : List Int) ++ (l0.take (x3_1 : Int).toNat)) := ⟨_, rfl⟩
              replace H : (some y139) = some r := by first | (rw [hy139]; with_reducible exact H) | (have H2_ := (Option.bind_some _ _).symm.trans H; rw [hy139]; with_reducible exact H2_) | (have H2_ := (Option.bind_some _ _).symm.trans H; with_reducible exact H2_) | with_reducible exact H | (rw [hy139]; exact H) | exact H
              have Ny139 := Aside0.mk hy139
              clear hy139
              obtain rfl := Option.some.inj H
              obtain ⟨i015, hi015, _, hsz15, _⟩ := info_parts info42
              obtain ⟨hcut15, hA15, hC15⟩ := print_take_of (P := Try.prog) (Value.int .u32) 0 22 42 .i64 Try.underlying22 hi015 hsz15 A0 c0 l0 x3_1 (of_decide_eq_true (by assumption)) (of_decide_eq_true (by assumption)) HC0.out
              have HR138 := Aside0.mk (Kd.C_of_reads (h1 := fun _ => rfl) (hA15 _ (Kd.reads_of_C HR0.out)))
              have HC138 := Aside0.mk hC15
              clear hA15 hC15 hi015 hsz15
              go_wp2_with (first | ((with_reducible refine gate_builtin (b := .append) (xs := #[(.const (.slice none 0 0)), .tmp 20]) rfl ?_); at_builtin; refine Kd.R_append_rows (Kd.int .u32) (w0 := w) w.heap.size rfl (.const (.slice none 0 0)) (.tmp 20) 22 42 (.int .u32 0) 4 rfl Try.underlying22 info42 rfl (by decide) (by omega) (.slice none 0 0) ([] : List Int) (l0.take (x3_1 : Int).toNat) _ _ _ (fun _ => True) (fun _ => False) rfl rfl ?aO ?aR (fun _ _ h => h) (fun _ h => h.elim) ?aF ?aB ?aS ?aL ?_; (case aR => first | (refine Kd.reads_len_ (show (l0.take (x3_1 : Int).toNat).length = x3_1.toNat from (by rw [List.length_take]; have h_ : (x3_1 : Int) ≤ (l0.length : Int) := of_decide_eq_true (by assumption); omega)) ?_; repeat (first | exact (Kd.C_below HR138.out HB.out) | (with_reducible refine Kd.C_alloc ?_ _) | (with_reducible refine Kd.C_drewN ?_ _) | (with_reducible refine Kd.C_drew ?_)); done) | (rw [← show (l0.take (x3_1 : Int).toNat).length = x3_1.toNat from (by rw [List.length_take]; have h_ : (x3_1 : Int) ≤ (l0.length : Int) := of_decide_eq_true (by assumption); omega)]; repeat (first | exact (Kd.C_below HR138.out HB.out) | (with_reducible refine Kd.C_alloc ?_ _) | (with_reducible refine Kd.C_drewN ?_ _) | (with_reducible refine Kd.C_drew ?_))) | (repeat (first | exact (Kd.C_below HR138.out HB.out) | (with_reducible refine Kd.C_alloc ?_ _) | (with_reducible refine Kd.C_drewN ?_ _) | (with_reducible refine Kd.C_drew ?_)))); (case aB => exact (by repeat (first | (with_reducible first | exact HB.out | apply ba | apply bn | apply bd) | exact HB.out))); (case aF => exact (fun _ _ => trivial)); (case aO => exact ((Kd.R_nil _ _ _ _ (fun _ => True)))); (case aS => exact (below_size (by repeat (first | (with_reducible first | exact HB.out | apply ba | apply bn | apply bd) | exact HB.out)))); (case aL => have := LMc14.out; have hlx_ := (show (l0.take (x3_1 : Int).toNat).length = x3_1.toNat from (by rw [List.length_take]; have h_ : (x3_1 : Int) ≤ (l0.length : Int) := of_decide_eq_true (by assumption); omega)); omega); intro v140 w16 ho hb hg hat; rw [← Ny139.out] at ho; have HO141 := Aside0.mk (ho); replace HB := Aside0.mk (hb); clear ho hb hg hat))
              go_ret
              exact ⟨_, by first | rfl | (simp [errW_none, errW_some] <;> rfl) | (simp [*, errW_none, errW_some] <;> rfl), by (with_reducible repeat first | apply qa | apply qn | apply qd); exact HO141.out, by repeat (first | (with_reducible first | exact HB.out | apply ba | apply bn | apply bd) | exact HB.out)⟩
            · rw [if_neg c14] at H
              exact absurd H (by simp)
          · rw [if_neg c13] at H
            exact absurd H (by simp)
        · rw [if_neg c12] at H
          exact absurd H (by simp)

/-! ### nat_Of: function 32 -/
def nat_Of.f (k : Nat) (a0 : Int) : Option (List Int) := (nat_Norm.f k (([(a0) % 4294967296, (a0 / 4294967296) % 4294967296] : List Int))).bind fun t145 => (some t145)
theorem nat_Of.mono : ∀ a0 k, LeO (nat_Of.f k a0) (nat_Of.f (k + 1) a0) := by
  intro a0 k
  unfold nat_Of.f
  repeat' first
      | (with_reducible exact nat_Norm.mono _ _)
      | (with_reducible exact LeO.refl _)
      | (with_reducible exact LeO.none _)
      | (with_reducible refine LeO.ite ?_ ?_)
      | (with_reducible refine LeO.bind ?_ (fun _ => ?_))
      | exact nat_Norm.mono _ _
      | exact LeO.none _
      | refine LeO.ite ?_ ?_
      | refine LeO.bind ?_ (fun _ => ?_)
set_option maxHeartbeats 8000000 in
set_option maxRecDepth 100000 in
theorem nat_Of.calls (k : Nat) (a0 : Int) (r : List Int) (w : World) (h : nat_Of.f k a0 = some r) :
    Calls Try.prog 32 #[.int .u64 a0] w fun e w' => ∃ v0_ : Value, e = .returned (v0_) ∧ Kd.R (Kd.int .u32) 42 w' w.heap.size (fun _ => True) v0_ r ∧ Below w.heap.size w w' := by
  have HB := Aside0.mk (Below.refl w.heap.size w)
  have H : ((nat_Norm.f k (([(a0) % 4294967296, (a0 / 4294967296) % 4294967296] : List Int))).bind fun t145 => (some t145)) = some r := h
  clear h
  obtain ⟨y142, hy142⟩ : ∃ y_ : List Int, y_ = (([(a0) % 4294967296, (a0 / 4294967296) % 4294967296] : List Int)) := ⟨_, rfl⟩
  replace H : ((nat_Norm.f k y142).bind fun t145 => (some t145)) = some r := by first | (rw [hy142]; with_reducible exact H) | (have H2_ := (Option.bind_some _ _).symm.trans H; rw [hy142]; with_reducible exact H2_) | (have H2_ := (Option.bind_some _ _).symm.trans H; with_reducible exact H2_) | with_reducible exact H | (rw [hy142]; exact H) | exact H
  have Ny142 := Aside0.mk hy142
  clear hy142
  replace H := Option.bind_eq_some_iff.mp H
  obtain ⟨t145, A20, H⟩ := H
  have A2 := Aside0.mk A20
  clear A20
  obtain rfl := Option.some.inj H
  go_enter Try.func32, Try.ntmps32
  go_wp2_with (first | ((with_reducible refine gate_dst (N := 8) rfl ?_); refine Kd.R_lit (Kd.int .u32) _ 42 ?hg (N := 8) ?hd (xs := ([(a0) % 4294967296, (a0 / 4294967296) % 4294967296] : List Int)) (inner := [.int .u32 ((a0) % 4294967296), .int .u32 ((a0 / 4294967296) % 4294967296)]) (ok := fun _ => True) (okp := fun _ => True) ?hr ?hp (fun _ hk => hk) trivial (Below.refl _ _) (Nat.le_refl _) (by simp) ?_; (case hd => rfl); (case hg => rfl); (case hr => first | (go_simp; done) | (go_simp; rfl)); (case hp => exact (Reps.one (show Kd.M (Kd.int .u32) _ _ _ ((a0) % 4294967296) [.int .u32 ((a0) % 4294967296)] from rfl) (Reps.one (show Kd.M (Kd.int .u32) _ _ _ ((a0 / 4294967296) % 4294967296) [.int .u32 ((a0 / 4294967296) % 4294967296)] from rfl) (Reps.none _ _)))); intro v143 w3 ho4 hb hg_ hnew_; clear hg_ hnew_; (first | rw [← Ny142.out] at ho4 | (simp only [Int.reduceToNat] at ho4; rw [← Ny142.out] at ho4)); have HO144 := Aside0.mk (Kd.R_lower ho4 (below_size (by repeat (first | (with_reducible first | exact HB.out | apply ba | apply bn | apply bd) | exact HB.out)))); replace HB := Aside0.mk (below_step (by repeat (first | (with_reducible first | exact HB.out | apply ba | apply bn | apply bd) | exact HB.out)) hb); clear hb ho4; obtain ⟨Ao5, co5, eo5⟩ := Kd.R_slice HO144.out; subst eo5) | ((with_reducible refine gate_callee (f := 27) rfl ?_); refine goesL_ (some 9) rfl rfl Try.func27 (by kernel_rfl) rfl #[.slice Ao5 y142.length co5] rfl (by (try simp only [List.map_toArray, List.map_cons, List.map_nil]); first | done | rfl | (simp only [List.length_drop, List.length_take]; rfl)) ?_; (with_reducible refine (nat_Norm.calls k _ _ y142 t145 _ ?side1 ?side2 A2.out).mono ?_); (case side1 => repeat (first | exact (Kd.R_reads' HO144.out).2.2 | (with_reducible refine Kd.C_alloc ?_ _) | (with_reducible refine Kd.C_drewN ?_ _) | (with_reducible refine Kd.C_drew ?_))); (case side2 => exact (Kd.R_reads' HO144.out).2.1); rintro e w6 ⟨v146, rfl, ho0, hb⟩; refine ⟨_, rfl, ?_⟩; have HO147 := Aside0.mk (Kd.R_lower (Kd.R_new' ho0 (Kd.R_lt (by (with_reducible repeat first | apply qa | apply qn | apply qd); exact HO144.out))) (below_size (by repeat (first | (with_reducible first | exact HB.out | apply ba | apply bn | apply bd) | exact HB.out)))); replace HO144 := Aside0.mk (Kd.R_elder' (by (with_reducible repeat first | apply qa | apply qn | apply qd); exact HO144.out) (Kd.R_base ho0) hb); replace HB := Aside0.mk (below_step (by repeat (first | (with_reducible first | exact HB.out | apply ba | apply bn | apply bd) | exact HB.out)) hb); (try clear hb); (try clear hb2); (try clear hk); (try clear hi); (try clear ho0)))
  go_ret
  exact ⟨_, by first | rfl | (simp [errW_none, errW_some] <;> rfl) | (simp [*, errW_none, errW_some] <;> rfl), by (with_reducible repeat first | apply qa | apply qn | apply qd); exact Kd.R_mono HO147.out (fun _ hk => trivial), by repeat (first | (with_reducible first | exact HB.out | apply ba | apply bn | apply bd) | exact HB.out)⟩

/-! ### nat_limbs: function 55 -/
attribute [local go_sem] Oper.semAt_some
/-- The places of n limbs, the highest first: k of them. -/
def nat_limbs.down (n : Nat) : Nat → List (Fin n)
  | 0 => []
  | k + 1 => nat_limbs.down n k ++ (if h : n - 1 - k < n then [⟨n - 1 - k, h⟩] else [])
theorem nat_limbs.down_length {n : Nat} : ∀ {k : Nat}, k ≤ n → (nat_limbs.down n k).length = k
  | 0, _ => rfl
  | k + 1, h => by
    have hlt : n - 1 - k < n := by omega
    simp only [nat_limbs.down, dif_pos hlt, List.length_append, List.length_cons, List.length_nil]
    rw [nat_limbs.down_length (by omega)]
theorem nat_limbs.down_succ {n k m : Nat} (h : m + 1 + k = n) : nat_limbs.down n (k + 1) = nat_limbs.down n k ++ [⟨m, by omega⟩] := by
  have hlt : n - 1 - k < n := by omega
  have he : n - 1 - k = m := by omega
  simp only [nat_limbs.down, dif_pos hlt]
  congr 2
  exact Fin.ext he
set_option maxRecDepth 100000 in
set_option maxHeartbeats 2000000 in
theorem nat_limbs1_in (F : Fence) (f : Nat) (h56 : F.fn 56) (hro : F.round = none) (hf : 1 ≤ f) (l Bs n₀ cap : Nat) (ad : Addr) (zs : List Int) (hreach : zs.length ≤ 9223372036854775807) (hb : ad.block < n₀) (Kp : World → World → Prop) (hKr : ∀ A, Kp A A) (hKt : ∀ {A B C : World}, Kp A B → Kp B C → Kp A C) (hK : ∀ {A B : World}, Kp A B → ∀ p : Addr, (p.block < n₀ ∨ p.block = Bs) → B.cell? p = A.cell? p) (J Jx : List (Fin zs.length) → World → Prop)
    (hY : ∀ pre x W, J pre W → pre.length < zs.length → YieldAt F (f - 1) Try.prog l #[.int .i64 (x.1 : Int), .int .u32 (zs[x.1]?.getD 0)] W fun e W' =>
      (e = .returned (.bool true) ∧ J (pre ++ [x]) W' ∧ Kp W W') ∨ (e = .returned (.bool false) ∧ Jx (pre ++ [x]) W'))
    (W : World) (hBs : W.cell? ⟨Bs, 0, none⟩ = some (.slice (some ad) zs.length cap)) (hc : ∀ j, j < zs.length → W.cell? (ad.add j) = some (.int .u32 (zs[j]?.getD 0))) (h0 : J [] W) :
    CallsIn F f Try.prog 56 #[.func (.yield l) #[] #[], .pointer (some ⟨Bs, 0, none⟩)] W fun e W' => (∃ v, e = .returned v) ∧
      (J (nat_limbs.down zs.length zs.length) W' ∨ (∃ k, k ≤ zs.length ∧ Jx (nat_limbs.down zs.length k) W')) := by
  have hadd : ∀ j, (ad.add j).block = ad.block := fun j => add_block ad j
  refine callsIn_of_wp Try.func56 rfl h56 ?_ hro
  simp only [Try.ntmps56, List.size_toArray, List.length_cons, List.length_nil, Nat.reduceAdd, Nat.reduceSub, Array.replicate_succ, Array.replicate_zero, List.push_toArray, List.append_toArray, List.nil_append, List.cons_append]
  gi_wp2
  gi_loopw [3] (fun i wr => ∃ m k, m + k = zs.length ∧ i = .int .i64 ((m:Int) - 1) ∧ J (nat_limbs.down zs.length k) wr ∧ Kp W wr) (fun i _ => (intOf i + 1).toNat)
  case atStart => exact ⟨zs.length, 0, rfl, rfl, h0, hKr _⟩
  case round =>
    obtain ⟨m, k, hmk, rfl, hJs, hnx⟩ := hrel
    have hBx := (hK hnx ⟨Bs, 0, none⟩ (.inr rfl)).trans hBs
    rcases m with _ | m
    · obtain rfl : k = zs.length := by omega
      gi_wp2
      go_end0
      exact ⟨⟨_, rfl⟩, .inl hJs⟩
    · have hcx : wr.cell? (ad.add m) = some (.int .u32 (zs[m]?.getD 0)) := (hK hnx _ (.inl (by rw [hadd]; exact hb))).trans (hc m (by omega))
      obtain ⟨fn, tmps, assign, body, hy, hR⟩ := hY (nat_limbs.down zs.length k) ⟨m, by omega⟩ wr hJs (by rw [nat_limbs.down_length (by omega)]; omega)
      dsimp only at hy
      have hm1 : ((m + 1 : Nat) : Int) - 1 = (m : Int) := by omega
      rw [hm1]
      gi_wp2
      refine hR.mono ?_
      rintro e W3 (⟨rfl, hJ3, hk3⟩ | ⟨rfl, hJx3⟩)
      · gi_wp2
        go_roundw
        case rel => exact ⟨m, k + 1, by omega, rfl, by rw [nat_limbs.down_succ hmk]; exact hJ3, hKt hnx hk3⟩
        case measure => simp [intOf]
      · gi_wp2
        refine bodyPost_ret (results_none rfl _ _ _) rfl ?_
        exact ⟨⟨_, rfl⟩, .inr ⟨k + 1, by omega, by rw [nat_limbs.down_succ hmk]; exact hJx3⟩⟩
set_option maxRecDepth 100000 in
set_option maxHeartbeats 1000000 in
theorem nat_limbs1_nil_in (F : Fence) (f : Nat) (h56 : F.fn 56) (hro : F.round = none) (l Bs cap : Nat) (a : Option Addr) (J : World → Prop) (W : World) (hBs : W.cell? ⟨Bs, 0, none⟩ = some (.slice a 0 cap)) (h0 : J W) :
    CallsIn F f Try.prog 56 #[.func (.yield l) #[] #[], .pointer (some ⟨Bs, 0, none⟩)] W fun e W' => (∃ v, e = .returned v) ∧ J W' := by
  refine callsIn_of_wp Try.func56 rfl h56 ?_ hro
  simp only [Try.ntmps56, List.size_toArray, List.length_cons, List.length_nil, Nat.reduceAdd, Nat.reduceSub, Array.replicate_succ, Array.replicate_zero, List.push_toArray, List.append_toArray, List.nil_append, List.cons_append]
  gi_wp2
  gi_loopw [3] (fun i wr => i = .int .i64 (-1) ∧ J wr) (fun _ _ => 0)
  case atStart => exact ⟨rfl, h0⟩
  case round =>
    obtain ⟨rfl, hJs⟩ := hrel
    gi_wp2
    go_end0
    exact ⟨⟨_, rfl⟩, hJs⟩
set_option maxHeartbeats 1000000 in
theorem nat_limbs_in (F : Fence) (f : Nat) (h55 : F.fn 55) (hro : F.round = none) (a : Option Addr) (len cap : Nat) (w : World) :
    CallsIn F f Try.prog 55 #[.slice a len cap] w fun e w' => e = .returned (.func (.func 56) #[] #[.pointer (some ⟨w.heap.size, 0, none⟩)]) ∧ w' = w.alloc (.cells #[.slice a len cap] 22) := by
  refine callsIn_of_wp Try.func55 rfl h55 ?_ hro
  simp only [Try.ntmps55, List.size_toArray, List.length_cons, List.length_nil, Nat.reduceAdd, Nat.reduceSub, Array.replicate_succ, Array.replicate_zero, List.push_toArray, List.append_toArray, List.nil_append, List.cons_append]
  gi_wp2
  go_ret
  exact ⟨rfl, rfl⟩
/-- The cells of a slice of limbs, below n₀. -/
def nat_limbs.At (n₀ : Nat) (W : World) (a : Option Addr) (zs : List Int) : Prop :=
  zs = [] ∨ ∃ ad, a = some ad ∧ ad.block < n₀ ∧ ∀ j, j < zs.length → W.cell? (ad.add j) = some (.int .u32 (zs[j]?.getD 0))
theorem nat_limbs.At.below {n₀ : Nat} {A B : World} (h : Below n₀ A B) {a : Option Addr} {zs : List Int} : nat_limbs.At n₀ A a zs → nat_limbs.At n₀ B a zs
  | .inl e => .inl e
  | .inr ⟨ad, e, hb, hc⟩ => .inr ⟨ad, e, hb, fun j hj => (h.cell (by rw [add_block]; exact hb)).trans (hc j hj)⟩
theorem nat_limbs.At.of {W : World} {A : Option Addr} {zs : List Int} (h : Kd.C (Kd.int .u32) W A zs.length zs) : nat_limbs.At W.heap.size W A zs := by
  rcases Nat.eq_zero_or_pos zs.length with h0 | h0
  · exact .inl (List.eq_nil_of_length_eq_zero h0)
  · obtain ⟨ad, e, hc⟩ := h.2.2 h0
    have hcell : ∀ j, j < zs.length → W.cell? (ad.add j) = some (.int .u32 (zs[j]?.getD 0)) := fun j hj => by
      obtain ⟨c, hl, hk, hu⟩ := hc j zs[j] (List.getElem?_eq_getElem hj)
      have hc1 : c = [.int .u32 zs[j]] := hk
      have h2 := hu 0 (.int .u32 zs[j]) (by rw [hc1]; rfl)
      have h3 : j * (Kd.int .u32).sz + 0 = j := by show j * 1 + 0 = j; omega
      rw [h3] at h2
      rw [List.getElem?_eq_getElem hj]; exact h2
    refine .inr ⟨ad, e, ?_, hcell⟩
    obtain ⟨o, ho, _⟩ := cells_of_cell (hcell 0 h0)
    rw [add_block] at ho
    exact (Array.getElem?_eq_some_iff.1 ho).1
theorem nat_limbs_stops (F : Fence) (f : Nat) (h56 : F.fn 56) (hro : F.round = none) (hf : 1 ≤ f) (Bs n₀ cap : Nat) (a : Option Addr) (zs : List Int) (hreach : zs.length ≤ 9223372036854775807) (Kp : World → World → Prop) (hKr : ∀ A, Kp A A) (hKt : ∀ {A B C : World}, Kp A B → Kp B C → Kp A C) (hK : ∀ {A B : World}, Kp A B → ∀ p : Addr, (p.block < n₀ ∨ p.block = Bs) → B.cell? p = A.cell? p) (w : World) (hBs : Bs < w.heap.size) (hn₀ : n₀ ≤ w.heap.size)
    (hc : w.cell? ⟨Bs, 0, none⟩ = some (.slice a zs.length cap)) (hI : nat_limbs.At n₀ w a zs) :
    SeqStopsK F f Try.prog 56 #[.pointer (some ⟨Bs, 0, none⟩)] (fun x : Fin zs.length => #[Value.int .i64 (x.1 : Int), Value.int .u32 (zs[x.1]?.getD 0)]) Kp (fun ys => ys = nat_limbs.down zs.length zs.length)
      (fun pre => ∃ k, k ≤ zs.length ∧ pre = nat_limbs.down zs.length k) zs.length w := fun l J Jx W hW _ _ hY h0 => by
  have hc' := (hW.cell (p := ⟨Bs, 0, none⟩) hBs).trans hc
  rcases hI.below (hW.mono hn₀) with rfl | ⟨ad, rfl, hb, hcs⟩
  · exact (nat_limbs1_nil_in F f h56 hro l Bs cap a (J []) W hc' h0).mono fun e W' ⟨he, hj⟩ => ⟨he, .inl ⟨_, rfl, hj⟩⟩
  · refine (nat_limbs1_in F f h56 hro hf l Bs n₀ cap ad zs hreach hb Kp hKr hKt hK J Jx hY W hc' hcs h0).mono ?_
    rintro e W' ⟨he, hj | ⟨k, hk, hj⟩⟩
    · exact ⟨he, .inl ⟨_, rfl, hj⟩⟩
    · exact ⟨he, .inr ⟨_, ⟨k, hk, rfl⟩, hj⟩⟩

/-! ### nat_Cmp: function 35 -/
attribute [local go_sem] Oper.semAt_some
/-- From the limb m down: the comparison of two rows. -/
def nat_Cmp.g : Nat → List Int → List Int → Int
  | 0, _, _ => 0
  | m + 1, x, y => if x[m]?.getD 0 < y[m]?.getD 0 then -1 else if y[m]?.getD 0 < x[m]?.getD 0 then 1 else nat_Cmp.g m x y
theorem nat_Cmp.g_skip (x y : List Int) {n : Nat} : ∀ {k m : Nat}, m + k = n → (∀ p ∈ nat_limbs.down n k, x[p.1]?.getD 0 = y[p.1]?.getD 0) → nat_Cmp.g n x y = nat_Cmp.g m x y
  | 0, m, h, _ => by obtain rfl : m = n := by omega
                     rfl
  | k + 1, m, h, he => by
    rw [nat_limbs.down_succ (n := n) (k := k) (m := m) (by omega)] at he
    have ih := nat_Cmp.g_skip x y (n := n) (k := k) (m := m + 1) (by omega) (fun p hp => he p (List.mem_append_left _ hp))
    have hm := he ⟨m, by omega⟩ (by simp)
    dsimp only at hm
    rw [ih, nat_Cmp.g, if_neg (by omega), if_neg (by omega)]
def nat_Cmp.f (k : Nat) (l0 : List Int) (l1 : List Int) : Option Int := (nat_trim.f k l0).bind fun x => ((nat_trim.f k l1).bind fun y => (some (if x.length < y.length then -1 else if y.length < x.length then 1 else nat_Cmp.g x.length x y)))
theorem nat_Cmp.mono : ∀ a0 a1 k, LeO (nat_Cmp.f k a0 a1) (nat_Cmp.f (k + 1) a0 a1) := by
  intro a0 a1 k
  unfold nat_Cmp.f
  exact LeO.bind (nat_trim.mono _ _) (fun _ => LeO.bind (nat_trim.mono _ _) (fun _ => LeO.refl _))
set_option maxHeartbeats 8000000 in
set_option maxRecDepth 100000 in
theorem nat_Cmp.calls (k : Nat) (A0 : Option Addr) (c0 : Nat) (l0 : List Int) (A1 : Option Addr) (c1 : Nat) (l1 : List Int) (r : Int) (w : World) (hr0 : Kd.C (Kd.int .u32) w A0 l0.length l0) (hc0 : l0.length ≤ c0) (hr1 : Kd.C (Kd.int .u32) w A1 l1.length l1) (hc1 : l1.length ≤ c1) (h : nat_Cmp.f k l0 l1 = some r) :
    Calls Try.prog 35 #[.slice A0 l0.length c0, .slice A1 l1.length c1] w fun e w' => e = .returned (.int .i64 r) ∧ Below w.heap.size w w' := by
  obtain ⟨x, hx, h⟩ := Option.bind_eq_some_iff.mp h
  obtain ⟨y, hy, h⟩ := Option.bind_eq_some_iff.mp h
  have hr := Option.some.inj h
  clear h
  refine (callsIn_wide (n := 4)).1 ?_
  refine callsIn_of_wp_marks Try.func35 rfl trivial ?_ rfl
  simp only [Try.ntmps35, List.size_toArray, List.length_cons, List.length_nil, Nat.reduceAdd, Nat.reduceSub, Array.replicate_succ, Array.replicate_zero, List.push_toArray, List.append_toArray, List.nil_append, List.cons_append]
  have hV0 : Kd.V (Kd.int .u32) 42 w w.heap.size (fun q => q < w.heap.size) (.slice A0 l0.length c0) l0 := Kd.V_mk hc0 (Kd.C_F (Kd.heap_int .u32) hr0)
  have hV1 : Kd.V (Kd.int .u32) 42 w w.heap.size (fun q => q < w.heap.size) (.slice A1 l1.length c1) l1 := Kd.V_mk hc1 (Kd.C_F (Kd.heap_int .u32) hr1)
  gi_wp2
  have bB := (Boxed.new w 22 (.slice A1 l1.length c1)).alloc (.cells #[.int .i64 0] 3)
  have bR := Boxed.new (w.alloc (.cells #[.slice A1 l1.length c1] 22)) 3 (.int .i64 0)
  rw [World.size_alloc] at bR
  have hB0 : Below w.heap.size w ((w.alloc (.cells #[.slice A1 l1.length c1] 22)).alloc (.cells #[.int .i64 0] 3)) := ((Below.refl _ w).alloc (Nat.le_refl _) _).alloc (by simp) _
  have hV0' := Kd.V_below hV0 hB0
  have hV1' := Kd.V_below hV1 hB0
  have hz0 : ((w.alloc (.cells #[.slice A1 l1.length c1] 22)).alloc (.cells #[.int .i64 0] 3)).heap.size = w.heap.size + 2 := by simp
  generalize (w.alloc (.cells #[.slice A1 l1.length c1] 22)).alloc (.cells #[.int .i64 0] 3) = W0 at *
  have hbc := bB.cell
  have hbf := bB.frozen
  rename_i K0 hK0
  have rest : ∀ (A3 : Option Addr) (c3 : Nat) (A4 : Option Addr) (c4 : Nat) (w2 : World), Boxed w2 w.heap.size 22 (.slice A1 l1.length c1) → Boxed w2 (w.heap.size + 1) 3 (.int .i64 0) → Below w.heap.size w w2 →
      Kd.V (Kd.int .u32) 42 w2 w.heap.size (fun q => q < w.heap.size ∨ w.heap.size + 2 ≤ q) (.slice A3 x.length c3) x → Kd.V (Kd.int .u32) 42 w2 w.heap.size (fun q => q < w.heap.size ∨ w.heap.size + 2 ≤ q) (.slice A4 y.length c4) y → K0 { tmps := #[.slice A3 x.length c3, .slice A1 l1.length c1, undef, .pointer (some ⟨w.heap.size, 0, none⟩), .pointer (some ⟨w.heap.size + 1, 0, none⟩), undef, undef, .slice A0 l0.length c0, .slice A3 x.length c3, .slice A1 l1.length c1, .slice A4 y.length c4, undef, undef, undef, undef, undef, undef, undef, undef, undef, undef, undef, undef, undef, undef, undef, undef, undef, undef, undef, undef, undef, undef, undef, undef, undef, undef, undef, undef, undef, undef], defers := [] } (w2.setCell ⟨w.heap.size, 0, none⟩ (.slice A4 y.length c4)) := by
    intro A3 c3 A4 c4 w2 bB2 bR2 hB2 hX hY
    refine hK0 _ _ ?_
    dsimp only
    have bB3 := bB2.set (.slice A4 y.length c4)
    have bR3 := bR2.other (B' := w.heap.size) (by omega) (.slice A4 y.length c4)
    have hB3 := hB2.setCell (p := ⟨w.heap.size, 0, none⟩) (Nat.le_refl _) (.slice A4 y.length c4)
    have hne : ∀ q, q < w.heap.size ∨ w.heap.size + 2 ≤ q → q ≠ w.heap.size := fun q h => by omega
    have hX3 := Kd.V_far hX (p := ⟨w.heap.size, 0, none⟩) hne (.slice A4 y.length c4)
    have hY3 := Kd.V_far hY (p := ⟨w.heap.size, 0, none⟩) hne (.slice A4 y.length c4)
    clear hK0 bB2 bR2 hB2 hX hY
    generalize w2.setCell ⟨w.heap.size, 0, none⟩ (.slice A4 y.length c4) = W3 at *
    have hx3 := Kd.V_reads' hX3
    have hy3 := Kd.V_reads' hY3
    have hxl : x.length ≤ 9223372036854775807 := hx3.2.2.2.1
    have hyl : y.length ≤ 9223372036854775807 := hy3.2.2.2.1
    have hbc := bB3.cell
    have hrc := bR3.cell
    have hrf := bR3.frozen
    gi_wp2
    · refine ⟨.int .i64 (-1), ?_, ?_⟩
      · have hc5 := World.cell?_setCell_same' W3 ⟨w.heap.size + 1, 0, none⟩ (.int .i64 (-1)) (by rw [hrc]; rfl)
        simp [results, Try.f35, go_sem, hc5]
      · rw [if_pos (by omega)] at hr
        subst hr
        exact ⟨rfl, hB3.setCell (p := ⟨w.heap.size + 1, 0, none⟩) (Nat.le_succ _) _⟩
    · refine ⟨.int .i64 1, ?_, ?_⟩
      · have hc5 := World.cell?_setCell_same' W3 ⟨w.heap.size + 1, 0, none⟩ (.int .i64 1) (by rw [hrc]; rfl)
        simp [results, Try.f35, go_sem, hc5]
      · rw [if_neg (by omega), if_pos (by omega)] at hr
        subst hr
        exact ⟨rfl, hB3.setCell (p := ⟨w.heap.size + 1, 0, none⟩) (Nat.le_succ _) _⟩
    · rw [if_neg (by omega), if_neg (by omega)] at hr
      refine ⟨trivial, ?_⟩
      gi_at_call 55
      refine (nat_limbs_in Fence.wide _ trivial rfl _ _ _ _).mono ?_
      rintro e w' ⟨rfl, rfl⟩
      have bN := Boxed.new W3 22 (.slice A3 x.length c3)
      have bB4 := bB3.alloc (.cells #[.slice A3 x.length c3] 22)
      have bR4 := bR3.alloc (.cells #[.slice A3 x.length c3] 22)
      have hB4 : Below w.heap.size w (W3.alloc (.cells #[.slice A3 x.length c3] 22)) := hB3.alloc hB3.size _
      have hx4 := nat_limbs.At.of (Kd.V_reads' (Kd.V_alloc hX3 (.cells #[.slice A3 x.length c3] 22))).2.2
      have hy4 := nat_limbs.At.of (Kd.V_reads' (Kd.V_alloc hY3 (.cells #[.slice A3 x.length c3] 22))).2.2
      have hlt4 : W3.heap.size < (W3.alloc (.cells #[.slice A3 x.length c3] 22)).heap.size := by simp
      generalize (W3.alloc (.cells #[.slice A3 x.length c3] 22)) = W4 at *
      gi_wp2
      refine wpIn_rangeFunc_ownG rfl (by omega) (gf := 56) (lb := #[.pointer (some ⟨W3.heap.size, 0, none⟩)]) rfl trivial (enters_of Try.func56 (by kernel_rfl) rfl)
        (nat_limbs_stops Fence.wide 3 trivial rfl (by omega) W3.heap.size W4.heap.size c3 A3 x hxl (Below W4.heap.size) (Below.refl _) (fun h h' => h.trans h') (fun h p hp => h.cell (hp.elim id (fun e => e ▸ hlt4))) W4 hlt4 (Nat.le_refl _) bN.cell hx4) belowK_t (belowK_b (Nat.le_refl _)) (Below.refl _ _) (fun _ => rfl)
        (fun pre W => (∀ p ∈ pre, x[p.1]?.getD 0 = y[p.1]?.getD 0) ∧ Below W4.heap.size W4 W)
        (fun c pre W => (c = .ret ∧ ∃ ini last, pre = ini ++ [last] ∧ (∀ p ∈ ini, x[p.1]?.getD 0 = y[p.1]?.getD 0) ∧ ((x[last.1]?.getD 0 < y[last.1]?.getD 0 ∧ W.cell? ⟨w.heap.size + 1, 0, none⟩ = some (.int .i64 (-1))) ∨ (y[last.1]?.getD 0 < x[last.1]?.getD 0 ∧ W.cell? ⟨w.heap.size + 1, 0, none⟩ = some (.int .i64 1)))) ∧ Below w.heap.size W4 W)
        (OwnFrom.and (Own.from (fun s A B row hs hg hr => hs) _) (ownFrom_below (Nat.le_refl _) (Nat.le_refl _)))
        (fun c => OwnFrom.and (Own.from (fun s A B row hs hg hr => by obtain ⟨hc, ini, last, e1, e2, e3⟩ := hs; exact ⟨hc, ini, last, e1, e2, e3.imp (fun h => ⟨h.1, cell_kept h.2 hg hr⟩) (fun h => ⟨h.1, cell_kept h.2 hg hr⟩)⟩) _) (ownFrom_below hB4.size hB4.size))
        ⟨by simp, Below.refl _ _⟩
        (fun z => { tmps := #[.slice A3 x.length c3, .slice A1 l1.length c1, undef, .pointer (some ⟨w.heap.size, 0, none⟩), .pointer (some ⟨w.heap.size + 1, 0, none⟩), .int .i64 (z.1 : Int), .int .u32 (x[z.1]?.getD 0), .slice A0 l0.length c0, .slice A3 x.length c3, .slice A1 l1.length c1, .slice A4 y.length c4, .bool false, .slice A3 x.length c3, .int .i64 x.length, .slice A4 y.length c4, .int .i64 y.length, .bool false, .bool false, .slice A3 x.length c3, .int .i64 x.length, .slice A4 y.length c4, .int .i64 y.length, .bool false, .slice A3 x.length c3, .func (.func 56) #[] #[.pointer (some ⟨W3.heap.size, 0, none⟩)], .int .i64 (z.1 : Int), .int .u32 (x[z.1]?.getD 0), undef, undef, undef, undef, undef, undef, undef, undef, undef, undef, undef, undef, undef, undef], defers := [] }) ?assign ?body ?done ?stop
      case assign =>
        intro l z W K hK
        have hgx : x[z.1]?.getD 0 = x[z.1] := by simp
        dsimp only at hK
        rw [hgx] at hK
        gi_wp2
        exact hK
      case body =>
        rintro l pre z W ⟨hp, hB⟩ _
        have hbc5 := (hB.cell (p := ⟨w.heap.size, 0, none⟩) bB4.lt).trans bB4.cell
        have hrc5 := (hB.cell (p := ⟨w.heap.size + 1, 0, none⟩) bR4.lt).trans bR4.cell
        have hrf5 := (hB.frozen (p := ⟨w.heap.size + 1, 0, none⟩) bR4.lt).trans bR4.frozen
        have hz : z.1 < y.length := by have := z.2; omega
        rcases hy4 with rfl | ⟨ad, rfl, hbd, hcs⟩
        · exact absurd hz (by simp)
        have hcy := (hB.cell (p := ad.add z.1) (by rw [add_block]; exact hbd)).trans (hcs z.1 hz)
        have hgx : x[z.1]?.getD 0 = x[z.1] := by simp
        have hgy : y[z.1]?.getD 0 = y[z.1] := by simp [hz]
        gi_wp2
        · have hlt : x[z.1]?.getD 0 < y[z.1]?.getD 0 := by rw [hgx, hgy]; assumption
          exact ⟨(KeepsOthers.setCell _ _ _).from _, ⟨rfl, pre, z, rfl, hp, .inl ⟨hlt, World.cell?_setCell_same' _ _ _ (by rw [hrc5]; rfl)⟩⟩, (hB.mono hB4.size).setCell (p := ⟨w.heap.size + 1, 0, none⟩) (Nat.le_succ _) _⟩
        · have hlt : y[z.1]?.getD 0 < x[z.1]?.getD 0 := by rw [hgx, hgy]; assumption
          exact ⟨(KeepsOthers.setCell _ _ _).from _, ⟨rfl, pre, z, rfl, hp, .inr ⟨hlt, World.cell?_setCell_same' _ _ _ (by rw [hrc5]; rfl)⟩⟩, (hB.mono hB4.size).setCell (p := ⟨w.heap.size + 1, 0, none⟩) (Nat.le_succ _) _⟩
        · have heq : x[z.1]?.getD 0 = y[z.1]?.getD 0 := by rw [hgx, hgy]; omega
          exact ⟨KeepsFrom.refl _ _, Below.refl _ _, fun p hp' => (List.mem_append.1 hp').elim (hp p) (fun e => by simp at e; subst e; exact heq), hB⟩
      case done =>
        rintro D ys W hD rfl ⟨hne, hB⟩ hK
        have hrc5 := (hB.cell (p := ⟨w.heap.size + 1, 0, none⟩) bR4.lt).trans bR4.cell
        have hrf5 := (hB.frozen (p := ⟨w.heap.size + 1, 0, none⟩) bR4.lt).trans bR4.frozen
        gi_wp2
        have hK' := (KeepsOthers.setCell W ⟨w.heap.size + 1, 0, none⟩ (.int .i64 0)).same D _ hK rfl
        refine ⟨by simp, .inl ⟨_, _, rfl, run_takeDeferred hK', ?_⟩⟩
        have hc5 := cell_kept (World.cell?_setCell_same' W ⟨w.heap.size + 1, 0, none⟩ (.int .i64 0) (by rw [hrc5]; rfl)) (grownBy_putObj' _ D (.deferred none)) (fun r e => by cases e; exact ⟨_, hK', rfl⟩)
        have hg := nat_Cmp.g_skip x y (n := x.length) (k := x.length) (m := 0) (by omega) hne
        have hr0 : r = 0 := by rw [← hr, hg]; rfl
        subst hr0
        refine ⟨.int .i64 0, ?_, rfl, ?_⟩
        · simp [results, Try.f35, go_sem, hc5]
        · have hBW : Below w.heap.size w W := hB4.trans (hB.mono hB4.size)
          exact (hBW.setCell (p := ⟨w.heap.size + 1, 0, none⟩) (Nat.le_succ _) _).trans (belowK_b (w := w) (Nat.le_refl _) _ D _ _ (Nat.le_trans hB4.size hD) hK' rfl rfl)
      case stop =>
        rintro D c pre W hD ⟨k', hk', rfl⟩ ⟨⟨rfl, ini, last, e1, e2, e3⟩, hB⟩ hK
        gi_wp2
        refine ⟨by simp, .inl ⟨_, _, rfl, run_takeDeferred hK, ?_⟩⟩
        have hB5 : Below w.heap.size w (W.putObj D (.deferred none)) := (hB4.trans hB).trans (belowK_b (w := w) (Nat.le_refl _) W D _ _ (Nat.le_trans hB4.size hD) hK rfl rfl)
        obtain ⟨k, rfl⟩ : ∃ k, k' = k + 1 := by
          cases k' with
          | zero => simp [nat_limbs.down] at e1
          | succ k => exact ⟨k, rfl⟩
        obtain ⟨m, hm⟩ : ∃ m, m + 1 + k = x.length := ⟨x.length - 1 - k, by omega⟩
        rw [nat_limbs.down_succ hm] at e1
        obtain ⟨rfl, e5⟩ := List.append_inj' e1 rfl
        obtain rfl : (⟨m, by omega⟩ : Fin x.length) = last := by simpa using e5
        have hg := nat_Cmp.g_skip x y (n := x.length) (k := k) (m := m + 1) (by omega) e2
        rcases e3 with ⟨h1, h2⟩ | ⟨h1, h2⟩
        · have hc5 := cell_kept h2 (grownBy_putObj' _ D (.deferred none)) (fun r e => by cases e; exact ⟨_, hK, rfl⟩)
          have hrr : r = -1 := by rw [← hr, hg, nat_Cmp.g, if_pos h1]
          subst hrr
          exact ⟨.int .i64 (-1), by simp [results, Try.f35, go_sem, hc5], rfl, hB5⟩
        · have hc5 := cell_kept h2 (grownBy_putObj' _ D (.deferred none)) (fun r e => by cases e; exact ⟨_, hK, rfl⟩)
          have hrr : r = 1 := by
            have h1' := h1
            dsimp only at h1'
            rw [← hr, hg, nat_Cmp.g, if_neg (by omega), if_pos h1]
          subst hrr
          exact ⟨.int .i64 1, by simp [results, Try.f35, go_sem, hc5], rfl, hB5⟩
  have hmx : Try.prog.follows .mixedOrders = true := by kernel_rfl
  refine wpIn_region_any (by assumption) ?_
  change wpAnyIn _ _ _ _ _ _ _ _ _ (World.drew _)
  refine wpAnyIn_ready (rs := [0,2]) (by kernel_rfl) (by simp) ?_
  refine AllReadyIn.cons rfl (fun K hK => ?_) ?_
  · go_simp
    refine hK _ _ ?_
    clear hK K
    refine wpAnyIn_ready (rs := [1,2]) (by kernel_rfl) (by simp) ?_
    refine AllReadyIn.cons rfl (fun K hK => ?_) ?_
    · go_simp
      refine ⟨trivial, ?_⟩
      gi_at_call 40
      refine (callsIn_wide.2 (nat_trim.calls k (fun q => q < w.heap.size) _ _ l0 x _ (Kd.V_drew hV0') hx)).mono ?_
      rintro e w1 ⟨v1, rfl, ho1, hb1⟩
      obtain ⟨A3, c3, rfl⟩ := Kd.V_slice ho1
      have bB1 : Boxed w1 _ _ _ := (hb1.block _ bB.lt).trans bB
      have bR1 : Boxed w1 _ _ _ := (hb1.block _ bR.lt).trans bR
      have hbc1 := bB1.cell
      have hbf1 := bB1.frozen
      have hV1'' := Kd.V_below (Kd.V_drew hV1') hb1
      refine hK _ _ ?_
      clear hK K
      refine wpAnyIn_ready (rs := [2]) (by kernel_rfl) (by simp) ?_
      refine AllReadyIn.cons rfl (fun K hK => ?_) AllReadyIn.nil
      go_simp
      refine hK _ _ ?_
      clear hK K
      refine wpAnyIn_ready (rs := [3]) (by kernel_rfl) (by simp) ?_
      refine AllReadyIn.cons rfl (fun K hK => ?_) AllReadyIn.nil
      go_simp
      refine ⟨trivial, ?_⟩
      gi_at_call 40
      refine (callsIn_wide.2 (nat_trim.calls k (fun q => q < w.heap.size) _ _ l1 y _ hV1'' hy)).mono ?_
      rintro e w2 ⟨v2, rfl, ho2, hb2⟩
      obtain ⟨A4, c4, rfl⟩ := Kd.V_slice ho2
      have bB2 : Boxed w2 _ _ _ := (hb2.block _ bB1.lt).trans bB1
      have bR2 : Boxed w2 _ _ _ := (hb2.block _ bR1.lt).trans bR1
      have hbc2 := bB2.cell
      have hbf2 := bB2.frozen
      have hsz1 : w.heap.size + 2 ≤ w1.heap.size := by rw [← hz0]; exact hb1.size
      refine hK _ _ ?_
      clear hK K
      refine wpAnyIn_ready (rs := [4]) (by kernel_rfl) (by simp) ?_
      refine AllReadyIn.cons rfl (fun K hK => ?_) AllReadyIn.nil
      go_simp
      refine hK _ _ ?_
      clear hK K
      refine wpAnyIn_ready (rs := [5]) (by kernel_rfl) (by simp) ?_
      refine AllReadyIn.cons rfl (fun K hK => ?_) AllReadyIn.nil
      go_simp
      refine hK _ _ ?_
      clear hK K
      refine wpAnyIn_done (by kernel_rfl) ?_ _
      exact rest A3 c3 A4 c4 w2 bB2 bR2 (hB0.trans (((below_drew (Below.refl _ W0)).trans hb1 |>.trans (hb2.mono hb1.size)).mono hB0.size)) (Kd.V_below (Kd.V_mono ho1 (fun q hq => hq.imp id (fun h => Nat.le_trans (Nat.le_of_eq hz0.symm) h))) hb2) (Kd.V_mono ho2 (fun q hq => hq.imp id (fun h => Nat.le_trans hsz1 h)))
    · refine AllReadyIn.cons rfl (fun K hK => ?_) AllReadyIn.nil
      go_simp
      refine hK _ _ ?_
      clear hK K
      refine wpAnyIn_ready (rs := [1]) (by kernel_rfl) (by simp) ?_
      refine AllReadyIn.cons rfl (fun K hK => ?_) AllReadyIn.nil
      go_simp
      refine ⟨trivial, ?_⟩
      gi_at_call 40
      refine (callsIn_wide.2 (nat_trim.calls k (fun q => q < w.heap.size) _ _ l0 x _ (Kd.V_drew hV0') hx)).mono ?_
      rintro e w1 ⟨v1, rfl, ho1, hb1⟩
      obtain ⟨A3, c3, rfl⟩ := Kd.V_slice ho1
      have bB1 : Boxed w1 _ _ _ := (hb1.block _ bB.lt).trans bB
      have bR1 : Boxed w1 _ _ _ := (hb1.block _ bR.lt).trans bR
      have hbc1 := bB1.cell
      have hbf1 := bB1.frozen
      have hV1'' := Kd.V_below (Kd.V_drew hV1') hb1
      refine hK _ _ ?_
      clear hK K
      refine wpAnyIn_ready (rs := [3]) (by kernel_rfl) (by simp) ?_
      refine AllReadyIn.cons rfl (fun K hK => ?_) AllReadyIn.nil
      go_simp
      refine ⟨trivial, ?_⟩
      gi_at_call 40
      refine (callsIn_wide.2 (nat_trim.calls k (fun q => q < w.heap.size) _ _ l1 y _ hV1'' hy)).mono ?_
      rintro e w2 ⟨v2, rfl, ho2, hb2⟩
      obtain ⟨A4, c4, rfl⟩ := Kd.V_slice ho2
      have bB2 : Boxed w2 _ _ _ := (hb2.block _ bB1.lt).trans bB1
      have bR2 : Boxed w2 _ _ _ := (hb2.block _ bR1.lt).trans bR1
      have hbc2 := bB2.cell
      have hbf2 := bB2.frozen
      have hsz1 : w.heap.size + 2 ≤ w1.heap.size := by rw [← hz0]; exact hb1.size
      refine hK _ _ ?_
      clear hK K
      refine wpAnyIn_ready (rs := [4]) (by kernel_rfl) (by simp) ?_
      refine AllReadyIn.cons rfl (fun K hK => ?_) AllReadyIn.nil
      go_simp
      refine hK _ _ ?_
      clear hK K
      refine wpAnyIn_ready (rs := [5]) (by kernel_rfl) (by simp) ?_
      refine AllReadyIn.cons rfl (fun K hK => ?_) AllReadyIn.nil
      go_simp
      refine hK _ _ ?_
      clear hK K
      refine wpAnyIn_done (by kernel_rfl) ?_ _
      exact rest A3 c3 A4 c4 w2 bB2 bR2 (hB0.trans (((below_drew (Below.refl _ W0)).trans hb1 |>.trans (hb2.mono hb1.size)).mono hB0.size)) (Kd.V_below (Kd.V_mono ho1 (fun q hq => hq.imp id (fun h => Nat.le_trans (Nat.le_of_eq hz0.symm) h))) hb2) (Kd.V_mono ho2 (fun q hq => hq.imp id (fun h => Nat.le_trans hsz1 h)))
  · refine AllReadyIn.cons rfl (fun K hK => ?_) AllReadyIn.nil
    go_simp
    refine hK _ _ ?_
    clear hK K
    refine wpAnyIn_ready (rs := [0]) (by kernel_rfl) (by simp) ?_
    refine AllReadyIn.cons rfl (fun K hK => ?_) AllReadyIn.nil
    go_simp
    refine hK _ _ ?_
    clear hK K
    refine wpAnyIn_ready (rs := [1]) (by kernel_rfl) (by simp) ?_
    refine AllReadyIn.cons rfl (fun K hK => ?_) AllReadyIn.nil
    go_simp
    refine ⟨trivial, ?_⟩
    gi_at_call 40
    refine (callsIn_wide.2 (nat_trim.calls k (fun q => q < w.heap.size) _ _ l0 x _ (Kd.V_drew hV0') hx)).mono ?_
    rintro e w1 ⟨v1, rfl, ho1, hb1⟩
    obtain ⟨A3, c3, rfl⟩ := Kd.V_slice ho1
    have bB1 : Boxed w1 _ _ _ := (hb1.block _ bB.lt).trans bB
    have bR1 : Boxed w1 _ _ _ := (hb1.block _ bR.lt).trans bR
    have hbc1 := bB1.cell
    have hbf1 := bB1.frozen
    have hV1'' := Kd.V_below (Kd.V_drew hV1') hb1
    refine hK _ _ ?_
    clear hK K
    refine wpAnyIn_ready (rs := [3]) (by kernel_rfl) (by simp) ?_
    refine AllReadyIn.cons rfl (fun K hK => ?_) AllReadyIn.nil
    go_simp
    refine ⟨trivial, ?_⟩
    gi_at_call 40
    refine (callsIn_wide.2 (nat_trim.calls k (fun q => q < w.heap.size) _ _ l1 y _ hV1'' hy)).mono ?_
    rintro e w2 ⟨v2, rfl, ho2, hb2⟩
    obtain ⟨A4, c4, rfl⟩ := Kd.V_slice ho2
    have bB2 : Boxed w2 _ _ _ := (hb2.block _ bB1.lt).trans bB1
    have bR2 : Boxed w2 _ _ _ := (hb2.block _ bR1.lt).trans bR1
    have hbc2 := bB2.cell
    have hbf2 := bB2.frozen
    have hsz1 : w.heap.size + 2 ≤ w1.heap.size := by rw [← hz0]; exact hb1.size
    refine hK _ _ ?_
    clear hK K
    refine wpAnyIn_ready (rs := [4]) (by kernel_rfl) (by simp) ?_
    refine AllReadyIn.cons rfl (fun K hK => ?_) AllReadyIn.nil
    go_simp
    refine hK _ _ ?_
    clear hK K
    refine wpAnyIn_ready (rs := [5]) (by kernel_rfl) (by simp) ?_
    refine AllReadyIn.cons rfl (fun K hK => ?_) AllReadyIn.nil
    go_simp
    refine hK _ _ ?_
    clear hK K
    refine wpAnyIn_done (by kernel_rfl) ?_ _
    exact rest A3 c3 A4 c4 w2 bB2 bR2 (hB0.trans (((below_drew (Below.refl _ W0)).trans hb1 |>.trans (hb2.mono hb1.size)).mono hB0.size)) (Kd.V_below (Kd.V_mono ho1 (fun q hq => hq.imp id (fun h => Nat.le_trans (Nat.le_of_eq hz0.symm) h))) hb2) (Kd.V_mono ho2 (fun q hq => hq.imp id (fun h => Nat.le_trans hsz1 h)))

end Go.Proofs.Ythodpjgmecnalaa.QNatGcds
