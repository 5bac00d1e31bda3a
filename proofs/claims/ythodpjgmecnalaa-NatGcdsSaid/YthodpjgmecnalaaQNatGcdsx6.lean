-- written by wip/wprint, a program of this session
import Derived.Test.YthodpjgmecnalaaQNatGcdsx0
import Derived.Test.YthodpjgmecnalaaQNatGcdsx1
import Derived.Test.YthodpjgmecnalaaQNatGcdsx2
import Derived.Test.YthodpjgmecnalaaQNatGcdsx3
import Derived.Test.YthodpjgmecnalaaQNatGcdsx5
namespace Go.Proofs.Ythodpjgmecnalaa.QNatGcds
open Go.RowKit Go.Proofs.YthodpjgmecnalaaW.PrintWords Go.Proofs.YthodpjgmecnalaaW.PrintLast Go.Proofs.YthodpjgmecnalaaW.PrintMore
open Go.Proofs.YthodpjgmecnalaaW.PrintWords.Kd renaming R_alloc → qa, R_drewN → qn, R_drew → qd, V_alloc → va, V_drewN → vn, V_drew → vd
open Go.Proofs.YthodpjgmecnalaaW.PrintWords renaming below_alloc → ba, pw_below_drewN → bn, below_drew1 → bd
attribute [local go_sem] max2_int min2_int max_two min_two max_three min_three max_four min_four   -- for this text's walks alone
set_option linter.unusedVariables false
set_option linter.unusedSimpArgs false

/-! ### nat_Text: function 30 -/
mutual
def nat_Text.l0 : Nat → List Int → List Int → Option (ByteArray)
 | 0, _, _ => none
 | k + 1, x3, x4 => if (x3.length : Int) > 0 then ((nat_short.f k x3 10).bind fun bt232 => (if x4.length < 140737488355328 then (nat_Text.l0 k bt232.1 (x4 ++ [(48 + bt232.2) % 256])) else (none))) else (nat_Text.l1 k x4 0 (wrap64 ((x4.length : Int) - 1)))
def nat_Text.l1 : Nat → List Int → Int → Int → Option (ByteArray)
 | 0, _, _, _ => none
 | k + 1, x4, x6, x7 => if x6 < x7 then (if 0 ≤ x7 then (if x7 < (x4.length : Int) then (if 0 ≤ x6 then (if x6 < (x4.length : Int) then (nat_Text.l1 k ((x4.set (x6 : Int).toNat (rd x4 x7)).set (x7 : Int).toNat (rd x4 x6)) (wrap64 (x6 + 1)) (wrap64 (x7 - 1))) else (none)) else (none)) else (none)) else (none)) else (some (strOfNums x4))
end
def nat_Text.f (k : Nat) (l0 : List Int) : Option (ByteArray) := (nat_Norm.f k l0).bind fun t229 => (if (t229.length : Int) = 0 then (some (⟨#[48]⟩ : ByteArray)) else (nat_Text.l0 k t229 ([] : List Int)))
theorem nat_Text.mono_l : ∀ k, (∀ y0 y1, LeO (nat_Text.l0 k y0 y1) (nat_Text.l0 (k + 1) y0 y1)) ∧ (∀ y0 y1 y2, LeO (nat_Text.l1 k y0 y1 y2) (nat_Text.l1 (k + 1) y0 y1 y2))
 | 0 => ⟨fun _ _ r h => by simp [nat_Text.l0] at h, fun _ _ _ r h => by simp [nat_Text.l1] at h⟩
 | k + 1 => by
  obtain ⟨ih0, ih1⟩ := nat_Text.mono_l k
  refine ⟨?_, ?_⟩
  ·intro y0 y1
   unfold nat_Text.l0
   repeat' first
   | (with_reducible exact ih0 _ _)
   | (with_reducible exact ih1 _ _ _)
   | (with_reducible exact nat_Norm.mono _ _)
   | (with_reducible exact nat_short.mono _ _ _)
   | (with_reducible exact LeO.refl _)
   | (with_reducible exact LeO.none _)
   | (with_reducible refine LeO.ite ?_ ?_)
   | (with_reducible refine LeO.bind ?_ (fun _ => ?_))
   | exact ih0 _ _
   | exact ih1 _ _ _
   | exact nat_Norm.mono _ _
   | exact nat_short.mono _ _ _
   | exact LeO.none _
   | refine LeO.ite ?_ ?_
   | refine LeO.bind ?_ (fun _ => ?_)
  ·intro y0 y1 y2
   unfold nat_Text.l1
   repeat' first
   | (with_reducible exact ih0 _ _)
   | (with_reducible exact ih1 _ _ _)
   | (with_reducible exact nat_Norm.mono _ _)
   | (with_reducible exact nat_short.mono _ _ _)
   | (with_reducible exact LeO.refl _)
   | (with_reducible exact LeO.none _)
   | (with_reducible refine LeO.ite ?_ ?_)
   | (with_reducible refine LeO.bind ?_ (fun _ => ?_))
   | exact ih0 _ _
   | exact ih1 _ _ _
   | exact nat_Norm.mono _ _
   | exact nat_short.mono _ _ _
   | exact LeO.none _
   | refine LeO.ite ?_ ?_
   | refine LeO.bind ?_ (fun _ => ?_)
theorem nat_Text.mono : ∀ a0 k, LeO (nat_Text.f k a0) (nat_Text.f (k + 1) a0) := by
 intro a0 k
 obtain ⟨ih0, ih1⟩ := nat_Text.mono_l k
 unfold nat_Text.f
 repeat' first
   | (with_reducible exact ih0 _ _)
   | (with_reducible exact ih1 _ _ _)
   | (with_reducible exact nat_Norm.mono _ _)
   | (with_reducible exact nat_short.mono _ _ _)
   | (with_reducible exact LeO.refl _)
   | (with_reducible exact LeO.none _)
   | (with_reducible refine LeO.ite ?_ ?_)
   | (with_reducible refine LeO.bind ?_ (fun _ => ?_))
   | exact ih0 _ _
   | exact ih1 _ _ _
   | exact nat_Norm.mono _ _
   | exact nat_short.mono _ _ _
   | exact LeO.none _
   | refine LeO.ite ?_ ?_
   | refine LeO.bind ?_ (fun _ => ?_)
def nat_Text.T12 : Bool × List (List Nat × List Nat) := (true, [([], []), ([], []), ([], []), ([], []), ([], []), ([], []), ([4, 5], [4, 5]), ([6], [6]), ([], []), ([], []), ([8, 9], [8, 9]), ([10], [10]), ([0, 1, 0, 1, 4, 5, 6, 7, 11], [0, 1]), ([12, 7, 0, 1, 4, 5, 6, 7, 11], [7, 12]), ([2, 3, 0, 1, 2, 3, 4, 5, 6, 7, 8, 9, 10, 11, 12, 13], [2, 3]), ([14, 11, 13, 0, 1, 2, 3, 4, 5, 6, 7, 8, 9, 10, 11, 12, 13], [11, 14])])
def nat_Text.B12 : List Nat := [0, 0, 0, 0, 0, 0, 48, 112, 0, 0, 768, 1792, 4083, 8179, 16383, 32767]
theorem nat_Text.tab12 : rtab .any (opsOf Try.f30 12) = nat_Text.T12 := by kernel_rfl
theorem nat_Text.bits12 : waitsOk nat_Text.T12.2 nat_Text.B12 = true := by kernel_rfl
set_option maxHeartbeats 8000000 in
set_option maxRecDepth 100000 in
theorem nat_Text.calls (k : Nat) (A0 : Option Addr) (c0 : Nat) (l0 : List Int) (r : ByteArray) (w : World) (hr0 : Kd.C (Kd.int .u32) w A0 l0.length l0) (hc0 : l0.length ≤ c0) (h : nat_Text.f k l0 = some r) :
  Calls Try.prog 30 #[.slice A0 l0.length c0] w fun e w' => e = .returned (.string r) ∧ Below w.heap.size w w' := by
 have HR0 := Aside0.mk hr0
 have HC0 := Aside0.mk hc0
 clear hr0 hc0
 have HB := Aside0.mk (Below.refl w.heap.size w)
 have H : ((nat_Norm.f k l0).bind fun t229 => (if (t229.length : Int) = 0 then (some (⟨#[48]⟩ : ByteArray)) else (nat_Text.l0 k t229 ([] : List Int)))) = some r := h
 clear h
 replace H := Option.bind_eq_some_iff.mp H
 obtain ⟨t229, A20, H⟩ := H
 have A2 := Aside0.mk A20
 clear A20
 by_cases c3 : (t229.length : Int) = 0
 ·rw [if_pos c3] at H
  have c3b0 : ((t229.length : Int) == 0) = true := beq_iff_eq.mpr c3
  have c3b1 : ((t229.length : Int) != 0) = false := bne_eq_false_iff_eq.mpr c3
  clear c3
  obtain rfl := Option.some.inj H
  go_enter Try.func30, Try.ntmps30
  go_wp2_with (first | ((with_reducible refine gate_callee (f := 27) rfl ?_); refine goesL_ (some 9) rfl rfl Try.func27 (by kernel_rfl) rfl #[.slice A0 l0.length c0] rfl (by (try simp only [List.map_toArray, List.map_cons, List.map_nil]); first | done | rfl | (simp only [List.length_drop, List.length_take]; rfl)) ?_; (with_reducible refine (nat_Norm.calls k _ _ l0 t229 _ ?side1 ?side2 A2.out).mono ?_); (case side1 => repeat (first | exact HR0.out | (with_reducible refine Kd.C_alloc ?_ _) | (with_reducible refine Kd.C_drewN ?_ _) | (with_reducible refine Kd.C_drew ?_))); (case side2 => exact HC0.out); rintro e w4 ⟨v230, rfl, ho0, hb⟩; refine ⟨_, rfl, ?_⟩; have HO231 := Aside0.mk (Kd.R_lower ho0 (below_size (by repeat (first | (with_reducible first | exact HB.out | apply ba | apply bn | apply bd) | exact HB.out)))); replace HB := Aside0.mk (below_step (by repeat (first | (with_reducible first | exact HB.out | apply ba | apply bn | apply bd) | exact HB.out)) hb); (try clear hb); (try clear hb2); (try clear hk); (try clear hi); (try clear ho0); obtain ⟨Ao5, co5, eo5⟩ := Kd.R_slice HO231.out; subst eo5))
  go_ret
  exact ⟨by first | rfl | (simp [errW_none, errW_some] <;> rfl) | (simp [*, errW_none, errW_some] <;> rfl), by repeat (first | (with_reducible first | exact HB.out | apply ba | apply bn | apply bd) | exact HB.out)⟩
 ·rw [if_neg c3] at H
  have c3b0 : ((t229.length : Int) == 0) = false := beq_eq_false_iff_ne.mpr c3
  have c3b1 : ((t229.length : Int) != 0) = true := bne_iff_ne.mpr c3
  have c3b2 : ¬ (t229 = []) := fun h_ => c3 (by rw [h_]; rfl)
  have H' := Aside0.mk H
  clear H
  go_enter Try.func30, Try.ntmps30
  go_wp2_with (first | ((with_reducible refine gate_callee (f := 27) rfl ?_); refine goesL_ (some 9) rfl rfl Try.func27 (by kernel_rfl) rfl #[.slice A0 l0.length c0] rfl (by (try simp only [List.map_toArray, List.map_cons, List.map_nil]); first | done | rfl | (simp only [List.length_drop, List.length_take]; rfl)) ?_; (with_reducible refine (nat_Norm.calls k _ _ l0 t229 _ ?side1 ?side2 A2.out).mono ?_); (case side1 => repeat (first | exact HR0.out | (with_reducible refine Kd.C_alloc ?_ _) | (with_reducible refine Kd.C_drewN ?_ _) | (with_reducible refine Kd.C_drew ?_))); (case side2 => exact HC0.out); rintro e w6 ⟨v230, rfl, ho0, hb⟩; refine ⟨_, rfl, ?_⟩; have HO231 := Aside0.mk (Kd.R_lower ho0 (below_size (by repeat (first | (with_reducible first | exact HB.out | apply ba | apply bn | apply bd) | exact HB.out)))); replace HB := Aside0.mk (below_step (by repeat (first | (with_reducible first | exact HB.out | apply ba | apply bn | apply bd) | exact HB.out)) hb); (try clear hb); (try clear hb2); (try clear hk); (try clear hi); (try clear ho0); obtain ⟨Ao7, co7, eo7⟩ := Kd.R_slice HO231.out; subst eo7))
  go_loopg [3, 4] k (fun kq v3 v4 w' => ∃ (x3_1 : List Int) (x4_1 : List Int), Aside0 (nat_Text.l0 kq x3_1 x4_1 = some r) ∧ Aside0 (kq ≤ k) ∧ Aside0 (Kd.V (Kd.int .u32) 42 w' w.heap.size (fun k_ => some k_ ≠ (v4 : Value).ownBlock) v3 x3_1) ∧ Aside0 (Kd.R (Kd.int .u8) 5 w' w.heap.size (fun _ => True) v4 x4_1) ∧ Aside0 (Below w.heap.size w w'))
  case atStart => exact ⟨(t229), (([] : List Int)), H', ⟨Nat.le_refl _⟩, ⟨Kd.R_V (by (with_reducible repeat first | apply qa | apply qn | apply qd); exact Kd.R_mono HO231.out (fun _ hk => (by simp [Value.ownBlock])))⟩, ⟨by first | exact Kd.R_nil _ _ _ _ _ | exact Kd.N_nil _ _ _ _ _ | exact Kd.V_nil _ _ _ _ _ | exact Kd.Q_nil _ _ _ _ _ | exact Kd.S_nil _ _ _ _ _⟩, ⟨by repeat (first | (with_reducible first | exact HB.out | apply ba | apply bn | apply bd) | exact HB.out)⟩⟩
  case round =>
   clear H'
   (try clear c2); (try clear p2); (try clear c3); (try clear c3b0); (try clear c3b1); (try clear c3b2)
   obtain ⟨x3_1, x4_1, HA, HK1, HO_3, HO_4, HB⟩ := hrel
   cases gk with
   | zero => exact absurd HA.out (by simp [nat_Text.l0])
   | succ k1 =>
    have H := HA.out
    clear HA
    simp only [nat_Text.l0] at H
    by_cases c8 : (x3_1.length : Int) > 0
    ·rw [if_pos c8] at H
     have c8b0 : decide (0 < (x3_1.length : Int)) = true := decide_eq_true c8
     have c8b1 : decide (0 < x3_1.length) = true := decide_eq_true (by omega)
     clear c8
     replace H := Option.bind_eq_some_iff.mp H
     obtain ⟨⟨t232, t235⟩, A90, H⟩ := H
     replace H : (if x4_1.length < 140737488355328 then (nat_Text.l0 k1 t232 (x4_1 ++ [(48 + t235) % 256])) else (none)) = some r := H
     have A9 := Aside0.mk A90
     clear A90
     by_cases c10 : x4_1.length < 140737488355328
     ·rw [if_pos c10] at H
      have LMc10 := Aside0.mk c10
      clear c10
      obtain ⟨y236, hy236⟩ : ∃ y_ : List Int, y_ = (x4_1 ++ [(48 + t235) % 256]) := ⟨_, rfl⟩
      replace H : (nat_Text.l0 k1 t232 y236) = some r := by first | (rw [hy236]; with_reducible exact H) | (have H2_ := (Option.bind_some _ _).symm.trans H; rw [hy236]; with_reducible exact H2_) | (have H2_ := (Option.bind_some _ _).symm.trans H; with_reducible exact H2_) | with_reducible exact H | (rw [hy236]; exact H) | exact H
      have Ny236 := Aside0.mk hy236
      clear hy236
      have H' := Aside0.mk H
      clear H
      obtain ⟨Ao11, co11, eo11⟩ := Kd.V_slice HO_3.out
      subst eo11
      go_wp2_with (first | ((with_reducible refine gate_callee (f := 45) rfl ?_); refine goesL_ (some 18) rfl rfl Try.func45 (by kernel_rfl) rfl #[.slice Ao11 x3_1.length co11, .int .u32 10] rfl (by (try simp only [List.map_toArray, List.map_cons, List.map_nil]); first | done | rfl | (simp only [List.length_drop, List.length_take]; rfl)) ?_; (with_reducible refine (nat_short.calls k1 _ _ x3_1 10 t232 t235 _ ?side1 ?side2 A9.out).mono ?_); (case side1 => repeat (first | exact (Kd.V_reads' HO_3.out).2.2 | (with_reducible refine Kd.C_alloc ?_ _) | (with_reducible refine Kd.C_drewN ?_ _) | (with_reducible refine Kd.C_drew ?_))); (case side2 => exact (Kd.V_reads' HO_3.out).2.1); rintro e w12 ⟨v233, rfl, ho0, hb⟩; refine ⟨_, rfl, ?_⟩; have HO234 := Aside0.mk (Kd.V_lower (Kd.V_mono (ok' := fun k_ => some k_ ≠ (u4 : Value).ownBlock) ho0 (fun k_ hk_ => (Kd.fresh' (Kd.R_lt (by (with_reducible repeat first | apply qa | apply qn | apply qd); exact HO_4.out)) k_ hk_))) (below_size (by repeat (first | (with_reducible first | exact HB.out | apply ba | apply bn | apply bd) | exact HB.out)))); replace HO_3 := Aside0.mk (Kd.V_below (by (with_reducible repeat first | apply va | apply vn | apply vd); exact HO_3.out) hb); replace HO_4 := Aside0.mk (Kd.R_below (by (with_reducible repeat first | apply qa | apply qn | apply qd); exact HO_4.out) hb); replace HB := Aside0.mk (below_step (by repeat (first | (with_reducible first | exact HB.out | apply ba | apply bn | apply bd) | exact HB.out)) hb); (try clear hb); (try clear hb2); (try clear hk); (try clear hi); (try clear ho0)) | ((with_reducible refine gate_builtin (b := .append) (xs := #[.tmp 21, .tmp 25]) rfl ?_); at_builtin; refine Kd.R_append (Kd.int .u8) (w0 := w) w.heap.size rfl (.tmp 21) (.tmp 25) 71 5 (.int .u8 0) 1 rfl Try.underlying71 info5 rfl (by decide) (by omega) u4 x4_1 ((48 + t235) % 256) [.int .u8 ((48 + t235) % 256)] (fun _ => True) (fun _ => False) rfl rfl ?aP (fun _ hk => hk.elim) ?aF ?aO ?aB ?aS ?aL ?_; (case aP => exact rfl); (case aB => exact (by repeat (first | (with_reducible first | exact HB.out | apply ba | apply bn | apply bd) | exact HB.out))); (case aF => exact (fun _ _ => trivial)); (case aO => exact (by (with_reducible repeat first | apply qa | apply qn | apply qd); exact HO_4.out)); (case aS => exact (below_size (by repeat (first | (with_reducible first | exact HB.out | apply ba | apply bn | apply bd) | exact HB.out)))); (case aL => have := LMc10.out; omega); intro v237 w13 ho hb hg hat; rw [← Ny236.out] at ho; have n0_ := Aside0.mk (Kd.V_afterv (ok := (fun _ => True)) (by (with_reducible repeat first | apply va | apply vn | apply vd); exact Kd.V_mono HO_3.out (fun _ hk => ⟨trivial, hk⟩)) hg hat); have n1_ := Aside0.mk (Kd.V_afterv (ok := (fun _ => True)) (by (with_reducible repeat first | apply va | apply vn | apply vd); exact Kd.V_mono HO234.out (fun _ hk => ⟨trivial, hk⟩)) hg hat); have n2_ := Aside0.mk (hb); have n3_ := Aside0.mk (ho); clear HO_3; clear HO234; clear HB; clear HO_4; have HO_3 := n0_; have HO234 := n1_; have HB := n2_; have HO238 := n3_; clear n0_ n1_ n2_ n3_; clear ho hb hg hat))
      go_roundg k1
      case measure => have := HK1.out; omega
      case rel => exact ⟨(t232), (y236), H', ⟨by have := HK1.out; omega⟩, ⟨by (with_reducible repeat first | apply va | apply vn | apply vd); exact Kd.V_mono HO234.out (fun _ hk => hk.2)⟩, ⟨by (with_reducible repeat first | apply qa | apply qn | apply qd); exact HO238.out⟩, ⟨by repeat (first | (with_reducible first | exact HB.out | apply ba | apply bn | apply bd) | exact HB.out)⟩⟩
     ·rw [if_neg c10] at H
      exact absurd H (by simp)
    ·rw [if_neg c8] at H
     have c8b0 : decide (0 < (x3_1.length : Int)) = false := decide_eq_false c8
     have c8b1 : decide (0 < x3_1.length) = false := decide_eq_false (by omega)
     clear c8
     have H' := Aside0.mk H
     clear H
     obtain ⟨Ao14, co14, eo14⟩ := Kd.V_slice HO_3.out
     subst eo14
     obtain ⟨Ao15, co15, eo15⟩ := Kd.R_slice HO_4.out
     subst eo15
     go_wp2
     go_loopg [6, 7] k1 (fun kq v6 v7 w' => ∃ (x4_2 : List Int) (x6_2 : Int) (x7_2 : Int), v6 = .int .i64 x6_2 ∧ v7 = .int .i64 x7_2 ∧ Aside0 (nat_Text.l1 kq x4_2 x6_2 x7_2 = some r) ∧ Aside0 (kq ≤ k1) ∧ Aside0 (Kd.R (Kd.int .u8) 5 w' w.heap.size (fun _ => True) (.slice Ao15 x4_1.length co15) x4_2) ∧ Aside0 (Below w.heap.size w w'))
     case atStart => exact ⟨(x4_1), (0), (wrap64 ((x4_1.length : Int) - 1)), (by first | rfl | (simp; done) | (simp [*]; done)), (by first | rfl | (simp; done) | (simp [*]; done)), H', ⟨Nat.le_refl _⟩, ⟨by (with_reducible repeat first | apply qa | apply qn | apply qd); exact HO_4.out⟩, ⟨by repeat (first | (with_reducible first | exact HB.out | apply ba | apply bn | apply bd) | exact HB.out)⟩⟩
     case round =>
      clear H'
      (try clear c1); (try clear c2); (try clear p2); (try clear c3); (try clear c3b0); (try clear c3b1); (try clear c3b2); (try clear c4); (try clear p6); (try clear c8); (try clear c8b0); (try clear c8b1); (try clear c10); (try clear p2)
      obtain ⟨x4_2, x6_2, x7_2, rfl, rfl, HA, HK2, HO_4, HB⟩ := hrel
      have hl4_2 := (Kd.R_reads' HO_4.out).1
      rw [hl4_2] at HO_4
      (try simp only [hl4_2])
      cases gk with
      | zero => exact absurd HA.out (by simp [nat_Text.l1])
      | succ k2 =>
       have H := HA.out
       clear HA
       simp only [nat_Text.l1] at H
       by_cases c16 : x6_2 < x7_2
       ·rw [if_pos c16] at H
        have c16b0 : decide (x6_2 < x7_2) = true := decide_eq_true c16
        clear c16
        by_cases c17 : 0 ≤ x7_2
        ·rw [if_pos c17] at H
         have c17b0 : decide (0 ≤ x7_2) = true := decide_eq_true c17
         clear c17
         by_cases c18 : x7_2 < (x4_2.length : Int)
         ·rw [if_pos c18] at H
          have c18b0 : decide (x7_2 < (x4_2.length : Int)) = true := decide_eq_true c18
          clear c18
          by_cases c19 : 0 ≤ x6_2
          ·rw [if_pos c19] at H
           have c19b0 : decide (0 ≤ x6_2) = true := decide_eq_true c19
           clear c19
           by_cases c20 : x6_2 < (x4_2.length : Int)
           ·rw [if_pos c20] at H
            have c20b0 : decide (x6_2 < (x4_2.length : Int)) = true := decide_eq_true c20
            clear c20
            obtain ⟨y241, hy241⟩ : ∃ y_ : List Int, y_ = (x4_2.set (x6_2 : Int).toNat (rd x4_2 x7_2)) := ⟨_, rfl⟩
            replace H : (nat_Text.l1 k2 (y241.set (x7_2 : Int).toNat (rd x4_2 x6_2)) (wrap64 (x6_2 + 1)) (wrap64 (x7_2 - 1))) = some r := by first | (rw [hy241]; with_reducible exact H) | (have H2_ := (Option.bind_some _ _).symm.trans H; rw [hy241]; with_reducible exact H2_) | (have H2_ := (Option.bind_some _ _).symm.trans H; with_reducible exact H2_) | with_reducible exact H | (rw [hy241]; exact H) | exact H
            have Ny241 := Aside0.mk hy241
            clear hy241
            obtain ⟨y242, hy242⟩ : ∃ y_ : List Int, y_ = (y241.set (x7_2 : Int).toNat (rd x4_2 x6_2)) := ⟨_, rfl⟩
            replace H : (nat_Text.l1 k2 y242 (wrap64 (x6_2 + 1)) (wrap64 (x7_2 - 1))) = some r := by first | (rw [hy242]; with_reducible exact H) | (have H2_ := (Option.bind_some _ _).symm.trans H; rw [hy242]; with_reducible exact H2_) | (have H2_ := (Option.bind_some _ _).symm.trans H; with_reducible exact H2_) | with_reducible exact H | (rw [hy242]; exact H) | exact H
            have Ny242 := Aside0.mk hy242
            clear hy242
            have H' := Aside0.mk H
            clear H
            try go_wp2
            replace HO_4 := Aside0.mk (Kd.R_drew HO_4.out)
            replace HB := Aside0.mk (below_drew1 HB.out)
            have p239 : 0 ≤ (x7_2 : Int) := of_decide_eq_true (by assumption)
            have q239 : x7_2 < (x4_2.length : Int) := of_decide_eq_true (by assumption)
            obtain ⟨ad239, e239, hx239_0⟩ := Kd.at_int (Kd.R_reads' HO_4.out).2.2 x7_2 p239 q239
            cases e239
            replace p239 := eq_true p239
            replace q239 := eq_true q239
            have p240 : 0 ≤ (x6_2 : Int) := of_decide_eq_true (by assumption)
            have q240 : x6_2 < (x4_2.length : Int) := of_decide_eq_true (by assumption)
            obtain ⟨ad240, e240, hx240_0⟩ := Kd.at_int (Kd.R_reads' HO_4.out).2.2 x6_2 p240 q240
            obtain rfl : ad239 = ad240 := (by injection e240)
            replace p240 := eq_true p240
            replace q240 := eq_true q240
            have p21 : 0 ≤ (x6_2 : Int) := of_decide_eq_true (by assumption)
            have q21 : (x6_2 : Int) < ((x4_2.length : Int) : Int) := of_decide_eq_true (by assumption)
            obtain ⟨go21, co21, eo21, gb21, gl21, cl21, HG21⟩ := Kd.R_form HO_4.out (by omega)
            (first | cases eo21 | (injection eo21 with ea_ en_ ec_; (first | subst ea_ | (injection ea_ with ea_; subst ea_)); subst ec_; clear en_))
            have GB21 := Aside0.mk gb21
            have GG21 := Aside0.mk HG21
            clear gb21 gl21 HG21
            (first | simp only [add_plain] at hx239_0 | skip)
            (first | simp only [add_plain] at hx240_0 | skip)
            obtain ⟨hx21_0, hf21_0⟩ := Kd.R_celln 0 HO_4.out (x6_2 : Int) p21 q21
            replace p21 := eq_true p21
            replace q21 := eq_true q21
            have HP24 := Kd.R_putn HO_4.out (x6_2 : Int) (rd x4_2 x7_2)
            rw [← Ny241.out] at HP24
            have HQ24 := Aside0.mk HP24
            clear HP24
            have p22 : 0 ≤ (x7_2 : Int) := of_decide_eq_true (by assumption)
            have q22 : (x7_2 : Int) < ((x4_2.length : Int) : Int) := of_decide_eq_true (by assumption)
            obtain ⟨hx22_0, hf22_0⟩ := Kd.R_celln 0 HQ24.out (x7_2 : Int) p22 q22
            replace p22 := eq_true p22
            replace q22 := eq_true q22
            have HP25 := Kd.R_putn HQ24.out (x7_2 : Int) (rd x4_2 x6_2)
            rw [← Ny242.out] at HP25
            have HQ25 := Aside0.mk HP25
            clear HP25
            refine start_ (n := 16) (S := fun w' => w'.cell? ⟨go21, (x7_2).toNat, none⟩ = some (.int .u8 (rd x4_2 x7_2)) ∧ w'.cell? ⟨go21, (x6_2).toNat, none⟩ = some (.int .u8 (rd x4_2 x6_2))) (ds := [13, 15]) #[false, false, false, false, false, false, false, false, false, false, false, false, false, false, false, false] (by kernel_rfl) rfl rfl ⟨hx239_0, hx240_0⟩ (fun hHeld => ?_); refine with_tabW nat_Text.tab12 nat_Text.bits12 (fun HT_ HW_ => ?_)
            generalize wr.drew = w23 at HO_4 HB GG21 HQ24 HQ25 hf21_0 hf22_0 hx21_0 hx22_0 hx239_0 hx240_0 hHeld ⊢
            refine pure_ (i := 0) (N := some 37) (v := ?_) (a' := ?_) #[true, false, false, false, false, false, false, false, false, false, false, false, false, false, false, false] rfl rfl (any_of HT_.out (by kernel_rfl)) (fun _ _ _ h => h) (Or.inl ⟨by rfl, ?_⟩) ?_ ?_
            rotate_left
            ·intro w'
             go_simp
             with_reducible rfl
            rotate_left
            ·simp only [Act.put, List.setIfInBounds_toArray, List.set_cons_zero, List.set_cons_succ, i64_w, i32_w]
             rfl
            refine pure_ (i := 1) (N := some 38) (v := ?_) (a' := ?_) #[true, true, false, false, false, false, false, false, false, false, false, false, false, false, false, false] rfl rfl (any_of HT_.out (by kernel_rfl)) (fun _ _ _ h => h) (Or.inl ⟨by rfl, ?_⟩) ?_ ?_
            rotate_left
            ·intro w'
             go_simp
             with_reducible rfl
            rotate_left
            ·simp only [Act.put, List.setIfInBounds_toArray, List.set_cons_zero, List.set_cons_succ, i64_w, i32_w]
             rfl
            refine pure_ (i := 2) (N := some 39) (v := ?_) (a' := ?_) #[true, true, true, false, false, false, false, false, false, false, false, false, false, false, false, false] rfl rfl (any_of HT_.out (by kernel_rfl)) (fun _ _ _ h => h) (Or.inl ⟨by rfl, ?_⟩) ?_ ?_
            rotate_left
            ·intro w'
             go_simp
             with_reducible rfl
            rotate_left
            ·simp only [Act.put, List.setIfInBounds_toArray, List.set_cons_zero, List.set_cons_succ, i64_w, i32_w]
             rfl
            refine pure_ (i := 3) (N := some 40) (v := ?_) (a' := ?_) #[true, true, true, true, false, false, false, false, false, false, false, false, false, false, false, false] rfl rfl (any_of HT_.out (by kernel_rfl)) (fun _ _ _ h => h) (Or.inl ⟨by rfl, ?_⟩) ?_ ?_
            rotate_left
            ·intro w'
             go_simp
             with_reducible rfl
            rotate_left
            ·simp only [Act.put, List.setIfInBounds_toArray, List.set_cons_zero, List.set_cons_succ, i64_w, i32_w]
             rfl
            refine pure_ (i := 4) (N := some 41) (v := ?_) (a' := ?_) #[true, true, true, true, true, false, false, false, false, false, false, false, false, false, false, false] rfl rfl (any_of HT_.out (by kernel_rfl)) (fun _ _ _ h => h) (Or.inl ⟨by rfl, ?_⟩) ?_ ?_
            rotate_left
            ·intro w'
             go_simp
             with_reducible rfl
            rotate_left
            ·simp only [Act.put, List.setIfInBounds_toArray, List.set_cons_zero, List.set_cons_succ, i64_w, i32_w]
             rfl
            refine pure_ (i := 5) (N := some 42) (v := ?_) (a' := ?_) #[true, true, true, true, true, true, false, false, false, false, false, false, false, false, false, false] rfl rfl (any_of HT_.out (by kernel_rfl)) (fun _ _ _ h => h) (Or.inl ⟨by rfl, ?_⟩) ?_ ?_
            rotate_left
            ·intro w'
             go_simp
             with_reducible rfl
            rotate_left
            ·simp only [Act.put, List.setIfInBounds_toArray, List.set_cons_zero, List.set_cons_succ, i64_w, i32_w]
             rfl
            refine pure_ (i := 6) (N := some 43) (v := ?_) (a' := ?_) #[true, true, true, true, true, true, true, false, false, false, false, false, false, false, false, false] rfl rfl (any_of HT_.out (by kernel_rfl)) (fun _ _ _ h => h) (Or.inl ⟨by rfl, ?_⟩) ?_ ?_
            rotate_left
            ·intro w'
             go_simp
             with_reducible rfl
            rotate_left
            ·simp only [Act.put, List.setIfInBounds_toArray, List.set_cons_zero, List.set_cons_succ, i64_w, i32_w]
             rfl
            refine pure_ (i := 8) (N := some 45) (v := ?_) (a' := ?_) #[true, true, true, true, true, true, true, false, true, false, false, false, false, false, false, false] rfl rfl (any_of HT_.out (by kernel_rfl)) (fun _ _ _ h => h) (Or.inl ⟨by rfl, ?_⟩) ?_ ?_
            rotate_left
            ·intro w'
             go_simp
             with_reducible rfl
            rotate_left
            ·simp only [Act.put, List.setIfInBounds_toArray, List.set_cons_zero, List.set_cons_succ, i64_w, i32_w]
             rfl
            refine pure_ (i := 9) (N := some 46) (v := ?_) (a' := ?_) #[true, true, true, true, true, true, true, false, true, true, false, false, false, false, false, false] rfl rfl (any_of HT_.out (by kernel_rfl)) (fun _ _ _ h => h) (Or.inl ⟨by rfl, ?_⟩) ?_ ?_
            rotate_left
            ·intro w'
             go_simp
             with_reducible rfl
            rotate_left
            ·simp only [Act.put, List.setIfInBounds_toArray, List.set_cons_zero, List.set_cons_succ, i64_w, i32_w]
             rfl
            refine pure_ (i := 10) (N := some 47) (v := ?_) (a' := ?_) #[true, true, true, true, true, true, true, false, true, true, true, false, false, false, false, false] rfl rfl (any_of HT_.out (by kernel_rfl)) (fun _ _ _ h => h) (Or.inl ⟨by rfl, ?_⟩) ?_ ?_
            rotate_left
            ·intro w'
             go_simp
             with_reducible rfl
            rotate_left
            ·simp only [Act.put, List.setIfInBounds_toArray, List.set_cons_zero, List.set_cons_succ, i64_w, i32_w]
             rfl
            refine take_ (i := 7) (N := some 44) (v := ?_) (a' := ?_) #[true, true, true, true, true, true, true, true, true, true, true, false, false, false, false, false] rfl rfl (take_ofW HT_.out HW_.out (by kernel_rfl)) (fun _ _ _ h => h) (Or.inl ⟨by rfl, ?_⟩) hHeld ?_ ?_
            rotate_left
            ·rintro w' ⟨s0, s1⟩
             go_simp
             with_reducible rfl
            rotate_left
            ·simp only [Act.put, List.setIfInBounds_toArray, List.set_cons_zero, List.set_cons_succ, i64_w, i32_w]
             rfl
            refine take_ (i := 11) (N := some 48) (v := ?_) (a' := ?_) #[true, true, true, true, true, true, true, true, true, true, true, true, false, false, false, false] rfl rfl (take_ofW HT_.out HW_.out (by kernel_rfl)) (fun _ _ _ h => h) (Or.inl ⟨by rfl, ?_⟩) hHeld ?_ ?_
            rotate_left
            ·rintro w' ⟨s0, s1⟩
             go_simp
             with_reducible rfl
            rotate_left
            ·simp only [Act.put, List.setIfInBounds_toArray, List.set_cons_zero, List.set_cons_succ, i64_w, i32_w]
             rfl
            refine pure_ (i := 12) (N := some 49) (v := ?_) (a' := ?_) #[true, true, true, true, true, true, true, true, true, true, true, true, true, false, false, false] rfl rfl (any_of HT_.out (by kernel_rfl)) (fun _ _ _ h => h) (Or.inl ⟨by rfl, ?_⟩) ?_ ?_
            rotate_left
            ·intro w'
             go_simp
             with_reducible rfl
            rotate_left
            ·simp only [Act.put, List.setIfInBounds_toArray, List.set_cons_zero, List.set_cons_succ, i64_w, i32_w]
             rfl
            refine last_ (i := 13) (N := none) #[true, true, true, true, true, true, true, true, true, true, true, true, true, true, false, false] rfl rfl (one_of HT_.out (by kernel_rfl)) (by decide) (fun K hK => ?_)
            refine skip_ (w1 := ?_) (by rfl) rfl ?_ ?_
            rotate_left
            ·go_simp
             rfl
            refine hK.out _ _ ?_
            clear hK K
            refine pure_ (i := 14) (N := some 50) (v := ?_) (a' := ?_) #[true, true, true, true, true, true, true, true, true, true, true, true, true, true, true, false] rfl rfl (any_of HT_.out (by kernel_rfl)) (fun _ _ _ h => h) (Or.inl ⟨by rfl, ?_⟩) ?_ ?_
            rotate_left
            ·intro w'
             go_simp
             with_reducible rfl
            rotate_left
            ·simp only [Act.put, List.setIfInBounds_toArray, List.set_cons_zero, List.set_cons_succ, i64_w, i32_w]
             rfl
            refine last_ (i := 15) (N := none) #[true, true, true, true, true, true, true, true, true, true, true, true, true, true, true, true] rfl rfl (one_of HT_.out (by kernel_rfl)) (by decide) (fun K hK => ?_)
            refine skip_ (w1 := ?_) (by rfl) rfl ?_ ?_
            rotate_left
            ·go_simp
             rfl
            refine hK.out _ _ ?_
            clear hK K
            refine done_ (done_of HT_.out (by kernel_rfl)) ?_
            try go_wp2
            (try simp only [← hl4_2])
            go_roundg k2
            case measure => have := HK1.out; have := HK2.out; omega
            case rel => exact ⟨(y242), (wrap64 (x6_2 + 1)), (wrap64 (x7_2 - 1)), (by first | rfl | (simp; done) | (simp [*]; done)), (by first | rfl | (simp; done) | (simp [*]; done)), H', ⟨by have := HK1.out; have := HK2.out; omega⟩, ⟨by (try simp only [hl4_2]); (with_reducible repeat first | apply qa | apply qn | apply qd); exact HQ25.out⟩, ⟨by repeat (first | (with_reducible first | exact HB.out | apply ba | apply bn | apply bd | refine below_set ?_ GB21.out | refine below_set ?_ GB21.out) | exact HB.out)⟩⟩
           ·rw [if_neg c20] at H
            exact absurd H (by simp)
          ·rw [if_neg c19] at H
           exact absurd H (by simp)
         ·rw [if_neg c18] at H
          exact absurd H (by simp)
        ·rw [if_neg c17] at H
         exact absurd H (by simp)
       ·rw [if_neg c16] at H
        have c16b0 : decide (x6_2 < x7_2) = false := decide_eq_false c16
        clear c16
        obtain rfl := Option.some.inj H
        have hcv26 := own_string (P := Try.prog) Try.underlying71 Try.underlying5 Try.underlying9 (Kd.own_of_R HO_4.out)
        go_wp2
        go_ret
        exact ⟨by first | rfl | (simp [errW_none, errW_some] <;> rfl) | (simp [*, errW_none, errW_some] <;> rfl), by repeat (first | (with_reducible first | exact HB.out | apply ba | apply bn | apply bd) | exact HB.out)⟩

/-! ### whetstonelaw01_counted: function 12 -/
def whetstonelaw01_counted.f (k : Nat)  : Option (Bool) := (nat_DivMod.f k (([0, 0, 1] : List Int)) (([1, 1] : List Int))).bind fun bt249 => (if bt249.2.2 = 0 then ((nat_Mul.f k (([0, 1] : List Int)) (([0, 1] : List Int))).bind fun t262 => ((whetstoneref01_Words.f k t262 (([0, 0, 1] : List Int))).bind fun t268 => (if t268 = true then ((whetstoneref01_Words.f k bt249.1 (([4294967295] : List Int))).bind fun t272 => (if t272 = true then ((whetstoneref01_Words.f k bt249.2.1 (([1] : List Int))).bind fun t276 => (if t276 = true then ((nat_Text.f k (([0, 1] : List Int))).bind fun t280 => (some (t280.toList == ([52, 50, 57, 52, 57, 54, 55, 50, 57, 54] : List UInt8)))) else (some false))) else (some false))) else (some false)))) else (some false))
theorem whetstonelaw01_counted.mono : ∀ k, LeO (whetstonelaw01_counted.f k ) (whetstonelaw01_counted.f (k + 1) ) := by
 intro  k
 unfold whetstonelaw01_counted.f
 repeat' first
   | (with_reducible exact nat_DivMod.mono _ _ _)
   | (with_reducible exact nat_Mul.mono _ _ _)
   | (with_reducible exact nat_Text.mono _ _)
   | (with_reducible exact whetstoneref01_Words.mono _ _ _)
   | (with_reducible exact LeO.refl _)
   | (with_reducible exact LeO.none _)
   | (with_reducible refine LeO.ite ?_ ?_)
   | (with_reducible refine LeO.bind ?_ (fun _ => ?_))
   | exact nat_DivMod.mono _ _ _
   | exact nat_Mul.mono _ _ _
   | exact nat_Text.mono _ _
   | exact whetstoneref01_Words.mono _ _ _
   | exact LeO.none _
   | refine LeO.ite ?_ ?_
   | refine LeO.bind ?_ (fun _ => ?_)
set_option maxHeartbeats 8000000 in
set_option maxRecDepth 100000 in
theorem whetstonelaw01_counted.calls (k : Nat)  (r : Bool) (w : World) (h : whetstonelaw01_counted.f k  = some r) :
  Calls Try.prog 12 #[] w fun e w' => e = .returned (.bool r) ∧ Below w.heap.size w w' := by
 have HB := Aside0.mk (Below.refl w.heap.size w)
 have H : ((nat_DivMod.f k (([0, 0, 1] : List Int)) (([1, 1] : List Int))).bind fun bt249 => (if bt249.2.2 = 0 then ((nat_Mul.f k (([0, 1] : List Int)) (([0, 1] : List Int))).bind fun t262 => ((whetstoneref01_Words.f k t262 (([0, 0, 1] : List Int))).bind fun t268 => (if t268 = true then ((whetstoneref01_Words.f k bt249.1 (([4294967295] : List Int))).bind fun t272 => (if t272 = true then ((whetstoneref01_Words.f k bt249.2.1 (([1] : List Int))).bind fun t276 => (if t276 = true then ((nat_Text.f k (([0, 1] : List Int))).bind fun t280 => (some (t280.toList == ([52, 50, 57, 52, 57, 54, 55, 50, 57, 54] : List UInt8)))) else (some false))) else (some false))) else (some false)))) else (some false))) = some r := h
 clear h
 obtain ⟨y243, hy243⟩ : ∃ y_ : List Int, y_ = (([0, 0, 1] : List Int)) := ⟨_, rfl⟩
 replace H : ((nat_DivMod.f k y243 (([1, 1] : List Int))).bind fun bt249 => (if bt249.2.2 = 0 then ((nat_Mul.f k (([0, 1] : List Int)) (([0, 1] : List Int))).bind fun t262 => ((whetstoneref01_Words.f k t262 (([0, 0, 1] : List Int))).bind fun t268 => (if t268 = true then ((whetstoneref01_Words.f k bt249.1 (([4294967295] : List Int))).bind fun t272 => (if t272 = true then ((whetstoneref01_Words.f k bt249.2.1 (([1] : List Int))).bind fun t276 => (if t276 = true then ((nat_Text.f k (([0, 1] : List Int))).bind fun t280 => (some (t280.toList == ([52, 50, 57, 52, 57, 54, 55, 50, 57, 54] : List UInt8)))) else (some false))) else (some false))) else (some false)))) else (some false))) = some r := by first | (rw [hy243]; with_reducible exact H) | (have H2_ := (Option.bind_some _ _).symm.trans H; rw [hy243]; with_reducible exact H2_) | (have H2_ := (Option.bind_some _ _).symm.trans H; with_reducible exact H2_) | with_reducible exact H | (rw [hy243]; exact H) | exact H
 have Ny243 := Aside0.mk hy243
 clear hy243
 obtain ⟨y246, hy246⟩ : ∃ y_ : List Int, y_ = (([1, 1] : List Int)) := ⟨_, rfl⟩
 replace H : ((nat_DivMod.f k y243 y246).bind fun bt249 => (if bt249.2.2 = 0 then ((nat_Mul.f k (([0, 1] : List Int)) (([0, 1] : List Int))).bind fun t262 => ((whetstoneref01_Words.f k t262 (([0, 0, 1] : List Int))).bind fun t268 => (if t268 = true then ((whetstoneref01_Words.f k bt249.1 (([4294967295] : List Int))).bind fun t272 => (if t272 = true then ((whetstoneref01_Words.f k bt249.2.1 (([1] : List Int))).bind fun t276 => (if t276 = true then ((nat_Text.f k (([0, 1] : List Int))).bind fun t280 => (some (t280.toList == ([52, 50, 57, 52, 57, 54, 55, 50, 57, 54] : List UInt8)))) else (some false))) else (some false))) else (some false)))) else (some false))) = some r := by first | (rw [hy246]; with_reducible exact H) | (have H2_ := (Option.bind_some _ _).symm.trans H; rw [hy246]; with_reducible exact H2_) | (have H2_ := (Option.bind_some _ _).symm.trans H; with_reducible exact H2_) | with_reducible exact H | (rw [hy246]; exact H) | exact H
 have Ny246 := Aside0.mk hy246
 clear hy246
 replace H := Option.bind_eq_some_iff.mp H
 obtain ⟨⟨t249, t252, t255⟩, A10, H⟩ := H
 replace H : (if t255 = 0 then ((nat_Mul.f k (([0, 1] : List Int)) (([0, 1] : List Int))).bind fun t262 => ((whetstoneref01_Words.f k t262 (([0, 0, 1] : List Int))).bind fun t268 => (if t268 = true then ((whetstoneref01_Words.f k t249 (([4294967295] : List Int))).bind fun t272 => (if t272 = true then ((whetstoneref01_Words.f k t252 (([1] : List Int))).bind fun t276 => (if t276 = true then ((nat_Text.f k (([0, 1] : List Int))).bind fun t280 => (some (t280.toList == ([52, 50, 57, 52, 57, 54, 55, 50, 57, 54] : List UInt8)))) else (some false))) else (some false))) else (some false)))) else (some false)) = some r := H
 have A1 := Aside0.mk A10
 clear A10
 by_cases c2 : t255 = 0
 ·rw [if_pos c2] at H
  have c2b0 : (t255 == 0) = true := beq_iff_eq.mpr c2
  have c2b1 : (t255 != 0) = false := bne_eq_false_iff_eq.mpr c2
  clear c2
  obtain ⟨y256, hy256⟩ : ∃ y_ : List Int, y_ = (([0, 1] : List Int)) := ⟨_, rfl⟩
  replace H : ((nat_Mul.f k y256 (([0, 1] : List Int))).bind fun t262 => ((whetstoneref01_Words.f k t262 (([0, 0, 1] : List Int))).bind fun t268 => (if t268 = true then ((whetstoneref01_Words.f k t249 (([4294967295] : List Int))).bind fun t272 => (if t272 = true then ((whetstoneref01_Words.f k t252 (([1] : List Int))).bind fun t276 => (if t276 = true then ((nat_Text.f k (([0, 1] : List Int))).bind fun t280 => (some (t280.toList == ([52, 50, 57, 52, 57, 54, 55, 50, 57, 54] : List UInt8)))) else (some false))) else (some false))) else (some false)))) = some r := by first | (rw [hy256]; with_reducible exact H) | (have H2_ := (Option.bind_some _ _).symm.trans H; rw [hy256]; with_reducible exact H2_) | (have H2_ := (Option.bind_some _ _).symm.trans H; with_reducible exact H2_) | with_reducible exact H | (rw [hy256]; exact H) | exact H
  have Ny256 := Aside0.mk hy256
  clear hy256
  obtain ⟨y259, hy259⟩ : ∃ y_ : List Int, y_ = (([0, 1] : List Int)) := ⟨_, rfl⟩
  replace H : ((nat_Mul.f k y256 y259).bind fun t262 => ((whetstoneref01_Words.f k t262 (([0, 0, 1] : List Int))).bind fun t268 => (if t268 = true then ((whetstoneref01_Words.f k t249 (([4294967295] : List Int))).bind fun t272 => (if t272 = true then ((whetstoneref01_Words.f k t252 (([1] : List Int))).bind fun t276 => (if t276 = true then ((nat_Text.f k (([0, 1] : List Int))).bind fun t280 => (some (t280.toList == ([52, 50, 57, 52, 57, 54, 55, 50, 57, 54] : List UInt8)))) else (some false))) else (some false))) else (some false)))) = some r := by first | (rw [hy259]; with_reducible exact H) | (have H2_ := (Option.bind_some _ _).symm.trans H; rw [hy259]; with_reducible exact H2_) | (have H2_ := (Option.bind_some _ _).symm.trans H; with_reducible exact H2_) | with_reducible exact H | (rw [hy259]; exact H) | exact H
  have Ny259 := Aside0.mk hy259
  clear hy259
  replace H := Option.bind_eq_some_iff.mp H
  obtain ⟨t262, A30, H⟩ := H
  have A3 := Aside0.mk A30
  clear A30
  obtain ⟨y265, hy265⟩ : ∃ y_ : List Int, y_ = (([0, 0, 1] : List Int)) := ⟨_, rfl⟩
  replace H : ((whetstoneref01_Words.f k t262 y265).bind fun t268 => (if t268 = true then ((whetstoneref01_Words.f k t249 (([4294967295] : List Int))).bind fun t272 => (if t272 = true then ((whetstoneref01_Words.f k t252 (([1] : List Int))).bind fun t276 => (if t276 = true then ((nat_Text.f k (([0, 1] : List Int))).bind fun t280 => (some (t280.toList == ([52, 50, 57, 52, 57, 54, 55, 50, 57, 54] : List UInt8)))) else (some false))) else (some false))) else (some false))) = some r := by first | (rw [hy265]; with_reducible exact H) | (have H2_ := (Option.bind_some _ _).symm.trans H; rw [hy265]; with_reducible exact H2_) | (have H2_ := (Option.bind_some _ _).symm.trans H; with_reducible exact H2_) | with_reducible exact H | (rw [hy265]; exact H) | exact H
  have Ny265 := Aside0.mk hy265
  clear hy265
  replace H := Option.bind_eq_some_iff.mp H
  obtain ⟨t268, A40, H⟩ := H
  have A4 := Aside0.mk A40
  clear A40
  by_cases c5 : t268 = true
  ·subst c5
   have H1 : ((whetstoneref01_Words.f k t249 (([4294967295] : List Int))).bind fun t272 => (if t272 = true then ((whetstoneref01_Words.f k t252 (([1] : List Int))).bind fun t276 => (if t276 = true then ((nat_Text.f k (([0, 1] : List Int))).bind fun t280 => (some (t280.toList == ([52, 50, 57, 52, 57, 54, 55, 50, 57, 54] : List UInt8)))) else (some false))) else (some false))) = some r := by rw [if_pos rfl] at H; exact H
   clear H
   have H := H1
   clear H1
   obtain ⟨y269, hy269⟩ : ∃ y_ : List Int, y_ = (([4294967295] : List Int)) := ⟨_, rfl⟩
   replace H : ((whetstoneref01_Words.f k t249 y269).bind fun t272 => (if t272 = true then ((whetstoneref01_Words.f k t252 (([1] : List Int))).bind fun t276 => (if t276 = true then ((nat_Text.f k (([0, 1] : List Int))).bind fun t280 => (some (t280.toList == ([52, 50, 57, 52, 57, 54, 55, 50, 57, 54] : List UInt8)))) else (some false))) else (some false))) = some r := by first | (rw [hy269]; with_reducible exact H) | (have H2_ := (Option.bind_some _ _).symm.trans H; rw [hy269]; with_reducible exact H2_) | (have H2_ := (Option.bind_some _ _).symm.trans H; with_reducible exact H2_) | with_reducible exact H | (rw [hy269]; exact H) | exact H
   have Ny269 := Aside0.mk hy269
   clear hy269
   replace H := Option.bind_eq_some_iff.mp H
   obtain ⟨t272, A60, H⟩ := H
   have A6 := Aside0.mk A60
   clear A60
   by_cases c7 : t272 = true
   ·subst c7
    have H1 : ((whetstoneref01_Words.f k t252 (([1] : List Int))).bind fun t276 => (if t276 = true then ((nat_Text.f k (([0, 1] : List Int))).bind fun t280 => (some (t280.toList == ([52, 50, 57, 52, 57, 54, 55, 50, 57, 54] : List UInt8)))) else (some false))) = some r := by rw [if_pos rfl] at H; exact H
    clear H
    have H := H1
    clear H1
    obtain ⟨y273, hy273⟩ : ∃ y_ : List Int, y_ = (([1] : List Int)) := ⟨_, rfl⟩
    replace H : ((whetstoneref01_Words.f k t252 y273).bind fun t276 => (if t276 = true then ((nat_Text.f k (([0, 1] : List Int))).bind fun t280 => (some (t280.toList == ([52, 50, 57, 52, 57, 54, 55, 50, 57, 54] : List UInt8)))) else (some false))) = some r := by first | (rw [hy273]; with_reducible exact H) | (have H2_ := (Option.bind_some _ _).symm.trans H; rw [hy273]; with_reducible exact H2_) | (have H2_ := (Option.bind_some _ _).symm.trans H; with_reducible exact H2_) | with_reducible exact H | (rw [hy273]; exact H) | exact H
    have Ny273 := Aside0.mk hy273
    clear hy273
    replace H := Option.bind_eq_some_iff.mp H
    obtain ⟨t276, A80, H⟩ := H
    have A8 := Aside0.mk A80
    clear A80
    by_cases c9 : t276 = true
    ·subst c9
     have H1 : ((nat_Text.f k (([0, 1] : List Int))).bind fun t280 => (some (t280.toList == ([52, 50, 57, 52, 57, 54, 55, 50, 57, 54] : List UInt8)))) = some r := by rw [if_pos rfl] at H; exact H
     clear H
     have H := H1
     clear H1
     obtain ⟨y277, hy277⟩ : ∃ y_ : List Int, y_ = (([0, 1] : List Int)) := ⟨_, rfl⟩
     replace H : ((nat_Text.f k y277).bind fun t280 => (some (t280.toList == ([52, 50, 57, 52, 57, 54, 55, 50, 57, 54] : List UInt8)))) = some r := by first | (rw [hy277]; with_reducible exact H) | (have H2_ := (Option.bind_some _ _).symm.trans H; rw [hy277]; with_reducible exact H2_) | (have H2_ := (Option.bind_some _ _).symm.trans H; with_reducible exact H2_) | with_reducible exact H | (rw [hy277]; exact H) | exact H
     have Ny277 := Aside0.mk hy277
     clear hy277
     replace H := Option.bind_eq_some_iff.mp H
     obtain ⟨t280, A100, H⟩ := H
     have A10 := Aside0.mk A100
     clear A100
     obtain rfl := Option.some.inj H
     go_enter Try.func12, Try.ntmps12
     go_wp2_with (first | ((with_reducible refine gate_dst (N := 5) rfl ?_); (try (refine gate_guard (by rfl) ?_; dsimp only)); refine Kd.R_lit (Kd.int .u32) _ 42 ?hg (N := 5) ?hd (xs := ([0, 0, 1] : List Int)) (inner := [.int .u32 0, .int .u32 0, .int .u32 1]) (ok := fun _ => True) (okp := fun _ => True) ?hr ?hp (fun _ hk => hk) trivial (Below.refl _ _) (Nat.le_refl _) (by simp) ?_; (case hd => rfl); (case hg => rfl); (case hr => first | (go_simp; done) | (go_simp; rfl)); (case hp => exact (Reps.one (show Kd.M (Kd.int .u32) _ _ _ 0 [.int .u32 0] from rfl) (Reps.one (show Kd.M (Kd.int .u32) _ _ _ 0 [.int .u32 0] from rfl) (Reps.one (show Kd.M (Kd.int .u32) _ _ _ 1 [.int .u32 1] from rfl) (Reps.none _ _))))); intro v244 w11 ho12 hb hg_ hnew_; clear hg_ hnew_; (first | rw [← Ny243.out] at ho12 | (simp only [Int.reduceToNat] at ho12; rw [← Ny243.out] at ho12)); have HO245 := Aside0.mk (Kd.R_lower ho12 (below_size (by repeat (first | (with_reducible first | exact HB.out | apply ba | apply bn | apply bd) | exact HB.out)))); replace HB := Aside0.mk (below_step (by repeat (first | (with_reducible first | exact HB.out | apply ba | apply bn | apply bd) | exact HB.out)) hb); clear hb ho12) | ((with_reducible refine gate_dst (N := 6) rfl ?_); (try (refine gate_guard (by rfl) ?_; dsimp only)); refine Kd.R_lit (Kd.int .u32) _ 42 ?hg (N := 6) ?hd (xs := ([1, 1] : List Int)) (inner := [.int .u32 1, .int .u32 1]) (ok := fun _ => True) (okp := fun _ => True) ?hr ?hp (fun _ hk => hk) trivial (Below.refl _ _) (Nat.le_refl _) (by simp) ?_; (case hd => rfl); (case hg => rfl); (case hr => first | (go_simp; done) | (go_simp; rfl)); (case hp => exact (Reps.one (show Kd.M (Kd.int .u32) _ _ _ 1 [.int .u32 1] from rfl) (Reps.one (show Kd.M (Kd.int .u32) _ _ _ 1 [.int .u32 1] from rfl) (Reps.none _ _)))); intro v247 w13 ho14 hb hg_ hnew_; clear hg_ hnew_; (first | rw [← Ny246.out] at ho14 | (simp only [Int.reduceToNat] at ho14; rw [← Ny246.out] at ho14)); have HO248 := Aside0.mk (Kd.R_lower (Kd.R_new' ho14 (Kd.R_lt (by (with_reducible repeat first | apply qa | apply qn | apply qd); exact HO245.out))) (below_size (by repeat (first | (with_reducible first | exact HB.out | apply ba | apply bn | apply bd) | exact HB.out)))); replace HO245 := Aside0.mk (Kd.R_elder' (by (with_reducible repeat first | apply qa | apply qn | apply qd); exact HO245.out) (Kd.R_base ho14) hb); replace HB := Aside0.mk (below_step (by repeat (first | (with_reducible first | exact HB.out | apply ba | apply bn | apply bd) | exact HB.out)) hb); clear hb ho14; obtain ⟨Ao15, co15, eo15⟩ := Kd.R_slice HO245.out; subst eo15; obtain ⟨Ao16, co16, eo16⟩ := Kd.R_slice HO248.out; subst eo16) | ((with_reducible refine gate_callee (f := 18) rfl ?_); refine goesL_ (some 7) rfl rfl Try.func18 (by kernel_rfl) rfl #[.slice Ao15 y243.length co15, .slice Ao16 y246.length co16] rfl (by (try simp only [List.map_toArray, List.map_cons, List.map_nil]); first | done | rfl | (simp only [List.length_drop, List.length_take]; rfl)) ?_; (with_reducible refine (nat_DivMod.calls k (fun k_ => some k_ = (.slice Ao15 y243.length co15 : Value).ownBlock) _ _ y243 (fun k_ => some k_ = (.slice Ao16 y246.length co16 : Value).ownBlock) _ _ y246 t249 t252 t255 _ ?side1 ?side2 A1.out).mono ?_); (case side1 => exact Kd.R_V (Kd.R_tight rfl (HO245.out))); (case side2 => exact Kd.R_V (Kd.R_tight rfl (HO248.out))); rintro e w17 ⟨v250, v253, rfl, ho0, ho1, hb⟩; refine ⟨_, rfl, ?_⟩; have HO251 := Aside0.mk (Kd.V_lower (Kd.V_mono (ok' := fun k_ => True) ho0 (fun k_ hk_ => trivial)) (below_size (by repeat (first | (with_reducible first | exact HB.out | apply ba | apply bn | apply bd) | exact HB.out)))); have HO254 := Aside0.mk (Kd.V_lower (Kd.V_mono (ok' := fun k_ => True) ho1 (fun k_ hk_ => trivial)) (below_size (by repeat (first | (with_reducible first | exact HB.out | apply ba | apply bn | apply bd) | exact HB.out)))); replace HO245 := Aside0.mk (Kd.R_below (by (with_reducible repeat first | apply qa | apply qn | apply qd); exact HO245.out) hb); replace HO248 := Aside0.mk (Kd.R_below (by (with_reducible repeat first | apply qa | apply qn | apply qd); exact HO248.out) hb); replace HB := Aside0.mk (below_step (by repeat (first | (with_reducible first | exact HB.out | apply ba | apply bn | apply bd) | exact HB.out)) hb); (try clear hb); (try clear hb2); (try clear hk); (try clear hi); (try clear ho0); (try clear ho1)) | ((with_reducible refine gate_dst (N := 14) rfl ?_); (try (refine gate_guard (by rfl) ?_; dsimp only)); refine Kd.R_lit (Kd.int .u32) _ 42 ?hg (N := 14) ?hd (xs := ([0, 1] : List Int)) (inner := [.int .u32 0, .int .u32 1]) (ok := fun _ => True) (okp := fun _ => True) ?hr ?hp (fun _ hk => hk) trivial (Below.refl _ _) (Nat.le_refl _) (by simp) ?_; (case hd => rfl); (case hg => rfl); (case hr => first | (go_simp; done) | (go_simp; rfl)); (case hp => exact (Reps.one (show Kd.M (Kd.int .u32) _ _ _ 0 [.int .u32 0] from rfl) (Reps.one (show Kd.M (Kd.int .u32) _ _ _ 1 [.int .u32 1] from rfl) (Reps.none _ _)))); intro v257 w18 ho19 hb hg_ hnew_; clear hg_ hnew_; (first | rw [← Ny256.out] at ho19 | (simp only [Int.reduceToNat] at ho19; rw [← Ny256.out] at ho19)); have HO258 := Aside0.mk (Kd.R_lower (Kd.R_new' (Kd.R_new' ho19 (Kd.R_lt (by (with_reducible repeat first | apply qa | apply qn | apply qd); exact HO245.out))) (Kd.R_lt (by (with_reducible repeat first | apply qa | apply qn | apply qd); exact HO248.out))) (below_size (by repeat (first | (with_reducible first | exact HB.out | apply ba | apply bn | apply bd) | exact HB.out)))); replace HO245 := Aside0.mk (Kd.R_elder' (by (with_reducible repeat first | apply qa | apply qn | apply qd); exact HO245.out) (Kd.R_base ho19) hb); replace HO248 := Aside0.mk (Kd.R_elder' (by (with_reducible repeat first | apply qa | apply qn | apply qd); exact HO248.out) (Kd.R_base ho19) hb); replace HO251 := Aside0.mk (Kd.V_elder' (by (with_reducible repeat first | apply va | apply vn | apply vd); exact HO251.out) (Kd.R_base ho19) hb); replace HO254 := Aside0.mk (Kd.V_elder' (by (with_reducible repeat first | apply va | apply vn | apply vd); exact HO254.out) (Kd.R_base ho19) hb); replace HB := Aside0.mk (below_step (by repeat (first | (with_reducible first | exact HB.out | apply ba | apply bn | apply bd) | exact HB.out)) hb); clear hb ho19) | ((with_reducible refine gate_dst (N := 15) rfl ?_); (try (refine gate_guard (by rfl) ?_; dsimp only)); refine Kd.R_lit (Kd.int .u32) _ 42 ?hg (N := 15) ?hd (xs := ([0, 1] : List Int)) (inner := [.int .u32 0, .int .u32 1]) (ok := fun _ => True) (okp := fun _ => True) ?hr ?hp (fun _ hk => hk) trivial (Below.refl _ _) (Nat.le_refl _) (by simp) ?_; (case hd => rfl); (case hg => rfl); (case hr => first | (go_simp; done) | (go_simp; rfl)); (case hp => exact (Reps.one (show Kd.M (Kd.int .u32) _ _ _ 0 [.int .u32 0] from rfl) (Reps.one (show Kd.M (Kd.int .u32) _ _ _ 1 [.int .u32 1] from rfl) (Reps.none _ _)))); intro v260 w20 ho21 hb hg_ hnew_; clear hg_ hnew_; (first | rw [← Ny259.out] at ho21 | (simp only [Int.reduceToNat] at ho21; rw [← Ny259.out] at ho21)); have HO261 := Aside0.mk (Kd.R_lower (Kd.R_new' (Kd.R_new' (Kd.R_new' ho21 (Kd.R_lt (by (with_reducible repeat first | apply qa | apply qn | apply qd); exact HO245.out))) (Kd.R_lt (by (with_reducible repeat first | apply qa | apply qn | apply qd); exact HO248.out))) (Kd.R_lt (by (with_reducible repeat first | apply qa | apply qn | apply qd); exact HO258.out))) (below_size (by repeat (first | (with_reducible first | exact HB.out | apply ba | apply bn | apply bd) | exact HB.out)))); replace HO245 := Aside0.mk (Kd.R_elder' (by (with_reducible repeat first | apply qa | apply qn | apply qd); exact HO245.out) (Kd.R_base ho21) hb); replace HO248 := Aside0.mk (Kd.R_elder' (by (with_reducible repeat first | apply qa | apply qn | apply qd); exact HO248.out) (Kd.R_base ho21) hb); replace HO251 := Aside0.mk (Kd.V_elder' (by (with_reducible repeat first | apply va | apply vn | apply vd); exact HO251.out) (Kd.R_base ho21) hb); replace HO254 := Aside0.mk (Kd.V_elder' (by (with_reducible repeat first | apply va | apply vn | apply vd); exact HO254.out) (Kd.R_base ho21) hb); replace HO258 := Aside0.mk (Kd.R_elder' (by (with_reducible repeat first | apply qa | apply qn | apply qd); exact HO258.out) (Kd.R_base ho21) hb); replace HB := Aside0.mk (below_step (by repeat (first | (with_reducible first | exact HB.out | apply ba | apply bn | apply bd) | exact HB.out)) hb); clear hb ho21; obtain ⟨Ao22, co22, eo22⟩ := Kd.R_slice HO258.out; subst eo22; obtain ⟨Ao23, co23, eo23⟩ := Kd.R_slice HO261.out; subst eo23) | (go_at_call 14; (with_reducible refine (nat_Mul.calls k (fun k_ => some k_ = (.slice Ao22 y256.length co22 : Value).ownBlock) _ _ y256 (fun k_ => some k_ = (.slice Ao23 y259.length co23 : Value).ownBlock) _ _ y259 t262 _ ?side1 ?side2 A3.out).mono ?_); (case side1 => exact Kd.R_V (Kd.R_tight rfl (HO258.out))); (case side2 => exact Kd.R_V (Kd.R_tight rfl (HO261.out))); rintro e w24 ⟨v263, rfl, ho0, hb⟩; have HO264 := Aside0.mk (Kd.V_lower (Kd.V_mono (ok' := fun k_ => some k_ ≠ (.slice Ao15 y243.length co15 : Value).ownBlock ∧ some k_ ≠ (.slice Ao16 y246.length co16 : Value).ownBlock) ho0 (fun k_ hk_ => ⟨Or.elim hk_ (fun hs_ => Or.elim hs_ (fun hs_ => ((HO258.out).1 k_ hs_.symm).1.1.2) (fun hs_ => ((HO261.out).1 k_ hs_.symm).1.1.2)) (fun hn_ => (Kd.fresh' (Kd.R_lt (by (with_reducible repeat first | apply qa | apply qn | apply qd); exact HO245.out)) k_ hn_)), Or.elim hk_ (fun hs_ => Or.elim hs_ (fun hs_ => ((HO258.out).1 k_ hs_.symm).1.2) (fun hs_ => ((HO261.out).1 k_ hs_.symm).1.2)) (fun hn_ => (Kd.fresh' (Kd.R_lt (by (with_reducible repeat first | apply qa | apply qn | apply qd); exact HO248.out)) k_ hn_))⟩)) (below_size (by repeat (first | (with_reducible first | exact HB.out | apply ba | apply bn | apply bd) | exact HB.out)))); replace HO245 := Aside0.mk (Kd.R_below (by (with_reducible repeat first | apply qa | apply qn | apply qd); exact HO245.out) hb); replace HO248 := Aside0.mk (Kd.R_below (by (with_reducible repeat first | apply qa | apply qn | apply qd); exact HO248.out) hb); replace HO251 := Aside0.mk (Kd.V_below (by (with_reducible repeat first | apply va | apply vn | apply vd); exact HO251.out) hb); replace HO254 := Aside0.mk (Kd.V_below (by (with_reducible repeat first | apply va | apply vn | apply vd); exact HO254.out) hb); replace HO258 := Aside0.mk (Kd.R_below (by (with_reducible repeat first | apply qa | apply qn | apply qd); exact HO258.out) hb); replace HO261 := Aside0.mk (Kd.R_below (by (with_reducible repeat first | apply qa | apply qn | apply qd); exact HO261.out) hb); replace HB := Aside0.mk (below_step (by repeat (first | (with_reducible first | exact HB.out | apply ba | apply bn | apply bd) | exact HB.out)) hb); (try clear hb); (try clear hb2); (try clear hk); (try clear hi); (try clear ho0)) | ((with_reducible refine gate_dst (N := 17) rfl ?_); (try (refine gate_guard (by rfl) ?_; dsimp only)); refine Kd.R_lit (Kd.int .u32) _ 42 ?hg (N := 17) ?hd (xs := ([0, 0, 1] : List Int)) (inner := [.int .u32 0, .int .u32 0, .int .u32 1]) (ok := fun _ => True) (okp := fun _ => True) ?hr ?hp (fun _ hk => hk) trivial (Below.refl _ _) (Nat.le_refl _) (by simp) ?_; (case hd => rfl); (case hg => rfl); (case hr => first | (go_simp; done) | (go_simp; rfl)); (case hp => exact (Reps.one (show Kd.M (Kd.int .u32) _ _ _ 0 [.int .u32 0] from rfl) (Reps.one (show Kd.M (Kd.int .u32) _ _ _ 0 [.int .u32 0] from rfl) (Reps.one (show Kd.M (Kd.int .u32) _ _ _ 1 [.int .u32 1] from rfl) (Reps.none _ _))))); intro v266 w25 ho26 hb hg_ hnew_; clear hg_ hnew_; (first | rw [← Ny265.out] at ho26 | (simp only [Int.reduceToNat] at ho26; rw [← Ny265.out] at ho26)); have HO267 := Aside0.mk (Kd.R_lower (Kd.R_new' (Kd.R_new' (Kd.R_new' (Kd.R_new' ho26 (Kd.R_lt (by (with_reducible repeat first | apply qa | apply qn | apply qd); exact HO245.out))) (Kd.R_lt (by (with_reducible repeat first | apply qa | apply qn | apply qd); exact HO248.out))) (Kd.R_lt (by (with_reducible repeat first | apply qa | apply qn | apply qd); exact HO258.out))) (Kd.R_lt (by (with_reducible repeat first | apply qa | apply qn | apply qd); exact HO261.out))) (below_size (by repeat (first | (with_reducible first | exact HB.out | apply ba | apply bn | apply bd) | exact HB.out)))); replace HO245 := Aside0.mk (Kd.R_elder' (by (with_reducible repeat first | apply qa | apply qn | apply qd); exact HO245.out) (Kd.R_base ho26) hb); replace HO248 := Aside0.mk (Kd.R_elder' (by (with_reducible repeat first | apply qa | apply qn | apply qd); exact HO248.out) (Kd.R_base ho26) hb); replace HO251 := Aside0.mk (Kd.V_elder' (by (with_reducible repeat first | apply va | apply vn | apply vd); exact HO251.out) (Kd.R_base ho26) hb); replace HO254 := Aside0.mk (Kd.V_elder' (by (with_reducible repeat first | apply va | apply vn | apply vd); exact HO254.out) (Kd.R_base ho26) hb); replace HO258 := Aside0.mk (Kd.R_elder' (by (with_reducible repeat first | apply qa | apply qn | apply qd); exact HO258.out) (Kd.R_base ho26) hb); replace HO261 := Aside0.mk (Kd.R_elder' (by (with_reducible repeat first | apply qa | apply qn | apply qd); exact HO261.out) (Kd.R_base ho26) hb); replace HO264 := Aside0.mk (Kd.V_elder' (by (with_reducible repeat first | apply va | apply vn | apply vd); exact HO264.out) (Kd.R_base ho26) hb); replace HB := Aside0.mk (below_step (by repeat (first | (with_reducible first | exact HB.out | apply ba | apply bn | apply bd) | exact HB.out)) hb); clear hb ho26; obtain ⟨Ao27, co27, eo27⟩ := Kd.V_slice HO264.out; subst eo27; obtain ⟨Ao28, co28, eo28⟩ := Kd.R_slice HO267.out; subst eo28) | (go_at_call 13; (with_reducible refine (whetstoneref01_Words.calls k _ _ t262 _ _ y265 true _ ?side1 ?side2 ?side3 ?side4 A4.out).mono ?_); (case side1 => repeat (first | exact (Kd.V_reads' HO264.out).2.2 | (with_reducible refine Kd.C_alloc ?_ _) | (with_reducible refine Kd.C_drewN ?_ _) | (with_reducible refine Kd.C_drew ?_))); (case side2 => exact (Kd.V_reads' HO264.out).2.1); (case side3 => repeat (first | exact (Kd.R_reads' HO267.out).2.2 | (with_reducible refine Kd.C_alloc ?_ _) | (with_reducible refine Kd.C_drewN ?_ _) | (with_reducible refine Kd.C_drew ?_))); (case side4 => exact (Kd.R_reads' HO267.out).2.1); rintro e w' ⟨rfl, ⟨nd, rfl⟩⟩) | ((with_reducible refine gate_dst (N := 22) rfl ?_); (try (refine gate_guard (by rfl) ?_; dsimp only)); refine Kd.R_lit (Kd.int .u32) _ 42 ?hg (N := 22) ?hd (xs := ([4294967295] : List Int)) (inner := [.int .u32 4294967295]) (ok := fun _ => True) (okp := fun _ => True) ?hr ?hp (fun _ hk => hk) trivial (Below.refl _ _) (Nat.le_refl _) (by simp) ?_; (case hd => rfl); (case hg => rfl); (case hr => first | (go_simp; done) | (go_simp; rfl)); (case hp => exact (Reps.one (show Kd.M (Kd.int .u32) _ _ _ 4294967295 [.int .u32 4294967295] from rfl) (Reps.none _ _))); intro v270 w29 ho30 hb hg_ hnew_; clear hg_ hnew_; (first | rw [← Ny269.out] at ho30 | (simp only [Int.reduceToNat] at ho30; rw [← Ny269.out] at ho30)); have HO271 := Aside0.mk (Kd.R_lower (Kd.R_new' (Kd.R_new' (Kd.R_new' (Kd.R_new' (Kd.R_new' ho30 (Kd.R_lt (by (with_reducible repeat first | apply qa | apply qn | apply qd); exact HO245.out))) (Kd.R_lt (by (with_reducible repeat first | apply qa | apply qn | apply qd); exact HO248.out))) (Kd.R_lt (by (with_reducible repeat first | apply qa | apply qn | apply qd); exact HO258.out))) (Kd.R_lt (by (with_reducible repeat first | apply qa | apply qn | apply qd); exact HO261.out))) (Kd.R_lt (by (with_reducible repeat first | apply qa | apply qn | apply qd); exact HO267.out))) (below_size (by repeat (first | (with_reducible first | exact HB.out | apply ba | apply bn | apply bd) | exact HB.out)))); replace HO245 := Aside0.mk (Kd.R_elder' (by (with_reducible repeat first | apply qa | apply qn | apply qd); exact HO245.out) (Kd.R_base ho30) hb); replace HO248 := Aside0.mk (Kd.R_elder' (by (with_reducible repeat first | apply qa | apply qn | apply qd); exact HO248.out) (Kd.R_base ho30) hb); replace HO251 := Aside0.mk (Kd.V_elder' (by (with_reducible repeat first | apply va | apply vn | apply vd); exact HO251.out) (Kd.R_base ho30) hb); replace HO254 := Aside0.mk (Kd.V_elder' (by (with_reducible repeat first | apply va | apply vn | apply vd); exact HO254.out) (Kd.R_base ho30) hb); replace HO258 := Aside0.mk (Kd.R_elder' (by (with_reducible repeat first | apply qa | apply qn | apply qd); exact HO258.out) (Kd.R_base ho30) hb); replace HO261 := Aside0.mk (Kd.R_elder' (by (with_reducible repeat first | apply qa | apply qn | apply qd); exact HO261.out) (Kd.R_base ho30) hb); replace HO264 := Aside0.mk (Kd.V_elder' (by (with_reducible repeat first | apply va | apply vn | apply vd); exact HO264.out) (Kd.R_base ho30) hb); replace HO267 := Aside0.mk (Kd.R_elder' (by (with_reducible repeat first | apply qa | apply qn | apply qd); exact HO267.out) (Kd.R_base ho30) hb); replace HB := Aside0.mk (below_step (by repeat (first | (with_reducible first | exact HB.out | apply ba | apply bn | apply bd) | exact HB.out)) hb); clear hb ho30; obtain ⟨Ao31, co31, eo31⟩ := Kd.V_slice HO251.out; subst eo31; obtain ⟨Ao32, co32, eo32⟩ := Kd.R_slice HO271.out; subst eo32) | (go_at_call 13; (with_reducible refine (whetstoneref01_Words.calls k _ _ t249 _ _ y269 true _ ?side1 ?side2 ?side3 ?side4 A6.out).mono ?_); (case side1 => repeat (first | exact (Kd.V_reads' HO251.out).2.2 | (with_reducible refine Kd.C_alloc ?_ _) | (with_reducible refine Kd.C_drewN ?_ _) | (with_reducible refine Kd.C_drew ?_))); (case side2 => exact (Kd.V_reads' HO251.out).2.1); (case side3 => repeat (first | exact (Kd.R_reads' HO271.out).2.2 | (with_reducible refine Kd.C_alloc ?_ _) | (with_reducible refine Kd.C_drewN ?_ _) | (with_reducible refine Kd.C_drew ?_))); (case side4 => exact (Kd.R_reads' HO271.out).2.1); rintro e w' ⟨rfl, ⟨nd, rfl⟩⟩) | ((with_reducible refine gate_dst (N := 27) rfl ?_); (try (refine gate_guard (by rfl) ?_; dsimp only)); refine Kd.R_lit (Kd.int .u32) _ 42 ?hg (N := 27) ?hd (xs := ([1] : List Int)) (inner := [.int .u32 1]) (ok := fun _ => True) (okp := fun _ => True) ?hr ?hp (fun _ hk => hk) trivial (Below.refl _ _) (Nat.le_refl _) (by simp) ?_; (case hd => rfl); (case hg => rfl); (case hr => first | (go_simp; done) | (go_simp; rfl)); (case hp => exact (Reps.one (show Kd.M (Kd.int .u32) _ _ _ 1 [.int .u32 1] from rfl) (Reps.none _ _))); intro v274 w33 ho34 hb hg_ hnew_; clear hg_ hnew_; (first | rw [← Ny273.out] at ho34 | (simp only [Int.reduceToNat] at ho34; rw [← Ny273.out] at ho34)); have HO275 := Aside0.mk (Kd.R_lower (Kd.R_new' (Kd.R_new' (Kd.R_new' (Kd.R_new' (Kd.R_new' (Kd.R_new' ho34 (Kd.R_lt (by (with_reducible repeat first | apply qa | apply qn | apply qd); exact HO245.out))) (Kd.R_lt (by (with_reducible repeat first | apply qa | apply qn | apply qd); exact HO248.out))) (Kd.R_lt (by (with_reducible repeat first | apply qa | apply qn | apply qd); exact HO258.out))) (Kd.R_lt (by (with_reducible repeat first | apply qa | apply qn | apply qd); exact HO261.out))) (Kd.R_lt (by (with_reducible repeat first | apply qa | apply qn | apply qd); exact HO267.out))) (Kd.R_lt (by (with_reducible repeat first | apply qa | apply qn | apply qd); exact HO271.out))) (below_size (by repeat (first | (with_reducible first | exact HB.out | apply ba | apply bn | apply bd) | exact HB.out)))); replace HO245 := Aside0.mk (Kd.R_elder' (by (with_reducible repeat first | apply qa | apply qn | apply qd); exact HO245.out) (Kd.R_base ho34) hb); replace HO248 := Aside0.mk (Kd.R_elder' (by (with_reducible repeat first | apply qa | apply qn | apply qd); exact HO248.out) (Kd.R_base ho34) hb); replace HO251 := Aside0.mk (Kd.V_elder' (by (with_reducible repeat first | apply va | apply vn | apply vd); exact HO251.out) (Kd.R_base ho34) hb); replace HO254 := Aside0.mk (Kd.V_elder' (by (with_reducible repeat first | apply va | apply vn | apply vd); exact HO254.out) (Kd.R_base ho34) hb); replace HO258 := Aside0.mk (Kd.R_elder' (by (with_reducible repeat first | apply qa | apply qn | apply qd); exact HO258.out) (Kd.R_base ho34) hb); replace HO261 := Aside0.mk (Kd.R_elder' (by (with_reducible repeat first | apply qa | apply qn | apply qd); exact HO261.out) (Kd.R_base ho34) hb); replace HO264 := Aside0.mk (Kd.V_elder' (by (with_reducible repeat first | apply va | apply vn | apply vd); exact HO264.out) (Kd.R_base ho34) hb); replace HO267 := Aside0.mk (Kd.R_elder' (by (with_reducible repeat first | apply qa | apply qn | apply qd); exact HO267.out) (Kd.R_base ho34) hb); replace HO271 := Aside0.mk (Kd.R_elder' (by (with_reducible repeat first | apply qa | apply qn | apply qd); exact HO271.out) (Kd.R_base ho34) hb); replace HB := Aside0.mk (below_step (by repeat (first | (with_reducible first | exact HB.out | apply ba | apply bn | apply bd) | exact HB.out)) hb); clear hb ho34; obtain ⟨Ao35, co35, eo35⟩ := Kd.V_slice HO254.out; subst eo35; obtain ⟨Ao36, co36, eo36⟩ := Kd.R_slice HO275.out; subst eo36) | (go_at_call 13; (with_reducible refine (whetstoneref01_Words.calls k _ _ t252 _ _ y273 true _ ?side1 ?side2 ?side3 ?side4 A8.out).mono ?_); (case side1 => repeat (first | exact (Kd.V_reads' HO254.out).2.2 | (with_reducible refine Kd.C_alloc ?_ _) | (with_reducible refine Kd.C_drewN ?_ _) | (with_reducible refine Kd.C_drew ?_))); (case side2 => exact (Kd.V_reads' HO254.out).2.1); (case side3 => repeat (first | exact (Kd.R_reads' HO275.out).2.2 | (with_reducible refine Kd.C_alloc ?_ _) | (with_reducible refine Kd.C_drewN ?_ _) | (with_reducible refine Kd.C_drew ?_))); (case side4 => exact (Kd.R_reads' HO275.out).2.1); rintro e w' ⟨rfl, ⟨nd, rfl⟩⟩) | ((with_reducible refine gate_dst (N := 31) rfl ?_); (try (refine gate_guard (by rfl) ?_; dsimp only)); refine Kd.R_lit (Kd.int .u32) _ 42 ?hg (N := 31) ?hd (xs := ([0, 1] : List Int)) (inner := [.int .u32 0, .int .u32 1]) (ok := fun _ => True) (okp := fun _ => True) ?hr ?hp (fun _ hk => hk) trivial (Below.refl _ _) (Nat.le_refl _) (by simp) ?_; (case hd => rfl); (case hg => rfl); (case hr => first | (go_simp; done) | (go_simp; rfl)); (case hp => exact (Reps.one (show Kd.M (Kd.int .u32) _ _ _ 0 [.int .u32 0] from rfl) (Reps.one (show Kd.M (Kd.int .u32) _ _ _ 1 [.int .u32 1] from rfl) (Reps.none _ _)))); intro v278 w37 ho38 hb hg_ hnew_; clear hg_ hnew_; (first | rw [← Ny277.out] at ho38 | (simp only [Int.reduceToNat] at ho38; rw [← Ny277.out] at ho38)); have HO279 := Aside0.mk (Kd.R_lower (Kd.R_new' (Kd.R_new' (Kd.R_new' (Kd.R_new' (Kd.R_new' (Kd.R_new' (Kd.R_new' ho38 (Kd.R_lt (by (with_reducible repeat first | apply qa | apply qn | apply qd); exact HO245.out))) (Kd.R_lt (by (with_reducible repeat first | apply qa | apply qn | apply qd); exact HO248.out))) (Kd.R_lt (by (with_reducible repeat first | apply qa | apply qn | apply qd); exact HO258.out))) (Kd.R_lt (by (with_reducible repeat first | apply qa | apply qn | apply qd); exact HO261.out))) (Kd.R_lt (by (with_reducible repeat first | apply qa | apply qn | apply qd); exact HO267.out))) (Kd.R_lt (by (with_reducible repeat first | apply qa | apply qn | apply qd); exact HO271.out))) (Kd.R_lt (by (with_reducible repeat first | apply qa | apply qn | apply qd); exact HO275.out))) (below_size (by repeat (first | (with_reducible first | exact HB.out | apply ba | apply bn | apply bd) | exact HB.out)))); replace HO245 := Aside0.mk (Kd.R_elder' (by (with_reducible repeat first | apply qa | apply qn | apply qd); exact HO245.out) (Kd.R_base ho38) hb); replace HO248 := Aside0.mk (Kd.R_elder' (by (with_reducible repeat first | apply qa | apply qn | apply qd); exact HO248.out) (Kd.R_base ho38) hb); replace HO251 := Aside0.mk (Kd.V_elder' (by (with_reducible repeat first | apply va | apply vn | apply vd); exact HO251.out) (Kd.R_base ho38) hb); replace HO254 := Aside0.mk (Kd.V_elder' (by (with_reducible repeat first | apply va | apply vn | apply vd); exact HO254.out) (Kd.R_base ho38) hb); replace HO258 := Aside0.mk (Kd.R_elder' (by (with_reducible repeat first | apply qa | apply qn | apply qd); exact HO258.out) (Kd.R_base ho38) hb); replace HO261 := Aside0.mk (Kd.R_elder' (by (with_reducible repeat first | apply qa | apply qn | apply qd); exact HO261.out) (Kd.R_base ho38) hb); replace HO264 := Aside0.mk (Kd.V_elder' (by (with_reducible repeat first | apply va | apply vn | apply vd); exact HO264.out) (Kd.R_base ho38) hb); replace HO267 := Aside0.mk (Kd.R_elder' (by (with_reducible repeat first | apply qa | apply qn | apply qd); exact HO267.out) (Kd.R_base ho38) hb); replace HO271 := Aside0.mk (Kd.R_elder' (by (with_reducible repeat first | apply qa | apply qn | apply qd); exact HO271.out) (Kd.R_base ho38) hb); replace HO275 := Aside0.mk (Kd.R_elder' (by (with_reducible repeat first | apply qa | apply qn | apply qd); exact HO275.out) (Kd.R_base ho38) hb); replace HB := Aside0.mk (below_step (by repeat (first | (with_reducible first | exact HB.out | apply ba | apply bn | apply bd) | exact HB.out)) hb); clear hb ho38; obtain ⟨Ao39, co39, eo39⟩ := Kd.R_slice HO279.out; subst eo39) | (go_at_call 30; (with_reducible refine (nat_Text.calls k _ _ y277 t280 _ ?side1 ?side2 A10.out).mono ?_); (case side1 => repeat (first | exact (Kd.R_reads' HO279.out).2.2 | (with_reducible refine Kd.C_alloc ?_ _) | (with_reducible refine Kd.C_drewN ?_ _) | (with_reducible refine Kd.C_drew ?_))); (case side2 => exact (Kd.R_reads' HO279.out).2.1); rintro e w40 ⟨rfl, hb⟩; replace HO245 := Aside0.mk (Kd.R_below (by (with_reducible repeat first | apply qa | apply qn | apply qd); exact HO245.out) hb); replace HO248 := Aside0.mk (Kd.R_below (by (with_reducible repeat first | apply qa | apply qn | apply qd); exact HO248.out) hb); replace HO251 := Aside0.mk (Kd.V_below (by (with_reducible repeat first | apply va | apply vn | apply vd); exact HO251.out) hb); replace HO254 := Aside0.mk (Kd.V_below (by (with_reducible repeat first | apply va | apply vn | apply vd); exact HO254.out) hb); replace HO258 := Aside0.mk (Kd.R_below (by (with_reducible repeat first | apply qa | apply qn | apply qd); exact HO258.out) hb); replace HO261 := Aside0.mk (Kd.R_below (by (with_reducible repeat first | apply qa | apply qn | apply qd); exact HO261.out) hb); replace HO264 := Aside0.mk (Kd.V_below (by (with_reducible repeat first | apply va | apply vn | apply vd); exact HO264.out) hb); replace HO267 := Aside0.mk (Kd.R_below (by (with_reducible repeat first | apply qa | apply qn | apply qd); exact HO267.out) hb); replace HO271 := Aside0.mk (Kd.R_below (by (with_reducible repeat first | apply qa | apply qn | apply qd); exact HO271.out) hb); replace HO275 := Aside0.mk (Kd.R_below (by (with_reducible repeat first | apply qa | apply qn | apply qd); exact HO275.out) hb); replace HO279 := Aside0.mk (Kd.R_below (by (with_reducible repeat first | apply qa | apply qn | apply qd); exact HO279.out) hb); replace HB := Aside0.mk (below_step (by repeat (first | (with_reducible first | exact HB.out | apply ba | apply bn | apply bd) | exact HB.out)) hb); (try clear hb); (try clear hb2); (try clear hk); (try clear hi)))
     go_ret
     exact ⟨by first | rfl | (simp [errW_none, errW_some] <;> rfl) | (simp [*, errW_none, errW_some] <;> rfl), by repeat (first | (with_reducible first | exact HB.out | apply ba | apply bn | apply bd) | exact HB.out)⟩
    ·replace c9 := Bool.eq_false_iff.mpr c9
     subst c9
     have H1 : (some false) = some r := by rw [if_neg (show ¬ (false = true) by decide)] at H; exact H
     clear H
     have H := H1
     clear H1
     obtain rfl := Option.some.inj H
     go_enter Try.func12, Try.ntmps12
     go_wp2_with (first | ((with_reducible refine gate_dst (N := 5) rfl ?_); (try (refine gate_guard (by rfl) ?_; dsimp only)); refine Kd.R_lit (Kd.int .u32) _ 42 ?hg (N := 5) ?hd (xs := ([0, 0, 1] : List Int)) (inner := [.int .u32 0, .int .u32 0, .int .u32 1]) (ok := fun _ => True) (okp := fun _ => True) ?hr ?hp (fun _ hk => hk) trivial (Below.refl _ _) (Nat.le_refl _) (by simp) ?_; (case hd => rfl); (case hg => rfl); (case hr => first | (go_simp; done) | (go_simp; rfl)); (case hp => exact (Reps.one (show Kd.M (Kd.int .u32) _ _ _ 0 [.int .u32 0] from rfl) (Reps.one (show Kd.M (Kd.int .u32) _ _ _ 0 [.int .u32 0] from rfl) (Reps.one (show Kd.M (Kd.int .u32) _ _ _ 1 [.int .u32 1] from rfl) (Reps.none _ _))))); intro v244 w41 ho42 hb hg_ hnew_; clear hg_ hnew_; (first | rw [← Ny243.out] at ho42 | (simp only [Int.reduceToNat] at ho42; rw [← Ny243.out] at ho42)); have HO245 := Aside0.mk (Kd.R_lower ho42 (below_size (by repeat (first | (with_reducible first | exact HB.out | apply ba | apply bn | apply bd) | exact HB.out)))); replace HB := Aside0.mk (below_step (by repeat (first | (with_reducible first | exact HB.out | apply ba | apply bn | apply bd) | exact HB.out)) hb); clear hb ho42) | ((with_reducible refine gate_dst (N := 6) rfl ?_); (try (refine gate_guard (by rfl) ?_; dsimp only)); refine Kd.R_lit (Kd.int .u32) _ 42 ?hg (N := 6) ?hd (xs := ([1, 1] : List Int)) (inner := [.int .u32 1, .int .u32 1]) (ok := fun _ => True) (okp := fun _ => True) ?hr ?hp (fun _ hk => hk) trivial (Below.refl _ _) (Nat.le_refl _) (by simp) ?_; (case hd => rfl); (case hg => rfl); (case hr => first | (go_simp; done) | (go_simp; rfl)); (case hp => exact (Reps.one (show Kd.M (Kd.int .u32) _ _ _ 1 [.int .u32 1] from rfl) (Reps.one (show Kd.M (Kd.int .u32) _ _ _ 1 [.int .u32 1] from rfl) (Reps.none _ _)))); intro v247 w43 ho44 hb hg_ hnew_; clear hg_ hnew_; (first | rw [← Ny246.out] at ho44 | (simp only [Int.reduceToNat] at ho44; rw [← Ny246.out] at ho44)); have HO248 := Aside0.mk (Kd.R_lower (Kd.R_new' ho44 (Kd.R_lt (by (with_reducible repeat first | apply qa | apply qn | apply qd); exact HO245.out))) (below_size (by repeat (first | (with_reducible first | exact HB.out | apply ba | apply bn | apply bd) | exact HB.out)))); replace HO245 := Aside0.mk (Kd.R_elder' (by (with_reducible repeat first | apply qa | apply qn | apply qd); exact HO245.out) (Kd.R_base ho44) hb); replace HB := Aside0.mk (below_step (by repeat (first | (with_reducible first | exact HB.out | apply ba | apply bn | apply bd) | exact HB.out)) hb); clear hb ho44; obtain ⟨Ao45, co45, eo45⟩ := Kd.R_slice HO245.out; subst eo45; obtain ⟨Ao46, co46, eo46⟩ := Kd.R_slice HO248.out; subst eo46) | ((with_reducible refine gate_callee (f := 18) rfl ?_); refine goesL_ (some 7) rfl rfl Try.func18 (by kernel_rfl) rfl #[.slice Ao45 y243.length co45, .slice Ao46 y246.length co46] rfl (by (try simp only [List.map_toArray, List.map_cons, List.map_nil]); first | done | rfl | (simp only [List.length_drop, List.length_take]; rfl)) ?_; (with_reducible refine (nat_DivMod.calls k (fun k_ => some k_ = (.slice Ao45 y243.length co45 : Value).ownBlock) _ _ y243 (fun k_ => some k_ = (.slice Ao46 y246.length co46 : Value).ownBlock) _ _ y246 t249 t252 t255 _ ?side1 ?side2 A1.out).mono ?_); (case side1 => exact Kd.R_V (Kd.R_tight rfl (HO245.out))); (case side2 => exact Kd.R_V (Kd.R_tight rfl (HO248.out))); rintro e w47 ⟨v250, v253, rfl, ho0, ho1, hb⟩; refine ⟨_, rfl, ?_⟩; have HO251 := Aside0.mk (Kd.V_lower (Kd.V_mono (ok' := fun k_ => True) ho0 (fun k_ hk_ => trivial)) (below_size (by repeat (first | (with_reducible first | exact HB.out | apply ba | apply bn | apply bd) | exact HB.out)))); have HO254 := Aside0.mk (Kd.V_lower (Kd.V_mono (ok' := fun k_ => True) ho1 (fun k_ hk_ => trivial)) (below_size (by repeat (first | (with_reducible first | exact HB.out | apply ba | apply bn | apply bd) | exact HB.out)))); replace HO245 := Aside0.mk (Kd.R_below (by (with_reducible repeat first | apply qa | apply qn | apply qd); exact HO245.out) hb); replace HO248 := Aside0.mk (Kd.R_below (by (with_reducible repeat first | apply qa | apply qn | apply qd); exact HO248.out) hb); replace HB := Aside0.mk (below_step (by repeat (first | (with_reducible first | exact HB.out | apply ba | apply bn | apply bd) | exact HB.out)) hb); (try clear hb); (try clear hb2); (try clear hk); (try clear hi); (try clear ho0); (try clear ho1)) | ((with_reducible refine gate_dst (N := 14) rfl ?_); (try (refine gate_guard (by rfl) ?_; dsimp only)); refine Kd.R_lit (Kd.int .u32) _ 42 ?hg (N := 14) ?hd (xs := ([0, 1] : List Int)) (inner := [.int .u32 0, .int .u32 1]) (ok := fun _ => True) (okp := fun _ => True) ?hr ?hp (fun _ hk => hk) trivial (Below.refl _ _) (Nat.le_refl _) (by simp) ?_; (case hd => rfl); (case hg => rfl); (case hr => first | (go_simp; done) | (go_simp; rfl)); (case hp => exact (Reps.one (show Kd.M (Kd.int .u32) _ _ _ 0 [.int .u32 0] from rfl) (Reps.one (show Kd.M (Kd.int .u32) _ _ _ 1 [.int .u32 1] from rfl) (Reps.none _ _)))); intro v257 w48 ho49 hb hg_ hnew_; clear hg_ hnew_; (first | rw [← Ny256.out] at ho49 | (simp only [Int.reduceToNat] at ho49; rw [← Ny256.out] at ho49)); have HO258 := Aside0.mk (Kd.R_lower (Kd.R_new' (Kd.R_new' ho49 (Kd.R_lt (by (with_reducible repeat first | apply qa | apply qn | apply qd); exact HO245.out))) (Kd.R_lt (by (with_reducible repeat first | apply qa | apply qn | apply qd); exact HO248.out))) (below_size (by repeat (first | (with_reducible first | exact HB.out | apply ba | apply bn | apply bd) | exact HB.out)))); replace HO245 := Aside0.mk (Kd.R_elder' (by (with_reducible repeat first | apply qa | apply qn | apply qd); exact HO245.out) (Kd.R_base ho49) hb); replace HO248 := Aside0.mk (Kd.R_elder' (by (with_reducible repeat first | apply qa | apply qn | apply qd); exact HO248.out) (Kd.R_base ho49) hb); replace HO251 := Aside0.mk (Kd.V_elder' (by (with_reducible repeat first | apply va | apply vn | apply vd); exact HO251.out) (Kd.R_base ho49) hb); replace HO254 := Aside0.mk (Kd.V_elder' (by (with_reducible repeat first | apply va | apply vn | apply vd); exact HO254.out) (Kd.R_base ho49) hb); replace HB := Aside0.mk (below_step (by repeat (first | (with_reducible first | exact HB.out | apply ba | apply bn | apply bd) | exact HB.out)) hb); clear hb ho49) | ((with_reducible refine gate_dst (N := 15) rfl ?_); (try (refine gate_guard (by rfl) ?_; dsimp only)); refine Kd.R_lit (Kd.int .u32) _ 42 ?hg (N := 15) ?hd (xs := ([0, 1] : List Int)) (inner := [.int .u32 0, .int .u32 1]) (ok := fun _ => True) (okp := fun _ => True) ?hr ?hp (fun _ hk => hk) trivial (Below.refl _ _) (Nat.le_refl _) (by simp) ?_; (case hd => rfl); (case hg => rfl); (case hr => first | (go_simp; done) | (go_simp; rfl)); (case hp => exact (Reps.one (show Kd.M (Kd.int .u32) _ _ _ 0 [.int .u32 0] from rfl) (Reps.one (show Kd.M (Kd.int .u32) _ _ _ 1 [.int .u32 1] from rfl) (Reps.none _ _)))); intro v260 w50 ho51 hb hg_ hnew_; clear hg_ hnew_; (first | rw [← Ny259.out] at ho51 | (simp only [Int.reduceToNat] at ho51; rw [← Ny259.out] at ho51)); have HO261 := Aside0.mk (Kd.R_lower (Kd.R_new' (Kd.R_new' (Kd.R_new' ho51 (Kd.R_lt (by (with_reducible repeat first | apply qa | apply qn | apply qd); exact HO245.out))) (Kd.R_lt (by (with_reducible repeat first | apply qa | apply qn | apply qd); exact HO248.out))) (Kd.R_lt (by (with_reducible repeat first | apply qa | apply qn | apply qd); exact HO258.out))) (below_size (by repeat (first | (with_reducible first | exact HB.out | apply ba | apply bn | apply bd) | exact HB.out)))); replace HO245 := Aside0.mk (Kd.R_elder' (by (with_reducible repeat first | apply qa | apply qn | apply qd); exact HO245.out) (Kd.R_base ho51) hb); replace HO248 := Aside0.mk (Kd.R_elder' (by (with_reducible repeat first | apply qa | apply qn | apply qd); exact HO248.out) (Kd.R_base ho51) hb); replace HO251 := Aside0.mk (Kd.V_elder' (by (with_reducible repeat first | apply va | apply vn | apply vd); exact HO251.out) (Kd.R_base ho51) hb); replace HO254 := Aside0.mk (Kd.V_elder' (by (with_reducible repeat first | apply va | apply vn | apply vd); exact HO254.out) (Kd.R_base ho51) hb); replace HO258 := Aside0.mk (Kd.R_elder' (by (with_reducible repeat first | apply qa | apply qn | apply qd); exact HO258.out) (Kd.R_base ho51) hb); replace HB := Aside0.mk (below_step (by repeat (first | (with_reducible first | exact HB.out | apply ba | apply bn | apply bd) | exact HB.out)) hb); clear hb ho51; obtain ⟨Ao52, co52, eo52⟩ := Kd.R_slice HO258.out; subst eo52; obtain ⟨Ao53, co53, eo53⟩ := Kd.R_slice HO261.out; subst eo53) | (go_at_call 14; (with_reducible refine (nat_Mul.calls k (fun k_ => some k_ = (.slice Ao52 y256.length co52 : Value).ownBlock) _ _ y256 (fun k_ => some k_ = (.slice Ao53 y259.length co53 : Value).ownBlock) _ _ y259 t262 _ ?side1 ?side2 A3.out).mono ?_); (case side1 => exact Kd.R_V (Kd.R_tight rfl (HO258.out))); (case side2 => exact Kd.R_V (Kd.R_tight rfl (HO261.out))); rintro e w54 ⟨v263, rfl, ho0, hb⟩; have HO264 := Aside0.mk (Kd.V_lower (Kd.V_mono (ok' := fun k_ => some k_ ≠ (.slice Ao45 y243.length co45 : Value).ownBlock ∧ some k_ ≠ (.slice Ao46 y246.length co46 : Value).ownBlock) ho0 (fun k_ hk_ => ⟨Or.elim hk_ (fun hs_ => Or.elim hs_ (fun hs_ => ((HO258.out).1 k_ hs_.symm).1.1.2) (fun hs_ => ((HO261.out).1 k_ hs_.symm).1.1.2)) (fun hn_ => (Kd.fresh' (Kd.R_lt (by (with_reducible repeat first | apply qa | apply qn | apply qd); exact HO245.out)) k_ hn_)), Or.elim hk_ (fun hs_ => Or.elim hs_ (fun hs_ => ((HO258.out).1 k_ hs_.symm).1.2) (fun hs_ => ((HO261.out).1 k_ hs_.symm).1.2)) (fun hn_ => (Kd.fresh' (Kd.R_lt (by (with_reducible repeat first | apply qa | apply qn | apply qd); exact HO248.out)) k_ hn_))⟩)) (below_size (by repeat (first | (with_reducible first | exact HB.out | apply ba | apply bn | apply bd) | exact HB.out)))); replace HO245 := Aside0.mk (Kd.R_below (by (with_reducible repeat first | apply qa | apply qn | apply qd); exact HO245.out) hb); replace HO248 := Aside0.mk (Kd.R_below (by (with_reducible repeat first | apply qa | apply qn | apply qd); exact HO248.out) hb); replace HO251 := Aside0.mk (Kd.V_below (by (with_reducible repeat first | apply va | apply vn | apply vd); exact HO251.out) hb); replace HO254 := Aside0.mk (Kd.V_below (by (with_reducible repeat first | apply va | apply vn | apply vd); exact HO254.out) hb); replace HO258 := Aside0.mk (Kd.R_below (by (with_reducible repeat first | apply qa | apply qn | apply qd); exact HO258.out) hb); replace HO261 := Aside0.mk (Kd.R_below (by (with_reducible repeat first | apply qa | apply qn | apply qd); exact HO261.out) hb); replace HB := Aside0.mk (below_step (by repeat (first | (with_reducible first | exact HB.out | apply ba | apply bn | apply bd) | exact HB.out)) hb); (try clear hb); (try clear hb2); (try clear hk); (try clear hi); (try clear ho0)) | ((with_reducible refine gate_dst (N := 17) rfl ?_); (try (refine gate_guard (by rfl) ?_; dsimp only)); refine Kd.R_lit (Kd.int .u32) _ 42 ?hg (N := 17) ?hd (xs := ([0, 0, 1] : List Int)) (inner := [.int .u32 0, .int .u32 0, .int .u32 1]) (ok := fun _ => True) (okp := fun _ => True) ?hr ?hp (fun _ hk => hk) trivial (Below.refl _ _) (Nat.le_refl _) (by simp) ?_; (case hd => rfl); (case hg => rfl); (case hr => first | (go_simp; done) | (go_simp; rfl)); (case hp => exact (Reps.one (show Kd.M (Kd.int .u32) _ _ _ 0 [.int .u32 0] from rfl) (Reps.one (show Kd.M (Kd.int .u32) _ _ _ 0 [.int .u32 0] from rfl) (Reps.one (show Kd.M (Kd.int .u32) _ _ _ 1 [.int .u32 1] from rfl) (Reps.none _ _))))); intro v266 w55 ho56 hb hg_ hnew_; clear hg_ hnew_; (first | rw [← Ny265.out] at ho56 | (simp only [Int.reduceToNat] at ho56; rw [← Ny265.out] at ho56)); have HO267 := Aside0.mk (Kd.R_lower (Kd.R_new' (Kd.R_new' (Kd.R_new' (Kd.R_new' ho56 (Kd.R_lt (by (with_reducible repeat first | apply qa | apply qn | apply qd); exact HO245.out))) (Kd.R_lt (by (with_reducible repeat first | apply qa | apply qn | apply qd); exact HO248.out))) (Kd.R_lt (by (with_reducible repeat first | apply qa | apply qn | apply qd); exact HO258.out))) (Kd.R_lt (by (with_reducible repeat first | apply qa | apply qn | apply qd); exact HO261.out))) (below_size (by repeat (first | (with_reducible first | exact HB.out | apply ba | apply bn | apply bd) | exact HB.out)))); replace HO245 := Aside0.mk (Kd.R_elder' (by (with_reducible repeat first | apply qa | apply qn | apply qd); exact HO245.out) (Kd.R_base ho56) hb); replace HO248 := Aside0.mk (Kd.R_elder' (by (with_reducible repeat first | apply qa | apply qn | apply qd); exact HO248.out) (Kd.R_base ho56) hb); replace HO251 := Aside0.mk (Kd.V_elder' (by (with_reducible repeat first | apply va | apply vn | apply vd); exact HO251.out) (Kd.R_base ho56) hb); replace HO254 := Aside0.mk (Kd.V_elder' (by (with_reducible repeat first | apply va | apply vn | apply vd); exact HO254.out) (Kd.R_base ho56) hb); replace HO258 := Aside0.mk (Kd.R_elder' (by (with_reducible repeat first | apply qa | apply qn | apply qd); exact HO258.out) (Kd.R_base ho56) hb); replace HO261 := Aside0.mk (Kd.R_elder' (by (with_reducible repeat first | apply qa | apply qn | apply qd); exact HO261.out) (Kd.R_base ho56) hb); replace HO264 := Aside0.mk (Kd.V_elder' (by (with_reducible repeat first | apply va | apply vn | apply vd); exact HO264.out) (Kd.R_base ho56) hb); replace HB := Aside0.mk (below_step (by repeat (first | (with_reducible first | exact HB.out | apply ba | apply bn | apply bd) | exact HB.out)) hb); clear hb ho56; obtain ⟨Ao57, co57, eo57⟩ := Kd.V_slice HO264.out; subst eo57; obtain ⟨Ao58, co58, eo58⟩ := Kd.R_slice HO267.out; subst eo58) | (go_at_call 13; (with_reducible refine (whetstoneref01_Words.calls k _ _ t262 _ _ y265 true _ ?side1 ?side2 ?side3 ?side4 A4.out).mono ?_); (case side1 => repeat (first | exact (Kd.V_reads' HO264.out).2.2 | (with_reducible refine Kd.C_alloc ?_ _) | (with_reducible refine Kd.C_drewN ?_ _) | (with_reducible refine Kd.C_drew ?_))); (case side2 => exact (Kd.V_reads' HO264.out).2.1); (case side3 => repeat (first | exact (Kd.R_reads' HO267.out).2.2 | (with_reducible refine Kd.C_alloc ?_ _) | (with_reducible refine Kd.C_drewN ?_ _) | (with_reducible refine Kd.C_drew ?_))); (case side4 => exact (Kd.R_reads' HO267.out).2.1); rintro e w' ⟨rfl, ⟨nd, rfl⟩⟩) | ((with_reducible refine gate_dst (N := 22) rfl ?_); (try (refine gate_guard (by rfl) ?_; dsimp only)); refine Kd.R_lit (Kd.int .u32) _ 42 ?hg (N := 22) ?hd (xs := ([4294967295] : List Int)) (inner := [.int .u32 4294967295]) (ok := fun _ => True) (okp := fun _ => True) ?hr ?hp (fun _ hk => hk) trivial (Below.refl _ _) (Nat.le_refl _) (by simp) ?_; (case hd => rfl); (case hg => rfl); (case hr => first | (go_simp; done) | (go_simp; rfl)); (case hp => exact (Reps.one (show Kd.M (Kd.int .u32) _ _ _ 4294967295 [.int .u32 4294967295] from rfl) (Reps.none _ _))); intro v270 w59 ho60 hb hg_ hnew_; clear hg_ hnew_; (first | rw [← Ny269.out] at ho60 | (simp only [Int.reduceToNat] at ho60; rw [← Ny269.out] at ho60)); have HO271 := Aside0.mk (Kd.R_lower (Kd.R_new' (Kd.R_new' (Kd.R_new' (Kd.R_new' (Kd.R_new' ho60 (Kd.R_lt (by (with_reducible repeat first | apply qa | apply qn | apply qd); exact HO245.out))) (Kd.R_lt (by (with_reducible repeat first | apply qa | apply qn | apply qd); exact HO248.out))) (Kd.R_lt (by (with_reducible repeat first | apply qa | apply qn | apply qd); exact HO258.out))) (Kd.R_lt (by (with_reducible repeat first | apply qa | apply qn | apply qd); exact HO261.out))) (Kd.R_lt (by (with_reducible repeat first | apply qa | apply qn | apply qd); exact HO267.out))) (below_size (by repeat (first | (with_reducible first | exact HB.out | apply ba | apply bn | apply bd) | exact HB.out)))); replace HO245 := Aside0.mk (Kd.R_elder' (by (with_reducible repeat first | apply qa | apply qn | apply qd); exact HO245.out) (Kd.R_base ho60) hb); replace HO248 := Aside0.mk (Kd.R_elder' (by (with_reducible repeat first | apply qa | apply qn | apply qd); exact HO248.out) (Kd.R_base ho60) hb); replace HO251 := Aside0.mk (Kd.V_elder' (by (with_reducible repeat first | apply va | apply vn | apply vd); exact HO251.out) (Kd.R_base ho60) hb); replace HO254 := Aside0.mk (Kd.V_elder' (by (with_reducible repeat first | apply va | apply vn | apply vd); exact HO254.out) (Kd.R_base ho60) hb); replace HO258 := Aside0.mk (Kd.R_elder' (by (with_reducible repeat first | apply qa | apply qn | apply qd); exact HO258.out) (Kd.R_base ho60) hb); replace HO261 := Aside0.mk (Kd.R_elder' (by (with_reducible repeat first | apply qa | apply qn | apply qd); exact HO261.out) (Kd.R_base ho60) hb); replace HO264 := Aside0.mk (Kd.V_elder' (by (with_reducible repeat first | apply va | apply vn | apply vd); exact HO264.out) (Kd.R_base ho60) hb); replace HO267 := Aside0.mk (Kd.R_elder' (by (with_reducible repeat first | apply qa | apply qn | apply qd); exact HO267.out) (Kd.R_base ho60) hb); replace HB := Aside0.mk (below_step (by repeat (first | (with_reducible first | exact HB.out | apply ba | apply bn | apply bd) | exact HB.out)) hb); clear hb ho60; obtain ⟨Ao61, co61, eo61⟩ := Kd.V_slice HO251.out; subst eo61; obtain ⟨Ao62, co62, eo62⟩ := Kd.R_slice HO271.out; subst eo62) | (go_at_call 13; (with_reducible refine (whetstoneref01_Words.calls k _ _ t249 _ _ y269 true _ ?side1 ?side2 ?side3 ?side4 A6.out).mono ?_); (case side1 => repeat (first | exact (Kd.V_reads' HO251.out).2.2 | (with_reducible refine Kd.C_alloc ?_ _) | (with_reducible refine Kd.C_drewN ?_ _) | (with_reducible refine Kd.C_drew ?_))); (case side2 => exact (Kd.V_reads' HO251.out).2.1); (case side3 => repeat (first | exact (Kd.R_reads' HO271.out).2.2 | (with_reducible refine Kd.C_alloc ?_ _) | (with_reducible refine Kd.C_drewN ?_ _) | (with_reducible refine Kd.C_drew ?_))); (case side4 => exact (Kd.R_reads' HO271.out).2.1); rintro e w' ⟨rfl, ⟨nd, rfl⟩⟩) | ((with_reducible refine gate_dst (N := 27) rfl ?_); (try (refine gate_guard (by rfl) ?_; dsimp only)); refine Kd.R_lit (Kd.int .u32) _ 42 ?hg (N := 27) ?hd (xs := ([1] : List Int)) (inner := [.int .u32 1]) (ok := fun _ => True) (okp := fun _ => True) ?hr ?hp (fun _ hk => hk) trivial (Below.refl _ _) (Nat.le_refl _) (by simp) ?_; (case hd => rfl); (case hg => rfl); (case hr => first | (go_simp; done) | (go_simp; rfl)); (case hp => exact (Reps.one (show Kd.M (Kd.int .u32) _ _ _ 1 [.int .u32 1] from rfl) (Reps.none _ _))); intro v274 w63 ho64 hb hg_ hnew_; clear hg_ hnew_; (first | rw [← Ny273.out] at ho64 | (simp only [Int.reduceToNat] at ho64; rw [← Ny273.out] at ho64)); have HO275 := Aside0.mk (Kd.R_lower (Kd.R_new' (Kd.R_new' (Kd.R_new' (Kd.R_new' (Kd.R_new' (Kd.R_new' ho64 (Kd.R_lt (by (with_reducible repeat first | apply qa | apply qn | apply qd); exact HO245.out))) (Kd.R_lt (by (with_reducible repeat first | apply qa | apply qn | apply qd); exact HO248.out))) (Kd.R_lt (by (with_reducible repeat first | apply qa | apply qn | apply qd); exact HO258.out))) (Kd.R_lt (by (with_reducible repeat first | apply qa | apply qn | apply qd); exact HO261.out))) (Kd.R_lt (by (with_reducible repeat first | apply qa | apply qn | apply qd); exact HO267.out))) (Kd.R_lt (by (with_reducible repeat first | apply qa | apply qn | apply qd); exact HO271.out))) (below_size (by repeat (first | (with_reducible first | exact HB.out | apply ba | apply bn | apply bd) | exact HB.out)))); replace HO245 := Aside0.mk (Kd.R_elder' (by (with_reducible repeat first | apply qa | apply qn | apply qd); exact HO245.out) (Kd.R_base ho64) hb); replace HO248 := Aside0.mk (Kd.R_elder' (by (with_reducible repeat first | apply qa | apply qn | apply qd); exact HO248.out) (Kd.R_base ho64) hb); replace HO251 := Aside0.mk (Kd.V_elder' (by (with_reducible repeat first | apply va | apply vn | apply vd); exact HO251.out) (Kd.R_base ho64) hb); replace HO254 := Aside0.mk (Kd.V_elder' (by (with_reducible repeat first | apply va | apply vn | apply vd); exact HO254.out) (Kd.R_base ho64) hb); replace HO258 := Aside0.mk (Kd.R_elder' (by (with_reducible repeat first | apply qa | apply qn | apply qd); exact HO258.out) (Kd.R_base ho64) hb); replace HO261 := Aside0.mk (Kd.R_elder' (by (with_reducible repeat first | apply qa | apply qn | apply qd); exact HO261.out) (Kd.R_base ho64) hb); replace HO264 := Aside0.mk (Kd.V_elder' (by (with_reducible repeat first | apply va | apply vn | apply vd); exact HO264.out) (Kd.R_base ho64) hb); replace HO267 := Aside0.mk (Kd.R_elder' (by (with_reducible repeat first | apply qa | apply qn | apply qd); exact HO267.out) (Kd.R_base ho64) hb); replace HO271 := Aside0.mk (Kd.R_elder' (by (with_reducible repeat first | apply qa | apply qn | apply qd); exact HO271.out) (Kd.R_base ho64) hb); replace HB := Aside0.mk (below_step (by repeat (first | (with_reducible first | exact HB.out | apply ba | apply bn | apply bd) | exact HB.out)) hb); clear hb ho64; obtain ⟨Ao65, co65, eo65⟩ := Kd.V_slice HO254.out; subst eo65; obtain ⟨Ao66, co66, eo66⟩ := Kd.R_slice HO275.out; subst eo66) | (go_at_call 13; (with_reducible refine (whetstoneref01_Words.calls k _ _ t252 _ _ y273 false _ ?side1 ?side2 ?side3 ?side4 A8.out).mono ?_); (case side1 => repeat (first | exact (Kd.V_reads' HO254.out).2.2 | (with_reducible refine Kd.C_alloc ?_ _) | (with_reducible refine Kd.C_drewN ?_ _) | (with_reducible refine Kd.C_drew ?_))); (case side2 => exact (Kd.V_reads' HO254.out).2.1); (case side3 => repeat (first | exact (Kd.R_reads' HO275.out).2.2 | (with_reducible refine Kd.C_alloc ?_ _) | (with_reducible refine Kd.C_drewN ?_ _) | (with_reducible refine Kd.C_drew ?_))); (case side4 => exact (Kd.R_reads' HO275.out).2.1); rintro e w' ⟨rfl, ⟨nd, rfl⟩⟩))
     go_ret
     exact ⟨by first | rfl | (simp [errW_none, errW_some] <;> rfl) | (simp [*, errW_none, errW_some] <;> rfl), by repeat (first | (with_reducible first | exact HB.out | apply ba | apply bn | apply bd) | exact HB.out)⟩
   ·replace c7 := Bool.eq_false_iff.mpr c7
    subst c7
    have H1 : (some false) = some r := by rw [if_neg (show ¬ (false = true) by decide)] at H; exact H
    clear H
    have H := H1
    clear H1
    obtain rfl := Option.some.inj H
    go_enter Try.func12, Try.ntmps12
    go_wp2_with (first | ((with_reducible refine gate_dst (N := 5) rfl ?_); (try (refine gate_guard (by rfl) ?_; dsimp only)); refine Kd.R_lit (Kd.int .u32) _ 42 ?hg (N := 5) ?hd (xs := ([0, 0, 1] : List Int)) (inner := [.int .u32 0, .int .u32 0, .int .u32 1]) (ok := fun _ => True) (okp := fun _ => True) ?hr ?hp (fun _ hk => hk) trivial (Below.refl _ _) (Nat.le_refl _) (by simp) ?_; (case hd => rfl); (case hg => rfl); (case hr => first | (go_simp; done) | (go_simp; rfl)); (case hp => exact (Reps.one (show Kd.M (Kd.int .u32) _ _ _ 0 [.int .u32 0] from rfl) (Reps.one (show Kd.M (Kd.int .u32) _ _ _ 0 [.int .u32 0] from rfl) (Reps.one (show Kd.M (Kd.int .u32) _ _ _ 1 [.int .u32 1] from rfl) (Reps.none _ _))))); intro v244 w67 ho68 hb hg_ hnew_; clear hg_ hnew_; (first | rw [← Ny243.out] at ho68 | (simp only [Int.reduceToNat] at ho68; rw [← Ny243.out] at ho68)); have HO245 := Aside0.mk (Kd.R_lower ho68 (below_size (by repeat (first | (with_reducible first | exact HB.out | apply ba | apply bn | apply bd) | exact HB.out)))); replace HB := Aside0.mk (below_step (by repeat (first | (with_reducible first | exact HB.out | apply ba | apply bn | apply bd) | exact HB.out)) hb); clear hb ho68) | ((with_reducible refine gate_dst (N := 6) rfl ?_); (try (refine gate_guard (by rfl) ?_; dsimp only)); refine Kd.R_lit (Kd.int .u32) _ 42 ?hg (N := 6) ?hd (xs := ([1, 1] : List Int)) (inner := [.int .u32 1, .int .u32 1]) (ok := fun _ => True) (okp := fun _ => True) ?hr ?hp (fun _ hk => hk) trivial (Below.refl _ _) (Nat.le_refl _) (by simp) ?_; (case hd => rfl); (case hg => rfl); (case hr => first | (go_simp; done) | (go_simp; rfl)); (case hp => exact (Reps.one (show Kd.M (Kd.int .u32) _ _ _ 1 [.int .u32 1] from rfl) (Reps.one (show Kd.M (Kd.int .u32) _ _ _ 1 [.int .u32 1] from rfl) (Reps.none _ _)))); intro v247 w69 ho70 hb hg_ hnew_; clear hg_ hnew_; (first | rw [← Ny246.out] at ho70 | (simp only [Int.reduceToNat] at ho70; rw [← Ny246.out] at ho70)); have HO248 := Aside0.mk (Kd.R_lower (Kd.R_new' ho70 (Kd.R_lt (by (with_reducible repeat first | apply qa | apply qn | apply qd); exact HO245.out))) (below_size (by repeat (first | (with_reducible first | exact HB.out | apply ba | apply bn | apply bd) | exact HB.out)))); replace HO245 := Aside0.mk (Kd.R_elder' (by (with_reducible repeat first | apply qa | apply qn | apply qd); exact HO245.out) (Kd.R_base ho70) hb); replace HB := Aside0.mk (below_step (by repeat (first | (with_reducible first | exact HB.out | apply ba | apply bn | apply bd) | exact HB.out)) hb); clear hb ho70; obtain ⟨Ao71, co71, eo71⟩ := Kd.R_slice HO245.out; subst eo71; obtain ⟨Ao72, co72, eo72⟩ := Kd.R_slice HO248.out; subst eo72) | ((with_reducible refine gate_callee (f := 18) rfl ?_); refine goesL_ (some 7) rfl rfl Try.func18 (by kernel_rfl) rfl #[.slice Ao71 y243.length co71, .slice Ao72 y246.length co72] rfl (by (try simp only [List.map_toArray, List.map_cons, List.map_nil]); first | done | rfl | (simp only [List.length_drop, List.length_take]; rfl)) ?_; (with_reducible refine (nat_DivMod.calls k (fun k_ => some k_ = (.slice Ao71 y243.length co71 : Value).ownBlock) _ _ y243 (fun k_ => some k_ = (.slice Ao72 y246.length co72 : Value).ownBlock) _ _ y246 t249 t252 t255 _ ?side1 ?side2 A1.out).mono ?_); (case side1 => exact Kd.R_V (Kd.R_tight rfl (HO245.out))); (case side2 => exact Kd.R_V (Kd.R_tight rfl (HO248.out))); rintro e w73 ⟨v250, v253, rfl, ho0, ho1, hb⟩; refine ⟨_, rfl, ?_⟩; have HO251 := Aside0.mk (Kd.V_lower (Kd.V_mono (ok' := fun k_ => True) ho0 (fun k_ hk_ => trivial)) (below_size (by repeat (first | (with_reducible first | exact HB.out | apply ba | apply bn | apply bd) | exact HB.out)))); have HO254 := Aside0.mk (Kd.V_lower (Kd.V_mono (ok' := fun k_ => True) ho1 (fun k_ hk_ => trivial)) (below_size (by repeat (first | (with_reducible first | exact HB.out | apply ba | apply bn | apply bd) | exact HB.out)))); replace HO245 := Aside0.mk (Kd.R_below (by (with_reducible repeat first | apply qa | apply qn | apply qd); exact HO245.out) hb); replace HO248 := Aside0.mk (Kd.R_below (by (with_reducible repeat first | apply qa | apply qn | apply qd); exact HO248.out) hb); replace HB := Aside0.mk (below_step (by repeat (first | (with_reducible first | exact HB.out | apply ba | apply bn | apply bd) | exact HB.out)) hb); (try clear hb); (try clear hb2); (try clear hk); (try clear hi); (try clear ho0); (try clear ho1)) | ((with_reducible refine gate_dst (N := 14) rfl ?_); (try (refine gate_guard (by rfl) ?_; dsimp only)); refine Kd.R_lit (Kd.int .u32) _ 42 ?hg (N := 14) ?hd (xs := ([0, 1] : List Int)) (inner := [.int .u32 0, .int .u32 1]) (ok := fun _ => True) (okp := fun _ => True) ?hr ?hp (fun _ hk => hk) trivial (Below.refl _ _) (Nat.le_refl _) (by simp) ?_; (case hd => rfl); (case hg => rfl); (case hr => first | (go_simp; done) | (go_simp; rfl)); (case hp => exact (Reps.one (show Kd.M (Kd.int .u32) _ _ _ 0 [.int .u32 0] from rfl) (Reps.one (show Kd.M (Kd.int .u32) _ _ _ 1 [.int .u32 1] from rfl) (Reps.none _ _)))); intro v257 w74 ho75 hb hg_ hnew_; clear hg_ hnew_; (first | rw [← Ny256.out] at ho75 | (simp only [Int.reduceToNat] at ho75; rw [← Ny256.out] at ho75)); have HO258 := Aside0.mk (Kd.R_lower (Kd.R_new' (Kd.R_new' ho75 (Kd.R_lt (by (with_reducible repeat first | apply qa | apply qn | apply qd); exact HO245.out))) (Kd.R_lt (by (with_reducible repeat first | apply qa | apply qn | apply qd); exact HO248.out))) (below_size (by repeat (first | (with_reducible first | exact HB.out | apply ba | apply bn | apply bd) | exact HB.out)))); replace HO245 := Aside0.mk (Kd.R_elder' (by (with_reducible repeat first | apply qa | apply qn | apply qd); exact HO245.out) (Kd.R_base ho75) hb); replace HO248 := Aside0.mk (Kd.R_elder' (by (with_reducible repeat first | apply qa | apply qn | apply qd); exact HO248.out) (Kd.R_base ho75) hb); replace HO251 := Aside0.mk (Kd.V_elder' (by (with_reducible repeat first | apply va | apply vn | apply vd); exact HO251.out) (Kd.R_base ho75) hb); replace HO254 := Aside0.mk (Kd.V_elder' (by (with_reducible repeat first | apply va | apply vn | apply vd); exact HO254.out) (Kd.R_base ho75) hb); replace HB := Aside0.mk (below_step (by repeat (first | (with_reducible first | exact HB.out | apply ba | apply bn | apply bd) | exact HB.out)) hb); clear hb ho75) | ((with_reducible refine gate_dst (N := 15) rfl ?_); (try (refine gate_guard (by rfl) ?_; dsimp only)); refine Kd.R_lit (Kd.int .u32) _ 42 ?hg (N := 15) ?hd (xs := ([0, 1] : List Int)) (inner := [.int .u32 0, .int .u32 1]) (ok := fun _ => True) (okp := fun _ => True) ?hr ?hp (fun _ hk => hk) trivial (Below.refl _ _) (Nat.le_refl _) (by simp) ?_; (case hd => rfl); (case hg => rfl); (case hr => first | (go_simp; done) | (go_simp; rfl)); (case hp => exact (Reps.one (show Kd.M (Kd.int .u32) _ _ _ 0 [.int .u32 0] from rfl) (Reps.one (show Kd.M (Kd.int .u32) _ _ _ 1 [.int .u32 1] from rfl) (Reps.none _ _)))); intro v260 w76 ho77 hb hg_ hnew_; clear hg_ hnew_; (first | rw [← Ny259.out] at ho77 | (simp only [Int.reduceToNat] at ho77; rw [← Ny259.out] at ho77)); have HO261 := Aside0.mk (Kd.R_lower (Kd.R_new' (Kd.R_new' (Kd.R_new' ho77 (Kd.R_lt (by (with_reducible repeat first | apply qa | apply qn | apply qd); exact HO245.out))) (Kd.R_lt (by (with_reducible repeat first | apply qa | apply qn | apply qd); exact HO248.out))) (Kd.R_lt (by (with_reducible repeat first | apply qa | apply qn | apply qd); exact HO258.out))) (below_size (by repeat (first | (with_reducible first | exact HB.out | apply ba | apply bn | apply bd) | exact HB.out)))); replace HO245 := Aside0.mk (Kd.R_elder' (by (with_reducible repeat first | apply qa | apply qn | apply qd); exact HO245.out) (Kd.R_base ho77) hb); replace HO248 := Aside0.mk (Kd.R_elder' (by (with_reducible repeat first | apply qa | apply qn | apply qd); exact HO248.out) (Kd.R_base ho77) hb); replace HO251 := Aside0.mk (Kd.V_elder' (by (with_reducible repeat first | apply va | apply vn | apply vd); exact HO251.out) (Kd.R_base ho77) hb); replace HO254 := Aside0.mk (Kd.V_elder' (by (with_reducible repeat first | apply va | apply vn | apply vd); exact HO254.out) (Kd.R_base ho77) hb); replace HO258 := Aside0.mk (Kd.R_elder' (by (with_reducible repeat first | apply qa | apply qn | apply qd); exact HO258.out) (Kd.R_base ho77) hb); replace HB := Aside0.mk (below_step (by repeat (first | (with_reducible first | exact HB.out | apply ba | apply bn | apply bd) | exact HB.out)) hb); clear hb ho77; obtain ⟨Ao78, co78, eo78⟩ := Kd.R_slice HO258.out; subst eo78; obtain ⟨Ao79, co79, eo79⟩ := Kd.R_slice HO261.out; subst eo79) | (go_at_call 14; (with_reducible refine (nat_Mul.calls k (fun k_ => some k_ = (.slice Ao78 y256.length co78 : Value).ownBlock) _ _ y256 (fun k_ => some k_ = (.slice Ao79 y259.length co79 : Value).ownBlock) _ _ y259 t262 _ ?side1 ?side2 A3.out).mono ?_); (case side1 => exact Kd.R_V (Kd.R_tight rfl (HO258.out))); (case side2 => exact Kd.R_V (Kd.R_tight rfl (HO261.out))); rintro e w80 ⟨v263, rfl, ho0, hb⟩; have HO264 := Aside0.mk (Kd.V_lower (Kd.V_mono (ok' := fun k_ => some k_ ≠ (.slice Ao71 y243.length co71 : Value).ownBlock ∧ some k_ ≠ (.slice Ao72 y246.length co72 : Value).ownBlock) ho0 (fun k_ hk_ => ⟨Or.elim hk_ (fun hs_ => Or.elim hs_ (fun hs_ => ((HO258.out).1 k_ hs_.symm).1.1.2) (fun hs_ => ((HO261.out).1 k_ hs_.symm).1.1.2)) (fun hn_ => (Kd.fresh' (Kd.R_lt (by (with_reducible repeat first | apply qa | apply qn | apply qd); exact HO245.out)) k_ hn_)), Or.elim hk_ (fun hs_ => Or.elim hs_ (fun hs_ => ((HO258.out).1 k_ hs_.symm).1.2) (fun hs_ => ((HO261.out).1 k_ hs_.symm).1.2)) (fun hn_ => (Kd.fresh' (Kd.R_lt (by (with_reducible repeat first | apply qa | apply qn | apply qd); exact HO248.out)) k_ hn_))⟩)) (below_size (by repeat (first | (with_reducible first | exact HB.out | apply ba | apply bn | apply bd) | exact HB.out)))); replace HO245 := Aside0.mk (Kd.R_below (by (with_reducible repeat first | apply qa | apply qn | apply qd); exact HO245.out) hb); replace HO248 := Aside0.mk (Kd.R_below (by (with_reducible repeat first | apply qa | apply qn | apply qd); exact HO248.out) hb); replace HO251 := Aside0.mk (Kd.V_below (by (with_reducible repeat first | apply va | apply vn | apply vd); exact HO251.out) hb); replace HO254 := Aside0.mk (Kd.V_below (by (with_reducible repeat first | apply va | apply vn | apply vd); exact HO254.out) hb); replace HO258 := Aside0.mk (Kd.R_below (by (with_reducible repeat first | apply qa | apply qn | apply qd); exact HO258.out) hb); replace HO261 := Aside0.mk (Kd.R_below (by (with_reducible repeat first | apply qa | apply qn | apply qd); exact HO261.out) hb); replace HB := Aside0.mk (below_step (by repeat (first | (with_reducible first | exact HB.out | apply ba | apply bn | apply bd) | exact HB.out)) hb); (try clear hb); (try clear hb2); (try clear hk); (try clear hi); (try clear ho0)) | ((with_reducible refine gate_dst (N := 17) rfl ?_); (try (refine gate_guard (by rfl) ?_; dsimp only)); refine Kd.R_lit (Kd.int .u32) _ 42 ?hg (N := 17) ?hd (xs := ([0, 0, 1] : List Int)) (inner := [.int .u32 0, .int .u32 0, .int .u32 1]) (ok := fun _ => True) (okp := fun _ => True) ?hr ?hp (fun _ hk => hk) trivial (Below.refl _ _) (Nat.le_refl _) (by simp) ?_; (case hd => rfl); (case hg => rfl); (case hr => first | (go_simp; done) | (go_simp; rfl)); (case hp => exact (Reps.one (show Kd.M (Kd.int .u32) _ _ _ 0 [.int .u32 0] from rfl) (Reps.one (show Kd.M (Kd.int .u32) _ _ _ 0 [.int .u32 0] from rfl) (Reps.one (show Kd.M (Kd.int .u32) _ _ _ 1 [.int .u32 1] from rfl) (Reps.none _ _))))); intro v266 w81 ho82 hb hg_ hnew_; clear hg_ hnew_; (first | rw [← Ny265.out] at ho82 | (simp only [Int.reduceToNat] at ho82; rw [← Ny265.out] at ho82)); have HO267 := Aside0.mk (Kd.R_lower (Kd.R_new' (Kd.R_new' (Kd.R_new' (Kd.R_new' ho82 (Kd.R_lt (by (with_reducible repeat first | apply qa | apply qn | apply qd); exact HO245.out))) (Kd.R_lt (by (with_reducible repeat first | apply qa | apply qn | apply qd); exact HO248.out))) (Kd.R_lt (by (with_reducible repeat first | apply qa | apply qn | apply qd); exact HO258.out))) (Kd.R_lt (by (with_reducible repeat first | apply qa | apply qn | apply qd); exact HO261.out))) (below_size (by repeat (first | (with_reducible first | exact HB.out | apply ba | apply bn | apply bd) | exact HB.out)))); replace HO245 := Aside0.mk (Kd.R_elder' (by (with_reducible repeat first | apply qa | apply qn | apply qd); exact HO245.out) (Kd.R_base ho82) hb); replace HO248 := Aside0.mk (Kd.R_elder' (by (with_reducible repeat first | apply qa | apply qn | apply qd); exact HO248.out) (Kd.R_base ho82) hb); replace HO251 := Aside0.mk (Kd.V_elder' (by (with_reducible repeat first | apply va | apply vn | apply vd); exact HO251.out) (Kd.R_base ho82) hb); replace HO254 := Aside0.mk (Kd.V_elder' (by (with_reducible repeat first | apply va | apply vn | apply vd); exact HO254.out) (Kd.R_base ho82) hb); replace HO258 := Aside0.mk (Kd.R_elder' (by (with_reducible repeat first | apply qa | apply qn | apply qd); exact HO258.out) (Kd.R_base ho82) hb); replace HO261 := Aside0.mk (Kd.R_elder' (by (with_reducible repeat first | apply qa | apply qn | apply qd); exact HO261.out) (Kd.R_base ho82) hb); replace HO264 := Aside0.mk (Kd.V_elder' (by (with_reducible repeat first | apply va | apply vn | apply vd); exact HO264.out) (Kd.R_base ho82) hb); replace HB := Aside0.mk (below_step (by repeat (first | (with_reducible first | exact HB.out | apply ba | apply bn | apply bd) | exact HB.out)) hb); clear hb ho82; obtain ⟨Ao83, co83, eo83⟩ := Kd.V_slice HO264.out; subst eo83; obtain ⟨Ao84, co84, eo84⟩ := Kd.R_slice HO267.out; subst eo84) | (go_at_call 13; (with_reducible refine (whetstoneref01_Words.calls k _ _ t262 _ _ y265 true _ ?side1 ?side2 ?side3 ?side4 A4.out).mono ?_); (case side1 => repeat (first | exact (Kd.V_reads' HO264.out).2.2 | (with_reducible refine Kd.C_alloc ?_ _) | (with_reducible refine Kd.C_drewN ?_ _) | (with_reducible refine Kd.C_drew ?_))); (case side2 => exact (Kd.V_reads' HO264.out).2.1); (case side3 => repeat (first | exact (Kd.R_reads' HO267.out).2.2 | (with_reducible refine Kd.C_alloc ?_ _) | (with_reducible refine Kd.C_drewN ?_ _) | (with_reducible refine Kd.C_drew ?_))); (case side4 => exact (Kd.R_reads' HO267.out).2.1); rintro e w' ⟨rfl, ⟨nd, rfl⟩⟩) | ((with_reducible refine gate_dst (N := 22) rfl ?_); (try (refine gate_guard (by rfl) ?_; dsimp only)); refine Kd.R_lit (Kd.int .u32) _ 42 ?hg (N := 22) ?hd (xs := ([4294967295] : List Int)) (inner := [.int .u32 4294967295]) (ok := fun _ => True) (okp := fun _ => True) ?hr ?hp (fun _ hk => hk) trivial (Below.refl _ _) (Nat.le_refl _) (by simp) ?_; (case hd => rfl); (case hg => rfl); (case hr => first | (go_simp; done) | (go_simp; rfl)); (case hp => exact (Reps.one (show Kd.M (Kd.int .u32) _ _ _ 4294967295 [.int .u32 4294967295] from rfl) (Reps.none _ _))); intro v270 w85 ho86 hb hg_ hnew_; clear hg_ hnew_; (first | rw [← Ny269.out] at ho86 | (simp only [Int.reduceToNat] at ho86; rw [← Ny269.out] at ho86)); have HO271 := Aside0.mk (Kd.R_lower (Kd.R_new' (Kd.R_new' (Kd.R_new' (Kd.R_new' (Kd.R_new' ho86 (Kd.R_lt (by (with_reducible repeat first | apply qa | apply qn | apply qd); exact HO245.out))) (Kd.R_lt (by (with_reducible repeat first | apply qa | apply qn | apply qd); exact HO248.out))) (Kd.R_lt (by (with_reducible repeat first | apply qa | apply qn | apply qd); exact HO258.out))) (Kd.R_lt (by (with_reducible repeat first | apply qa | apply qn | apply qd); exact HO261.out))) (Kd.R_lt (by (with_reducible repeat first | apply qa | apply qn | apply qd); exact HO267.out))) (below_size (by repeat (first | (with_reducible first | exact HB.out | apply ba | apply bn | apply bd) | exact HB.out)))); replace HO245 := Aside0.mk (Kd.R_elder' (by (with_reducible repeat first | apply qa | apply qn | apply qd); exact HO245.out) (Kd.R_base ho86) hb); replace HO248 := Aside0.mk (Kd.R_elder' (by (with_reducible repeat first | apply qa | apply qn | apply qd); exact HO248.out) (Kd.R_base ho86) hb); replace HO251 := Aside0.mk (Kd.V_elder' (by (with_reducible repeat first | apply va | apply vn | apply vd); exact HO251.out) (Kd.R_base ho86) hb); replace HO254 := Aside0.mk (Kd.V_elder' (by (with_reducible repeat first | apply va | apply vn | apply vd); exact HO254.out) (Kd.R_base ho86) hb); replace HO258 := Aside0.mk (Kd.R_elder' (by (with_reducible repeat first | apply qa | apply qn | apply qd); exact HO258.out) (Kd.R_base ho86) hb); replace HO261 := Aside0.mk (Kd.R_elder' (by (with_reducible repeat first | apply qa | apply qn | apply qd); exact HO261.out) (Kd.R_base ho86) hb); replace HO264 := Aside0.mk (Kd.V_elder' (by (with_reducible repeat first | apply va | apply vn | apply vd); exact HO264.out) (Kd.R_base ho86) hb); replace HO267 := Aside0.mk (Kd.R_elder' (by (with_reducible repeat first | apply qa | apply qn | apply qd); exact HO267.out) (Kd.R_base ho86) hb); replace HB := Aside0.mk (below_step (by repeat (first | (with_reducible first | exact HB.out | apply ba | apply bn | apply bd) | exact HB.out)) hb); clear hb ho86; obtain ⟨Ao87, co87, eo87⟩ := Kd.V_slice HO251.out; subst eo87; obtain ⟨Ao88, co88, eo88⟩ := Kd.R_slice HO271.out; subst eo88) | (go_at_call 13; (with_reducible refine (whetstoneref01_Words.calls k _ _ t249 _ _ y269 false _ ?side1 ?side2 ?side3 ?side4 A6.out).mono ?_); (case side1 => repeat (first | exact (Kd.V_reads' HO251.out).2.2 | (with_reducible refine Kd.C_alloc ?_ _) | (with_reducible refine Kd.C_drewN ?_ _) | (with_reducible refine Kd.C_drew ?_))); (case side2 => exact (Kd.V_reads' HO251.out).2.1); (case side3 => repeat (first | exact (Kd.R_reads' HO271.out).2.2 | (with_reducible refine Kd.C_alloc ?_ _) | (with_reducible refine Kd.C_drewN ?_ _) | (with_reducible refine Kd.C_drew ?_))); (case side4 => exact (Kd.R_reads' HO271.out).2.1); rintro e w' ⟨rfl, ⟨nd, rfl⟩⟩))
    go_ret
    exact ⟨by first | rfl | (simp [errW_none, errW_some] <;> rfl) | (simp [*, errW_none, errW_some] <;> rfl), by repeat (first | (with_reducible first | exact HB.out | apply ba | apply bn | apply bd) | exact HB.out)⟩
  ·replace c5 := Bool.eq_false_iff.mpr c5
   subst c5
   have H1 : (some false) = some r := by rw [if_neg (show ¬ (false = true) by decide)] at H; exact H
   clear H
   have H := H1
   clear H1
   obtain rfl := Option.some.inj H
   go_enter Try.func12, Try.ntmps12
   go_wp2_with (first | ((with_reducible refine gate_dst (N := 5) rfl ?_); (try (refine gate_guard (by rfl) ?_; dsimp only)); refine Kd.R_lit (Kd.int .u32) _ 42 ?hg (N := 5) ?hd (xs := ([0, 0, 1] : List Int)) (inner := [.int .u32 0, .int .u32 0, .int .u32 1]) (ok := fun _ => True) (okp := fun _ => True) ?hr ?hp (fun _ hk => hk) trivial (Below.refl _ _) (Nat.le_refl _) (by simp) ?_; (case hd => rfl); (case hg => rfl); (case hr => first | (go_simp; done) | (go_simp; rfl)); (case hp => exact (Reps.one (show Kd.M (Kd.int .u32) _ _ _ 0 [.int .u32 0] from rfl) (Reps.one (show Kd.M (Kd.int .u32) _ _ _ 0 [.int .u32 0] from rfl) (Reps.one (show Kd.M (Kd.int .u32) _ _ _ 1 [.int .u32 1] from rfl) (Reps.none _ _))))); intro v244 w89 ho90 hb hg_ hnew_; clear hg_ hnew_; (first | rw [← Ny243.out] at ho90 | (simp only [Int.reduceToNat] at ho90; rw [← Ny243.out] at ho90)); have HO245 := Aside0.mk (Kd.R_lower ho90 (below_size (by repeat (first | (with_reducible first | exact HB.out | apply ba | apply bn | apply bd) | exact HB.out)))); replace HB := Aside0.mk (below_step (by repeat (first | (with_reducible first | exact HB.out | apply ba | apply bn | apply bd) | exact HB.out)) hb); clear hb ho90) | ((with_reducible refine gate_dst (N := 6) rfl ?_); (try (refine gate_guard (by rfl) ?_; dsimp only)); refine Kd.R_lit (Kd.int .u32) _ 42 ?hg (N := 6) ?hd (xs := ([1, 1] : List Int)) (inner := [.int .u32 1, .int .u32 1]) (ok := fun _ => True) (okp := fun _ => True) ?hr ?hp (fun _ hk => hk) trivial (Below.refl _ _) (Nat.le_refl _) (by simp) ?_; (case hd => rfl); (case hg => rfl); (case hr => first | (go_simp; done) | (go_simp; rfl)); (case hp => exact (Reps.one (show Kd.M (Kd.int .u32) _ _ _ 1 [.int .u32 1] from rfl) (Reps.one (show Kd.M (Kd.int .u32) _ _ _ 1 [.int .u32 1] from rfl) (Reps.none _ _)))); intro v247 w91 ho92 hb hg_ hnew_; clear hg_ hnew_; (first | rw [← Ny246.out] at ho92 | (simp only [Int.reduceToNat] at ho92; rw [← Ny246.out] at ho92)); have HO248 := Aside0.mk (Kd.R_lower (Kd.R_new' ho92 (Kd.R_lt (by (with_reducible repeat first | apply qa | apply qn | apply qd); exact HO245.out))) (below_size (by repeat (first | (with_reducible first | exact HB.out | apply ba | apply bn | apply bd) | exact HB.out)))); replace HO245 := Aside0.mk (Kd.R_elder' (by (with_reducible repeat first | apply qa | apply qn | apply qd); exact HO245.out) (Kd.R_base ho92) hb); replace HB := Aside0.mk (below_step (by repeat (first | (with_reducible first | exact HB.out | apply ba | apply bn | apply bd) | exact HB.out)) hb); clear hb ho92; obtain ⟨Ao93, co93, eo93⟩ := Kd.R_slice HO245.out; subst eo93; obtain ⟨Ao94, co94, eo94⟩ := Kd.R_slice HO248.out; subst eo94) | ((with_reducible refine gate_callee (f := 18) rfl ?_); refine goesL_ (some 7) rfl rfl Try.func18 (by kernel_rfl) rfl #[.slice Ao93 y243.length co93, .slice Ao94 y246.length co94] rfl (by (try simp only [List.map_toArray, List.map_cons, List.map_nil]); first | done | rfl | (simp only [List.length_drop, List.length_take]; rfl)) ?_; (with_reducible refine (nat_DivMod.calls k (fun k_ => some k_ = (.slice Ao93 y243.length co93 : Value).ownBlock) _ _ y243 (fun k_ => some k_ = (.slice Ao94 y246.length co94 : Value).ownBlock) _ _ y246 t249 t252 t255 _ ?side1 ?side2 A1.out).mono ?_); (case side1 => exact Kd.R_V (Kd.R_tight rfl (HO245.out))); (case side2 => exact Kd.R_V (Kd.R_tight rfl (HO248.out))); rintro e w95 ⟨v250, v253, rfl, ho0, ho1, hb⟩; refine ⟨_, rfl, ?_⟩; have HO251 := Aside0.mk (Kd.V_lower (Kd.V_mono (ok' := fun k_ => True) ho0 (fun k_ hk_ => trivial)) (below_size (by repeat (first | (with_reducible first | exact HB.out | apply ba | apply bn | apply bd) | exact HB.out)))); have HO254 := Aside0.mk (Kd.V_lower (Kd.V_mono (ok' := fun k_ => True) ho1 (fun k_ hk_ => trivial)) (below_size (by repeat (first | (with_reducible first | exact HB.out | apply ba | apply bn | apply bd) | exact HB.out)))); replace HO245 := Aside0.mk (Kd.R_below (by (with_reducible repeat first | apply qa | apply qn | apply qd); exact HO245.out) hb); replace HO248 := Aside0.mk (Kd.R_below (by (with_reducible repeat first | apply qa | apply qn | apply qd); exact HO248.out) hb); replace HB := Aside0.mk (below_step (by repeat (first | (with_reducible first | exact HB.out | apply ba | apply bn | apply bd) | exact HB.out)) hb); (try clear hb); (try clear hb2); (try clear hk); (try clear hi); (try clear ho0); (try clear ho1)) | ((with_reducible refine gate_dst (N := 14) rfl ?_); (try (refine gate_guard (by rfl) ?_; dsimp only)); refine Kd.R_lit (Kd.int .u32) _ 42 ?hg (N := 14) ?hd (xs := ([0, 1] : List Int)) (inner := [.int .u32 0, .int .u32 1]) (ok := fun _ => True) (okp := fun _ => True) ?hr ?hp (fun _ hk => hk) trivial (Below.refl _ _) (Nat.le_refl _) (by simp) ?_; (case hd => rfl); (case hg => rfl); (case hr => first | (go_simp; done) | (go_simp; rfl)); (case hp => exact (Reps.one (show Kd.M (Kd.int .u32) _ _ _ 0 [.int .u32 0] from rfl) (Reps.one (show Kd.M (Kd.int .u32) _ _ _ 1 [.int .u32 1] from rfl) (Reps.none _ _)))); intro v257 w96 ho97 hb hg_ hnew_; clear hg_ hnew_; (first | rw [← Ny256.out] at ho97 | (simp only [Int.reduceToNat] at ho97; rw [← Ny256.out] at ho97)); have HO258 := Aside0.mk (Kd.R_lower (Kd.R_new' (Kd.R_new' ho97 (Kd.R_lt (by (with_reducible repeat first | apply qa | apply qn | apply qd); exact HO245.out))) (Kd.R_lt (by (with_reducible repeat first | apply qa | apply qn | apply qd); exact HO248.out))) (below_size (by repeat (first | (with_reducible first | exact HB.out | apply ba | apply bn | apply bd) | exact HB.out)))); replace HO245 := Aside0.mk (Kd.R_elder' (by (with_reducible repeat first | apply qa | apply qn | apply qd); exact HO245.out) (Kd.R_base ho97) hb); replace HO248 := Aside0.mk (Kd.R_elder' (by (with_reducible repeat first | apply qa | apply qn | apply qd); exact HO248.out) (Kd.R_base ho97) hb); replace HO251 := Aside0.mk (Kd.V_elder' (by (with_reducible repeat first | apply va | apply vn | apply vd); exact HO251.out) (Kd.R_base ho97) hb); replace HO254 := Aside0.mk (Kd.V_elder' (by (with_reducible repeat first | apply va | apply vn | apply vd); exact HO254.out) (Kd.R_base ho97) hb); replace HB := Aside0.mk (below_step (by repeat (first | (with_reducible first | exact HB.out | apply ba | apply bn | apply bd) | exact HB.out)) hb); clear hb ho97) | ((with_reducible refine gate_dst (N := 15) rfl ?_); (try (refine gate_guard (by rfl) ?_; dsimp only)); refine Kd.R_lit (Kd.int .u32) _ 42 ?hg (N := 15) ?hd (xs := ([0, 1] : List Int)) (inner := [.int .u32 0, .int .u32 1]) (ok := fun _ => True) (okp := fun _ => True) ?hr ?hp (fun _ hk => hk) trivial (Below.refl _ _) (Nat.le_refl _) (by simp) ?_; (case hd => rfl); (case hg => rfl); (case hr => first | (go_simp; done) | (go_simp; rfl)); (case hp => exact (Reps.one (show Kd.M (Kd.int .u32) _ _ _ 0 [.int .u32 0] from rfl) (Reps.one (show Kd.M (Kd.int .u32) _ _ _ 1 [.int .u32 1] from rfl) (Reps.none _ _)))); intro v260 w98 ho99 hb hg_ hnew_; clear hg_ hnew_; (first | rw [← Ny259.out] at ho99 | (simp only [Int.reduceToNat] at ho99; rw [← Ny259.out] at ho99)); have HO261 := Aside0.mk (Kd.R_lower (Kd.R_new' (Kd.R_new' (Kd.R_new' ho99 (Kd.R_lt (by (with_reducible repeat first | apply qa | apply qn | apply qd); exact HO245.out))) (Kd.R_lt (by (with_reducible repeat first | apply qa | apply qn | apply qd); exact HO248.out))) (Kd.R_lt (by (with_reducible repeat first | apply qa | apply qn | apply qd); exact HO258.out))) (below_size (by repeat (first | (with_reducible first | exact HB.out | apply ba | apply bn | apply bd) | exact HB.out)))); replace HO245 := Aside0.mk (Kd.R_elder' (by (with_reducible repeat first | apply qa | apply qn | apply qd); exact HO245.out) (Kd.R_base ho99) hb); replace HO248 := Aside0.mk (Kd.R_elder' (by (with_reducible repeat first | apply qa | apply qn | apply qd); exact HO248.out) (Kd.R_base ho99) hb); replace HO251 := Aside0.mk (Kd.V_elder' (by (with_reducible repeat first | apply va | apply vn | apply vd); exact HO251.out) (Kd.R_base ho99) hb); replace HO254 := Aside0.mk (Kd.V_elder' (by (with_reducible repeat first | apply va | apply vn | apply vd); exact HO254.out) (Kd.R_base ho99) hb); replace HO258 := Aside0.mk (Kd.R_elder' (by (with_reducible repeat first | apply qa | apply qn | apply qd); exact HO258.out) (Kd.R_base ho99) hb); replace HB := Aside0.mk (below_step (by repeat (first | (with_reducible first | exact HB.out | apply ba | apply bn | apply bd) | exact HB.out)) hb); clear hb ho99; obtain ⟨Ao100, co100, eo100⟩ := Kd.R_slice HO258.out; subst eo100; obtain ⟨Ao101, co101, eo101⟩ := Kd.R_slice HO261.out; subst eo101) | (go_at_call 14; (with_reducible refine (nat_Mul.calls k (fun k_ => some k_ = (.slice Ao100 y256.length co100 : Value).ownBlock) _ _ y256 (fun k_ => some k_ = (.slice Ao101 y259.length co101 : Value).ownBlock) _ _ y259 t262 _ ?side1 ?side2 A3.out).mono ?_); (case side1 => exact Kd.R_V (Kd.R_tight rfl (HO258.out))); (case side2 => exact Kd.R_V (Kd.R_tight rfl (HO261.out))); rintro e w102 ⟨v263, rfl, ho0, hb⟩; have HO264 := Aside0.mk (Kd.V_lower (Kd.V_mono (ok' := fun k_ => some k_ ≠ (.slice Ao93 y243.length co93 : Value).ownBlock ∧ some k_ ≠ (.slice Ao94 y246.length co94 : Value).ownBlock) ho0 (fun k_ hk_ => ⟨Or.elim hk_ (fun hs_ => Or.elim hs_ (fun hs_ => ((HO258.out).1 k_ hs_.symm).1.1.2) (fun hs_ => ((HO261.out).1 k_ hs_.symm).1.1.2)) (fun hn_ => (Kd.fresh' (Kd.R_lt (by (with_reducible repeat first | apply qa | apply qn | apply qd); exact HO245.out)) k_ hn_)), Or.elim hk_ (fun hs_ => Or.elim hs_ (fun hs_ => ((HO258.out).1 k_ hs_.symm).1.2) (fun hs_ => ((HO261.out).1 k_ hs_.symm).1.2)) (fun hn_ => (Kd.fresh' (Kd.R_lt (by (with_reducible repeat first | apply qa | apply qn | apply qd); exact HO248.out)) k_ hn_))⟩)) (below_size (by repeat (first | (with_reducible first | exact HB.out | apply ba | apply bn | apply bd) | exact HB.out)))); replace HO245 := Aside0.mk (Kd.R_below (by (with_reducible repeat first | apply qa | apply qn | apply qd); exact HO245.out) hb); replace HO248 := Aside0.mk (Kd.R_below (by (with_reducible repeat first | apply qa | apply qn | apply qd); exact HO248.out) hb); replace HO251 := Aside0.mk (Kd.V_below (by (with_reducible repeat first | apply va | apply vn | apply vd); exact HO251.out) hb); replace HO254 := Aside0.mk (Kd.V_below (by (with_reducible repeat first | apply va | apply vn | apply vd); exact HO254.out) hb); replace HO258 := Aside0.mk (Kd.R_below (by (with_reducible repeat first | apply qa | apply qn | apply qd); exact HO258.out) hb); replace HO261 := Aside0.mk (Kd.R_below (by (with_reducible repeat first | apply qa | apply qn | apply qd); exact HO261.out) hb); replace HB := Aside0.mk (below_step (by repeat (first | (with_reducible first | exact HB.out | apply ba | apply bn | apply bd) | exact HB.out)) hb); (try clear hb); (try clear hb2); (try clear hk); (try clear hi); (try clear ho0)) | ((with_reducible refine gate_dst (N := 17) rfl ?_); (try (refine gate_guard (by rfl) ?_; dsimp only)); refine Kd.R_lit (Kd.int .u32) _ 42 ?hg (N := 17) ?hd (xs := ([0, 0, 1] : List Int)) (inner := [.int .u32 0, .int .u32 0, .int .u32 1]) (ok := fun _ => True) (okp := fun _ => True) ?hr ?hp (fun _ hk => hk) trivial (Below.refl _ _) (Nat.le_refl _) (by simp) ?_; (case hd => rfl); (case hg => rfl); (case hr => first | (go_simp; done) | (go_simp; rfl)); (case hp => exact (Reps.one (show Kd.M (Kd.int .u32) _ _ _ 0 [.int .u32 0] from rfl) (Reps.one (show Kd.M (Kd.int .u32) _ _ _ 0 [.int .u32 0] from rfl) (Reps.one (show Kd.M (Kd.int .u32) _ _ _ 1 [.int .u32 1] from rfl) (Reps.none _ _))))); intro v266 w103 ho104 hb hg_ hnew_; clear hg_ hnew_; (first | rw [← Ny265.out] at ho104 | (simp only [Int.reduceToNat] at ho104; rw [← Ny265.out] at ho104)); have HO267 := Aside0.mk (Kd.R_lower (Kd.R_new' (Kd.R_new' (Kd.R_new' (Kd.R_new' ho104 (Kd.R_lt (by (with_reducible repeat first | apply qa | apply qn | apply qd); exact HO245.out))) (Kd.R_lt (by (with_reducible repeat first | apply qa | apply qn | apply qd); exact HO248.out))) (Kd.R_lt (by (with_reducible repeat first | apply qa | apply qn | apply qd); exact HO258.out))) (Kd.R_lt (by (with_reducible repeat first | apply qa | apply qn | apply qd); exact HO261.out))) (below_size (by repeat (first | (with_reducible first | exact HB.out | apply ba | apply bn | apply bd) | exact HB.out)))); replace HO245 := Aside0.mk (Kd.R_elder' (by (with_reducible repeat first | apply qa | apply qn | apply qd); exact HO245.out) (Kd.R_base ho104) hb); replace HO248 := Aside0.mk (Kd.R_elder' (by (with_reducible repeat first | apply qa | apply qn | apply qd); exact HO248.out) (Kd.R_base ho104) hb); replace HO251 := Aside0.mk (Kd.V_elder' (by (with_reducible repeat first | apply va | apply vn | apply vd); exact HO251.out) (Kd.R_base ho104) hb); replace HO254 := Aside0.mk (Kd.V_elder' (by (with_reducible repeat first | apply va | apply vn | apply vd); exact HO254.out) (Kd.R_base ho104) hb); replace HO258 := Aside0.mk (Kd.R_elder' (by (with_reducible repeat first | apply qa | apply qn | apply qd); exact HO258.out) (Kd.R_base ho104) hb); replace HO261 := Aside0.mk (Kd.R_elder' (by (with_reducible repeat first | apply qa | apply qn | apply qd); exact HO261.out) (Kd.R_base ho104) hb); replace HO264 := Aside0.mk (Kd.V_elder' (by (with_reducible repeat first | apply va | apply vn | apply vd); exact HO264.out) (Kd.R_base ho104) hb); replace HB := Aside0.mk (below_step (by repeat (first | (with_reducible first | exact HB.out | apply ba | apply bn | apply bd) | exact HB.out)) hb); clear hb ho104; obtain ⟨Ao105, co105, eo105⟩ := Kd.V_slice HO264.out; subst eo105; obtain ⟨Ao106, co106, eo106⟩ := Kd.R_slice HO267.out; subst eo106) | (go_at_call 13; (with_reducible refine (whetstoneref01_Words.calls k _ _ t262 _ _ y265 false _ ?side1 ?side2 ?side3 ?side4 A4.out).mono ?_); (case side1 => repeat (first | exact (Kd.V_reads' HO264.out).2.2 | (with_reducible refine Kd.C_alloc ?_ _) | (with_reducible refine Kd.C_drewN ?_ _) | (with_reducible refine Kd.C_drew ?_))); (case side2 => exact (Kd.V_reads' HO264.out).2.1); (case side3 => repeat (first | exact (Kd.R_reads' HO267.out).2.2 | (with_reducible refine Kd.C_alloc ?_ _) | (with_reducible refine Kd.C_drewN ?_ _) | (with_reducible refine Kd.C_drew ?_))); (case side4 => exact (Kd.R_reads' HO267.out).2.1); rintro e w' ⟨rfl, ⟨nd, rfl⟩⟩))
   go_ret
   exact ⟨by first | rfl | (simp [errW_none, errW_some] <;> rfl) | (simp [*, errW_none, errW_some] <;> rfl), by repeat (first | (with_reducible first | exact HB.out | apply ba | apply bn | apply bd) | exact HB.out)⟩
 ·rw [if_neg c2] at H
  have c2b0 : (t255 == 0) = false := beq_eq_false_iff_ne.mpr c2
  have c2b1 : (t255 != 0) = true := bne_iff_ne.mpr c2
  obtain rfl := Option.some.inj H
  go_enter Try.func12, Try.ntmps12
  go_wp2_with (first | ((with_reducible refine gate_dst (N := 5) rfl ?_); (try (refine gate_guard (by rfl) ?_; dsimp only)); refine Kd.R_lit (Kd.int .u32) _ 42 ?hg (N := 5) ?hd (xs := ([0, 0, 1] : List Int)) (inner := [.int .u32 0, .int .u32 0, .int .u32 1]) (ok := fun _ => True) (okp := fun _ => True) ?hr ?hp (fun _ hk => hk) trivial (Below.refl _ _) (Nat.le_refl _) (by simp) ?_; (case hd => rfl); (case hg => rfl); (case hr => first | (go_simp; done) | (go_simp; rfl)); (case hp => exact (Reps.one (show Kd.M (Kd.int .u32) _ _ _ 0 [.int .u32 0] from rfl) (Reps.one (show Kd.M (Kd.int .u32) _ _ _ 0 [.int .u32 0] from rfl) (Reps.one (show Kd.M (Kd.int .u32) _ _ _ 1 [.int .u32 1] from rfl) (Reps.none _ _))))); intro v244 w107 ho108 hb hg_ hnew_; clear hg_ hnew_; (first | rw [← Ny243.out] at ho108 | (simp only [Int.reduceToNat] at ho108; rw [← Ny243.out] at ho108)); have HO245 := Aside0.mk (Kd.R_lower ho108 (below_size (by repeat (first | (with_reducible first | exact HB.out | apply ba | apply bn | apply bd) | exact HB.out)))); replace HB := Aside0.mk (below_step (by repeat (first | (with_reducible first | exact HB.out | apply ba | apply bn | apply bd) | exact HB.out)) hb); clear hb ho108) | ((with_reducible refine gate_dst (N := 6) rfl ?_); (try (refine gate_guard (by rfl) ?_; dsimp only)); refine Kd.R_lit (Kd.int .u32) _ 42 ?hg (N := 6) ?hd (xs := ([1, 1] : List Int)) (inner := [.int .u32 1, .int .u32 1]) (ok := fun _ => True) (okp := fun _ => True) ?hr ?hp (fun _ hk => hk) trivial (Below.refl _ _) (Nat.le_refl _) (by simp) ?_; (case hd => rfl); (case hg => rfl); (case hr => first | (go_simp; done) | (go_simp; rfl)); (case hp => exact (Reps.one (show Kd.M (Kd.int .u32) _ _ _ 1 [.int .u32 1] from rfl) (Reps.one (show Kd.M (Kd.int .u32) _ _ _ 1 [.int .u32 1] from rfl) (Reps.none _ _)))); intro v247 w109 ho110 hb hg_ hnew_; clear hg_ hnew_; (first | rw [← Ny246.out] at ho110 | (simp only [Int.reduceToNat] at ho110; rw [← Ny246.out] at ho110)); have HO248 := Aside0.mk (Kd.R_lower (Kd.R_new' ho110 (Kd.R_lt (by (with_reducible repeat first | apply qa | apply qn | apply qd); exact HO245.out))) (below_size (by repeat (first | (with_reducible first | exact HB.out | apply ba | apply bn | apply bd) | exact HB.out)))); replace HO245 := Aside0.mk (Kd.R_elder' (by (with_reducible repeat first | apply qa | apply qn | apply qd); exact HO245.out) (Kd.R_base ho110) hb); replace HB := Aside0.mk (below_step (by repeat (first | (with_reducible first | exact HB.out | apply ba | apply bn | apply bd) | exact HB.out)) hb); clear hb ho110; obtain ⟨Ao111, co111, eo111⟩ := Kd.R_slice HO245.out; subst eo111; obtain ⟨Ao112, co112, eo112⟩ := Kd.R_slice HO248.out; subst eo112) | ((with_reducible refine gate_callee (f := 18) rfl ?_); refine goesL_ (some 7) rfl rfl Try.func18 (by kernel_rfl) rfl #[.slice Ao111 y243.length co111, .slice Ao112 y246.length co112] rfl (by (try simp only [List.map_toArray, List.map_cons, List.map_nil]); first | done | rfl | (simp only [List.length_drop, List.length_take]; rfl)) ?_; (with_reducible refine (nat_DivMod.calls k (fun k_ => some k_ = (.slice Ao111 y243.length co111 : Value).ownBlock) _ _ y243 (fun k_ => some k_ = (.slice Ao112 y246.length co112 : Value).ownBlock) _ _ y246 t249 t252 t255 _ ?side1 ?side2 A1.out).mono ?_); (case side1 => exact Kd.R_V (Kd.R_tight rfl (HO245.out))); (case side2 => exact Kd.R_V (Kd.R_tight rfl (HO248.out))); rintro e w113 ⟨v250, v253, rfl, ho0, ho1, hb⟩; refine ⟨_, rfl, ?_⟩; have HO251 := Aside0.mk (Kd.V_lower (Kd.V_mono (ok' := fun k_ => True) ho0 (fun k_ hk_ => trivial)) (below_size (by repeat (first | (with_reducible first | exact HB.out | apply ba | apply bn | apply bd) | exact HB.out)))); have HO254 := Aside0.mk (Kd.V_lower (Kd.V_mono (ok' := fun k_ => True) ho1 (fun k_ hk_ => trivial)) (below_size (by repeat (first | (with_reducible first | exact HB.out | apply ba | apply bn | apply bd) | exact HB.out)))); replace HO245 := Aside0.mk (Kd.R_below (by (with_reducible repeat first | apply qa | apply qn | apply qd); exact HO245.out) hb); replace HO248 := Aside0.mk (Kd.R_below (by (with_reducible repeat first | apply qa | apply qn | apply qd); exact HO248.out) hb); replace HB := Aside0.mk (below_step (by repeat (first | (with_reducible first | exact HB.out | apply ba | apply bn | apply bd) | exact HB.out)) hb); (try clear hb); (try clear hb2); (try clear hk); (try clear hi); (try clear ho0); (try clear ho1)))
  go_ret
  exact ⟨by first | rfl | (simp [errW_none, errW_some] <;> rfl) | (simp [*, errW_none, errW_some] <;> rfl), by repeat (first | (with_reducible first | exact HB.out | apply ba | apply bn | apply bd) | exact HB.out)⟩

/-! ### whetstoneref01_Small: function 33 -/
def whetstoneref01_Small.l0 : Nat → Int → List Int → Option (List Int)
 | 0, _, _ => none
 | k + 1, x0, x3 => if x0 > 0 then (if x3.length < 17592186044416 then (whetstoneref01_Small.l0 k (IntKind.u64.wrap (Int.tdiv x0 10)) (x3 ++ [wrap64 (Int.tmod x0 10)])) else (none)) else (some x3)
def whetstoneref01_Small.f (k : Nat) (a0 : Int) : Option (List Int) := whetstoneref01_Small.l0 k a0 ([] : List Int)
theorem whetstoneref01_Small.mono_l : ∀ k, (∀ y0 y1, LeO (whetstoneref01_Small.l0 k y0 y1) (whetstoneref01_Small.l0 (k + 1) y0 y1))
 | 0 => fun _ _ r h => by simp [whetstoneref01_Small.l0] at h
 | k + 1 => by
  have ih0 := whetstoneref01_Small.mono_l k
  ·intro y0 y1
   unfold whetstoneref01_Small.l0
   repeat' first
   | (with_reducible exact ih0 _ _)
   | (with_reducible exact LeO.refl _)
   | (with_reducible exact LeO.none _)
   | (with_reducible refine LeO.ite ?_ ?_)
   | (with_reducible refine LeO.bind ?_ (fun _ => ?_))
   | exact ih0 _ _
   | exact LeO.none _
   | refine LeO.ite ?_ ?_
   | refine LeO.bind ?_ (fun _ => ?_)
theorem whetstoneref01_Small.mono : ∀ a0 k, LeO (whetstoneref01_Small.f k a0) (whetstoneref01_Small.f (k + 1) a0) := by
 intro a0 k
 have ih0 := whetstoneref01_Small.mono_l k
 unfold whetstoneref01_Small.f
 repeat' first
   | (with_reducible exact ih0 _ _)
   | (with_reducible exact LeO.refl _)
   | (with_reducible exact LeO.none _)
   | (with_reducible refine LeO.ite ?_ ?_)
   | (with_reducible refine LeO.bind ?_ (fun _ => ?_))
   | exact ih0 _ _
   | exact LeO.none _
   | refine LeO.ite ?_ ?_
   | refine LeO.bind ?_ (fun _ => ?_)
set_option maxHeartbeats 8000000 in
set_option maxRecDepth 100000 in
theorem whetstoneref01_Small.calls (k : Nat) (a0 : Int) (r : List Int) (w : World) (h : whetstoneref01_Small.f k a0 = some r) :
  Calls Try.prog 33 #[.int .u64 a0] w fun e w' => ∃ v0_ : Value, e = .returned (v0_) ∧ Kd.R (Kd.int .i64) 3 w' w.heap.size (fun _ => True) v0_ r ∧ Below w.heap.size w w' := by
 have HB := Aside0.mk (Below.refl w.heap.size w)
 have H : (whetstoneref01_Small.l0 k a0 ([] : List Int)) = some r := h
 clear h
 have H' := Aside0.mk H
 clear H
 go_enter Try.func33, Try.ntmps33
 go_wp2
 go_loopg [0, 3] k (fun kq v0 v3 w' => ∃ (x0_1 : Int) (x3_1 : List Int), v0 = .int .u64 x0_1 ∧ Aside0 (whetstoneref01_Small.l0 kq x0_1 x3_1 = some r) ∧ Aside0 (kq ≤ k) ∧ Aside0 (Kd.R (Kd.int .i64) 3 w' w.heap.size (fun _ => True) v3 x3_1) ∧ Aside0 (Below w.heap.size w w'))
 case atStart => exact ⟨(a0), (([] : List Int)), (by first | rfl | (simp; done) | (simp [*]; done)), H', ⟨Nat.le_refl _⟩, ⟨by first | exact Kd.R_nil _ _ _ _ _ | exact Kd.N_nil _ _ _ _ _ | exact Kd.V_nil _ _ _ _ _ | exact Kd.Q_nil _ _ _ _ _ | exact Kd.S_nil _ _ _ _ _⟩, ⟨by repeat (first | (with_reducible first | exact HB.out | apply ba | apply bn | apply bd) | exact HB.out)⟩⟩
 case round =>
  clear H'
  obtain ⟨x0_1, x3_1, rfl, HA, HK1, HO_3, HB⟩ := hrel
  cases gk with
  | zero => exact absurd HA.out (by simp [whetstoneref01_Small.l0])
  | succ k1 =>
   have H := HA.out
   clear HA
   simp only [whetstoneref01_Small.l0] at H
   by_cases c2 : x0_1 > 0
   ·rw [if_pos c2] at H
    have c2b0 : decide (0 < x0_1) = true := decide_eq_true c2
    clear c2
    by_cases c3 : x3_1.length < 17592186044416
    ·rw [if_pos c3] at H
     have LMc3 := Aside0.mk c3
     clear c3
     obtain ⟨y281, hy281⟩ : ∃ y_ : List Int, y_ = (x3_1 ++ [wrap64 (Int.tmod x0_1 10)]) := ⟨_, rfl⟩
     replace H : (whetstoneref01_Small.l0 k1 (IntKind.u64.wrap (Int.tdiv x0_1 10)) y281) = some r := by first | (rw [hy281]; with_reducible exact H) | (have H2_ := (Option.bind_some _ _).symm.trans H; rw [hy281]; with_reducible exact H2_) | (have H2_ := (Option.bind_some _ _).symm.trans H; with_reducible exact H2_) | with_reducible exact H | (rw [hy281]; exact H) | exact H
     have Ny281 := Aside0.mk hy281
     clear hy281
     have H' := Aside0.mk H
     clear H
     go_wp2_with (first | ((with_reducible refine gate_builtin (b := .append) (xs := #[.tmp 6, .tmp 10]) rfl ?_); at_builtin; refine Kd.R_append (Kd.int .i64) (w0 := w) w.heap.size rfl (.tmp 6) (.tmp 10) 27 3 (.int .i64 0) 8 rfl Try.underlying27 info3 rfl (by decide) (by omega) u3 x3_1 (wrap64 (Int.tmod x0_1 10)) [.int .i64 (wrap64 (Int.tmod x0_1 10))] (fun _ => True) (fun _ => False) rfl rfl ?aP (fun _ hk => hk.elim) ?aF ?aO ?aB ?aS ?aL ?_; (case aP => exact rfl); (case aB => exact (by repeat (first | (with_reducible first | exact HB.out | apply ba | apply bn | apply bd) | exact HB.out))); (case aF => exact (fun _ _ => trivial)); (case aO => exact (by (with_reducible repeat first | apply qa | apply qn | apply qd); exact HO_3.out)); (case aS => exact (below_size (by repeat (first | (with_reducible first | exact HB.out | apply ba | apply bn | apply bd) | exact HB.out)))); (case aL => have := LMc3.out; omega); intro v282 w4 ho hb hg hat; rw [← Ny281.out] at ho; have n0_ := Aside0.mk (hb); have n1_ := Aside0.mk (ho); clear HB; clear HO_3; have HB := n0_; have HO283 := n1_; clear n0_ n1_; clear ho hb hg hat))
     go_roundg k1
     case measure => have := HK1.out; omega
     case rel => exact ⟨(IntKind.u64.wrap (Int.tdiv x0_1 10)), (y281), (by first | rfl | (simp; done) | (simp [*]; done)), H', ⟨by have := HK1.out; omega⟩, ⟨by (with_reducible repeat first | apply qa | apply qn | apply qd); exact HO283.out⟩, ⟨by repeat (first | (with_reducible first | exact HB.out | apply ba | apply bn | apply bd) | exact HB.out)⟩⟩
    ·rw [if_neg c3] at H
     exact absurd H (by simp)
   ·rw [if_neg c2] at H
    have c2b0 : decide (0 < x0_1) = false := decide_eq_false c2
    clear c2
    obtain rfl := Option.some.inj H
    go_wp2
    go_ret
    exact ⟨_, by first | rfl | (simp [errW_none, errW_some] <;> rfl) | (simp [*, errW_none, errW_some] <;> rfl), by (with_reducible repeat first | apply qa | apply qn | apply qd); exact HO_3.out, by repeat (first | (with_reducible first | exact HB.out | apply ba | apply bn | apply bd) | exact HB.out)⟩

/-! ### whetstoneref01_Trim: function 42 -/
def whetstoneref01_Trim.l0 : Nat → List Int → Int → Option (List Int)
 | 0, _, _ => none
 | k + 1, x0, x3 => if x3 > 0 then (if 0 ≤ (wrap64 (x3 - 1)) then (if (wrap64 (x3 - 1)) < (x0.length : Int) then (if (rd x0 (wrap64 (x3 - 1))) = 0 then (whetstoneref01_Trim.l0 k x0 (wrap64 (x3 - 1))) else (if 0 ≤ x3 then (if x3 ≤ (x0.length : Int) then (if ([] : List Int).length + (x0.take (x3 : Int).toNat).length < 17592186044416 then (some (([] : List Int) ++ (x0.take (x3 : Int).toNat))) else (none)) else (none)) else (none))) else (none)) else (none)) else (if 0 ≤ x3 then (if x3 ≤ (x0.length : Int) then (if ([] : List Int).length + (x0.take (x3 : Int).toNat).length < 17592186044416 then (some (([] : List Int) ++ (x0.take (x3 : Int).toNat))) else (none)) else (none)) else (none))
def whetstoneref01_Trim.f (k : Nat) (l0 : List Int) : Option (List Int) := whetstoneref01_Trim.l0 k l0 (l0.length : Int)
theorem whetstoneref01_Trim.mono_l : ∀ k, (∀ y0 y1, LeO (whetstoneref01_Trim.l0 k y0 y1) (whetstoneref01_Trim.l0 (k + 1) y0 y1))
 | 0 => fun _ _ r h => by simp [whetstoneref01_Trim.l0] at h
 | k + 1 => by
  have ih0 := whetstoneref01_Trim.mono_l k
  ·intro y0 y1
   unfold whetstoneref01_Trim.l0
   repeat' first
   | (with_reducible exact ih0 _ _)
   | (with_reducible exact LeO.refl _)
   | (with_reducible exact LeO.none _)
   | (with_reducible refine LeO.ite ?_ ?_)
   | (with_reducible refine LeO.bind ?_ (fun _ => ?_))
   | exact ih0 _ _
   | exact LeO.none _
   | refine LeO.ite ?_ ?_
   | refine LeO.bind ?_ (fun _ => ?_)
theorem whetstoneref01_Trim.mono : ∀ a0 k, LeO (whetstoneref01_Trim.f k a0) (whetstoneref01_Trim.f (k + 1) a0) := by
 intro a0 k
 have ih0 := whetstoneref01_Trim.mono_l k
 unfold whetstoneref01_Trim.f
 repeat' first
   | (with_reducible exact ih0 _ _)
   | (with_reducible exact LeO.refl _)
   | (with_reducible exact LeO.none _)
   | (with_reducible refine LeO.ite ?_ ?_)
   | (with_reducible refine LeO.bind ?_ (fun _ => ?_))
   | exact ih0 _ _
   | exact LeO.none _
   | refine LeO.ite ?_ ?_
   | refine LeO.bind ?_ (fun _ => ?_)
set_option maxHeartbeats 8000000 in
set_option maxRecDepth 100000 in
theorem whetstoneref01_Trim.calls (k : Nat) (A0 : Option Addr) (c0 : Nat) (l0 : List Int) (r : List Int) (w : World) (hr0 : Kd.C (Kd.int .i64) w A0 l0.length l0) (hc0 : l0.length ≤ c0) (h : whetstoneref01_Trim.f k l0 = some r) :
  Calls Try.prog 42 #[.slice A0 l0.length c0] w fun e w' => ∃ v0_ : Value, e = .returned (v0_) ∧ Kd.R (Kd.int .i64) 3 w' w.heap.size (fun _ => True) v0_ r ∧ Below w.heap.size w w' := by
 have HR0 := Aside0.mk hr0
 have HC0 := Aside0.mk hc0
 clear hr0 hc0
 have HB := Aside0.mk (Below.refl w.heap.size w)
 have H : (whetstoneref01_Trim.l0 k l0 (l0.length : Int)) = some r := h
 clear h
 have H' := Aside0.mk H
 clear H
 go_enter Try.func42, Try.ntmps42
 go_wp2
 go_loopg [3] k (fun kq v3 w' => ∃ (x3_1 : Int), v3 = .int .i64 x3_1 ∧ Aside0 (whetstoneref01_Trim.l0 kq l0 x3_1 = some r) ∧ Aside0 (kq ≤ k) ∧ Aside0 (Below w.heap.size w w'))
 case atStart => exact ⟨((l0.length : Int)), (by first | rfl | (simp; done) | (simp [*]; done)), H', ⟨Nat.le_refl _⟩, ⟨by repeat (first | (with_reducible first | exact HB.out | apply ba | apply bn | apply bd) | exact HB.out)⟩⟩
 case round =>
  clear H'
  obtain ⟨x3_1, rfl, HA, HK1, HB⟩ := hrel
  cases gk with
  | zero => exact absurd HA.out (by simp [whetstoneref01_Trim.l0])
  | succ k1 =>
   have H := HA.out
   clear HA
   simp only [whetstoneref01_Trim.l0] at H
   by_cases c2 : x3_1 > 0
   ·rw [if_pos c2] at H
    have c2b0 : decide (0 < x3_1) = true := decide_eq_true c2
    clear c2
    obtain ⟨ji3, hji3⟩ : ∃ j_ : Int, (wrap64 (x3_1 - 1)) = j_ := ⟨_, rfl⟩
    replace H : (if 0 ≤ (ji3) then (if (ji3) < (l0.length : Int) then (if (rd l0 (ji3)) = 0 then (whetstoneref01_Trim.l0 k1 l0 ji3) else (if 0 ≤ x3_1 then (if x3_1 ≤ (l0.length : Int) then (if ([] : List Int).length + (l0.take (x3_1 : Int).toNat).length < 17592186044416 then (some (([] : List Int) ++ (l0.take (x3_1 : Int).toNat))) else (none)) else (none)) else (none))) else (none)) else (none)) = some r := by first | (rw [hji3] at H; exact H) | (simp only [hji3] at H ⊢; exact H)
    have hji3w : (IntKind.i64.wrap (x3_1 - 1)) = ji3 := (i64_w _).trans hji3
    by_cases c4 : 0 ≤ (ji3)
    ·rw [if_pos c4] at H
     have c4b0 : decide (0 ≤ (ji3)) = true := decide_eq_true c4
     clear c4
     by_cases c5 : (ji3) < (l0.length : Int)
     ·rw [if_pos c5] at H
      have c5b0 : decide ((ji3) < (l0.length : Int)) = true := decide_eq_true c5
      clear c5
      by_cases c6 : (rd l0 (ji3)) = 0
      ·rw [if_pos c6] at H
       have c6b0 : ((rd l0 (ji3)) == 0) = true := beq_iff_eq.mpr c6
       have c6b1 : ((rd l0 (ji3)) != 0) = false := bne_eq_false_iff_eq.mpr c6
       clear c6
       have H' := Aside0.mk H
       clear H
       have p284 : 0 ≤ ((ji3) : Int) := of_decide_eq_true (by assumption)
       have q284 : (ji3) < (l0.length : Int) := of_decide_eq_true (by assumption)
       obtain ⟨ad284, e284, hx284_0⟩ := Kd.at_int HR0.out (ji3) p284 q284
       cases e284
       replace hx284_0 := (HB.out.cell (World.block_lt_of_cell? w _ hx284_0)).trans hx284_0
       replace p284 := eq_true p284
       replace q284 := eq_true q284
       go_wp2
       go_roundg k1
       case measure => have := HK1.out; omega
       case rel => exact ⟨(ji3), (by first | rfl | (simp; done) | (simp only [← hji3] <;> (first | rfl | simp)) | (simp [*]; done)), H', ⟨by have := HK1.out; omega⟩, ⟨by repeat (first | (with_reducible first | exact HB.out | apply ba | apply bn | apply bd) | exact HB.out)⟩⟩
      ·rw [if_neg c6] at H
       have c6b0 : ((rd l0 (ji3)) == 0) = false := beq_eq_false_iff_ne.mpr c6
       have c6b1 : ((rd l0 (ji3)) != 0) = true := bne_iff_ne.mpr c6
       by_cases c7 : 0 ≤ x3_1
       ·rw [if_pos c7] at H
        have c7b0 := eq_true c7
        have c7b1 : decide (0 ≤ x3_1) = true := decide_eq_true c7
        clear c7
        by_cases c8 : x3_1 ≤ (l0.length : Int)
        ·rw [if_pos c8] at H
         have c8b0 := eq_true c8
         have c8b1 : decide (x3_1 ≤ (l0.length : Int)) = true := decide_eq_true c8
         clear c8
         by_cases c9 : ([] : List Int).length + (l0.take (x3_1 : Int).toNat).length < 17592186044416
         ·rw [if_pos c9] at H
          have LMc9 := Aside0.mk c9
          clear c9
          obtain ⟨y286, hy286⟩ : ∃ y_ : List Int, y_ = (([] : List Int) ++ (l0.take (x3_1 : Int).toNat)) := ⟨_, rfl⟩
          replace H : (some y286) = some r := by first | (rw [hy286]; with_reducible exact H) | (have H2_ := (Option.bind_some _ _).symm.trans H; rw [hy286]; with_reducible exact H2_) | (have H2_ := (Option.bind_some _ _).symm.trans H; with_reducible exact H2_) | with_reducible exact H | (rw [hy286]; exact H) | exact H
          have Ny286 := Aside0.mk hy286
          clear hy286
          obtain rfl := Option.some.inj H
          have p284 : 0 ≤ ((ji3) : Int) := of_decide_eq_true (by assumption)
          have q284 : (ji3) < (l0.length : Int) := of_decide_eq_true (by assumption)
          obtain ⟨ad284, e284, hx284_0⟩ := Kd.at_int HR0.out (ji3) p284 q284
          cases e284
          replace hx284_0 := (HB.out.cell (World.block_lt_of_cell? w _ hx284_0)).trans hx284_0
          replace p284 := eq_true p284
          replace q284 := eq_true q284
          obtain ⟨i010, hi010, _, hsz10, _⟩ := info_parts info3
          obtain ⟨hcut10, hA10, hC10⟩ := print_take_of (P := Try.prog) (Value.int .i64) 0 27 3 .i64 Try.underlying27 hi010 hsz10 (some ad284) c0 l0 x3_1 (of_decide_eq_true (by assumption)) (of_decide_eq_true (by assumption)) HC0.out
          have HR285 := Aside0.mk (Kd.C_of_reads (h1 := fun _ => rfl) (hA10 _ (Kd.reads_of_C HR0.out)))
          have HC285 := Aside0.mk hC10
          clear hA10 hC10 hi010 hsz10
          go_wp2_with (first | ((with_reducible refine gate_builtin (b := .append) (xs := #[(.tmp 19), .tmp 22]) rfl ?_); at_builtin; refine Kd.R_append_rows (Kd.int .i64) (w0 := w) w.heap.size rfl (.tmp 19) (.tmp 22) 27 3 (.int .i64 0) 8 rfl Try.underlying27 info3 rfl (by decide) (by omega) (.slice none 0 0) ([] : List Int) (l0.take (x3_1 : Int).toNat) _ _ _ (fun _ => True) (fun _ => False) rfl rfl ?aO ?aR (fun _ _ h => h) (fun _ h => h.elim) ?aF ?aB ?aS ?aL ?_; (case aR => first | (refine Kd.reads_len_ (show (l0.take (x3_1 : Int).toNat).length = x3_1.toNat from (by rw [List.length_take]; have h_ : (x3_1 : Int) ≤ (l0.length : Int) := of_decide_eq_true (by assumption); omega)) ?_; repeat (first | exact (Kd.C_below HR285.out HB.out) | (with_reducible refine Kd.C_alloc ?_ _) | (with_reducible refine Kd.C_drewN ?_ _) | (with_reducible refine Kd.C_drew ?_)); done) | (rw [← show (l0.take (x3_1 : Int).toNat).length = x3_1.toNat from (by rw [List.length_take]; have h_ : (x3_1 : Int) ≤ (l0.length : Int) := of_decide_eq_true (by assumption); omega)]; repeat (first | exact (Kd.C_below HR285.out HB.out) | (with_reducible refine Kd.C_alloc ?_ _) | (with_reducible refine Kd.C_drewN ?_ _) | (with_reducible refine Kd.C_drew ?_))) | (repeat (first | exact (Kd.C_below HR285.out HB.out) | (with_reducible refine Kd.C_alloc ?_ _) | (with_reducible refine Kd.C_drewN ?_ _) | (with_reducible refine Kd.C_drew ?_)))); (case aB => exact (by repeat (first | (with_reducible first | exact HB.out | apply ba | apply bn | apply bd) | exact HB.out))); (case aF => exact (fun _ _ => trivial)); (case aO => exact ((Kd.R_nil _ _ _ _ (fun _ => True)))); (case aS => exact (below_size (by repeat (first | (with_reducible first | exact HB.out | apply ba | apply bn | apply bd) | exact HB.out)))); (case aL => have := LMc9.out; have hlx_ := (show (l0.take (x3_1 : Int).toNat).length = x3_1.toNat from (by rw [List.length_take]; have h_ : (x3_1 : Int) ≤ (l0.length : Int) := of_decide_eq_true (by assumption); omega)); omega); intro v287 w11 ho hb hg hat; rw [← Ny286.out] at ho; have HO288 := Aside0.mk (ho); replace HB := Aside0.mk (hb); clear ho hb hg hat))
          go_ret
          exact ⟨_, by first | rfl | (simp [errW_none, errW_some] <;> rfl) | (simp only [← hji3]; first | rfl | (simp [errW_none, errW_some] <;> rfl)) | (simp [*, errW_none, errW_some] <;> rfl), by (with_reducible repeat first | apply qa | apply qn | apply qd); exact HO288.out, by repeat (first | (with_reducible first | exact HB.out | apply ba | apply bn | apply bd) | exact HB.out)⟩
         ·rw [if_neg c9] at H
          exact absurd H (by simp)
        ·rw [if_neg c8] at H
         exact absurd H (by simp)
       ·rw [if_neg c7] at H
        exact absurd H (by simp)
     ·rw [if_neg c5] at H
      exact absurd H (by simp)
    ·rw [if_neg c4] at H
     exact absurd H (by simp)
   ·rw [if_neg c2] at H
    have c2b0 : decide (0 < x3_1) = false := decide_eq_false c2
    clear c2
    by_cases c12 : 0 ≤ x3_1
    ·rw [if_pos c12] at H
     have c12b0 := eq_true c12
     have c12b1 : decide (0 ≤ x3_1) = true := decide_eq_true c12
     clear c12
     by_cases c13 : x3_1 ≤ (l0.length : Int)
     ·rw [if_pos c13] at H
      have c13b0 := eq_true c13
      have c13b1 : decide (x3_1 ≤ (l0.length : Int)) = true := decide_eq_true c13
      clear c13
      by_cases c14 : ([] : List Int).length + (l0.take (x3_1 : Int).toNat).length < 17592186044416
      ·rw [if_pos c14] at H
       have LMc14 := Aside0.mk c14
       clear c14
       obtain ⟨y290, hy290⟩ : ∃ y_ : List Int, y_ = (([] : List Int) ++ (l0.take (x3_1 : Int).toNat)) := ⟨_, rfl⟩
       replace H : (some y290) = some r := by first | (rw [hy290]; with_reducible exact H) | (have H2_ := (Option.bind_some _ _).symm.trans H; rw [hy290]; with_reducible exact H2_) | (have H2_ := (Option.bind_some _ _).symm.trans H; with_reducible exact H2_) | with_reducible exact H | (rw [hy290]; exact H) | exact H
       have Ny290 := Aside0.mk hy290
       clear hy290
       obtain rfl := Option.some.inj H
       obtain ⟨i015, hi015, _, hsz15, _⟩ := info_parts info3
       obtain ⟨hcut15, hA15, hC15⟩ := print_take_of (P := Try.prog) (Value.int .i64) 0 27 3 .i64 Try.underlying27 hi015 hsz15 A0 c0 l0 x3_1 (of_decide_eq_true (by assumption)) (of_decide_eq_true (by assumption)) HC0.out
       have HR289 := Aside0.mk (Kd.C_of_reads (h1 := fun _ => rfl) (hA15 _ (Kd.reads_of_C HR0.out)))
       have HC289 := Aside0.mk hC15
       clear hA15 hC15 hi015 hsz15
       go_wp2_with (first | ((with_reducible refine gate_builtin (b := .append) (xs := #[(.tmp 19), .tmp 22]) rfl ?_); at_builtin; refine Kd.R_append_rows (Kd.int .i64) (w0 := w) w.heap.size rfl (.tmp 19) (.tmp 22) 27 3 (.int .i64 0) 8 rfl Try.underlying27 info3 rfl (by decide) (by omega) (.slice none 0 0) ([] : List Int) (l0.take (x3_1 : Int).toNat) _ _ _ (fun _ => True) (fun _ => False) rfl rfl ?aO ?aR (fun _ _ h => h) (fun _ h => h.elim) ?aF ?aB ?aS ?aL ?_; (case aR => first | (refine Kd.reads_len_ (show (l0.take (x3_1 : Int).toNat).length = x3_1.toNat from (by rw [List.length_take]; have h_ : (x3_1 : Int) ≤ (l0.length : Int) := of_decide_eq_true (by assumption); omega)) ?_; repeat (first | exact (Kd.C_below HR289.out HB.out) | (with_reducible refine Kd.C_alloc ?_ _) | (with_reducible refine Kd.C_drewN ?_ _) | (with_reducible refine Kd.C_drew ?_)); done) | (rw [← show (l0.take (x3_1 : Int).toNat).length = x3_1.toNat from (by rw [List.length_take]; have h_ : (x3_1 : Int) ≤ (l0.length : Int) := of_decide_eq_true (by assumption); omega)]; repeat (first | exact (Kd.C_below HR289.out HB.out) | (with_reducible refine Kd.C_alloc ?_ _) | (with_reducible refine Kd.C_drewN ?_ _) | (with_reducible refine Kd.C_drew ?_))) | (repeat (first | exact (Kd.C_below HR289.out HB.out) | (with_reducible refine Kd.C_alloc ?_ _) | (with_reducible refine Kd.C_drewN ?_ _) | (with_reducible refine Kd.C_drew ?_)))); (case aB => exact (by repeat (first | (with_reducible first | exact HB.out | apply ba | apply bn | apply bd) | exact HB.out))); (case aF => exact (fun _ _ => trivial)); (case aO => exact ((Kd.R_nil _ _ _ _ (fun _ => True)))); (case aS => exact (below_size (by repeat (first | (with_reducible first | exact HB.out | apply ba | apply bn | apply bd) | exact HB.out)))); (case aL => have := LMc14.out; have hlx_ := (show (l0.take (x3_1 : Int).toNat).length = x3_1.toNat from (by rw [List.length_take]; have h_ : (x3_1 : Int) ≤ (l0.length : Int) := of_decide_eq_true (by assumption); omega)); omega); intro v291 w16 ho hb hg hat; rw [← Ny290.out] at ho; have HO292 := Aside0.mk (ho); replace HB := Aside0.mk (hb); clear ho hb hg hat))
       go_ret
       exact ⟨_, by first | rfl | (simp [errW_none, errW_some] <;> rfl) | (simp [*, errW_none, errW_some] <;> rfl), by (with_reducible repeat first | apply qa | apply qn | apply qd); exact HO292.out, by repeat (first | (with_reducible first | exact HB.out | apply ba | apply bn | apply bd) | exact HB.out)⟩
      ·rw [if_neg c14] at H
       exact absurd H (by simp)
     ·rw [if_neg c13] at H
      exact absurd H (by simp)
    ·rw [if_neg c12] at H
     exact absurd H (by simp)

end Go.Proofs.Ythodpjgmecnalaa.QNatGcds
