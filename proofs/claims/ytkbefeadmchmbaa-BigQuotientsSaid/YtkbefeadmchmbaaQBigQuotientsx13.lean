-- written by wip/wprint, a program of this session
import Derived.Test.YtkbefeadmchmbaaQBigQuotientsx0
import Derived.Test.YtkbefeadmchmbaaQBigQuotientsx1
import Derived.Test.YtkbefeadmchmbaaQBigQuotientsx12
namespace Go.Proofs.Ytkbefeadmchmbaa.QBigQuotients
open Go.RowKit Go.Proofs.YtkbefeadmchmbaaW.PrintWords Go.Proofs.YtkbefeadmchmbaaW.PrintLast Go.Proofs.YtkbefeadmchmbaaW.PrintMore
open Go.Proofs.YtkbefeadmchmbaaW.PrintWords.Kd renaming R_alloc → qa, R_drewN → qn, R_drew → qd, V_alloc → va, V_drewN → vn, V_drew → vd
open Go.Proofs.YtkbefeadmchmbaaW.PrintWords renaming below_alloc → ba, pw_below_drewN → bn, below_drew1 → bd
attribute [local go_sem] max2_int min2_int max_two min_two max_three min_three max_four min_four   -- for this text's walks alone
set_option linter.unusedVariables false
set_option linter.unusedSimpArgs false

/-! ### nat_Mul: function 59 -/
mutual
def nat_Mul.j0 : Nat → List Int → List Int → Bool → Option (List Int)
 | 0, _, _, _ => none
 | k + 1, x0, x1, x19 => if x19 = true then (some ([] : List Int)) else (if 0 ≤ (wrap64 ((x0.length : Int) + (x1.length : Int))) then (if (wrap64 ((x0.length : Int) + (x1.length : Int)) : Int).toNat ≤ 70368744177664 then (nat_Mul.l0 k x1 (List.replicate (wrap64 ((x0.length : Int) + (x1.length : Int)) : Int).toNat 0) x0 (x0.length : Int) 0) else (none)) else (none))
def nat_Mul.l0 : Nat → List Int → List Int → List Int → Int → Int → Option (List Int)
 | 0, _, _, _, _, _ => none
 | k + 1, x1, x5, x26, x27, x28 => if x28 < x27 then (if 0 ≤ x28 then (if x28 < (x26.length : Int) then ((nat_addTo.f k x5 x28 (rd x26 x28) x1).bind fun t496 => (nat_Mul.l0 k x1 t496 x26 x27 (wrap64 (x28 + 1)))) else (none)) else (none)) else ((nat_trim.f k x5).bind fun t497 => (some t497))
end
def nat_Mul.f (k : Nat) (l0 : List Int) (l1 : List Int) : Option (List Int) := (nat_trim.f k l0).bind fun t486 => ((nat_trim.f k l1).bind fun t489 => (if (t486.length : Int) = 0 then (nat_Mul.j0 k t486 t489 true) else (nat_Mul.j0 k t486 t489 ((t489.length : Int) == 0))))
theorem nat_Mul.mono_l : ∀ k, (∀ y0 y1 y2, LeO (nat_Mul.j0 k y0 y1 y2) (nat_Mul.j0 (k + 1) y0 y1 y2)) ∧ (∀ y0 y1 y2 y3 y4, LeO (nat_Mul.l0 k y0 y1 y2 y3 y4) (nat_Mul.l0 (k + 1) y0 y1 y2 y3 y4))
 | 0 => ⟨fun _ _ _ r h => by simp [nat_Mul.j0] at h, fun _ _ _ _ _ r h => by simp [nat_Mul.l0] at h⟩
 | k + 1 => by
  obtain ⟨ih0, ih1⟩ := nat_Mul.mono_l k; refine ⟨?_, ?_⟩
  ·intro y0 y1 y2
   unfold nat_Mul.j0
   repeat' with_reducible first | exact ih0 _ _ _ | exact ih1 _ _ _ _ _ | exact nat_addTo.mono _ _ _ _ _ | exact nat_trim.mono _ _ | exact LeO.refl _ | exact LeO.none _ | refine LeO.ite ?_ ?_ | refine LeO.bind ?_ (fun _ => ?_)
  ·intro y0 y1 y2 y3 y4
   unfold nat_Mul.l0
   repeat' with_reducible first | exact ih0 _ _ _ | exact ih1 _ _ _ _ _ | exact nat_addTo.mono _ _ _ _ _ | exact nat_trim.mono _ _ | exact LeO.refl _ | exact LeO.none _ | refine LeO.ite ?_ ?_ | refine LeO.bind ?_ (fun _ => ?_)
theorem nat_Mul.mono : ∀ a0 a1 k, LeO (nat_Mul.f k a0 a1) (nat_Mul.f (k + 1) a0 a1) := by
 intro a0 a1 k; obtain ⟨ih0, ih1⟩ := nat_Mul.mono_l k
 unfold nat_Mul.f
 repeat' with_reducible first | exact ih0 _ _ _ | exact ih1 _ _ _ _ _ | exact nat_addTo.mono _ _ _ _ _ | exact nat_trim.mono _ _ | exact LeO.refl _ | exact LeO.none _ | refine LeO.ite ?_ ?_ | refine LeO.bind ?_ (fun _ => ?_)
set_option maxHeartbeats 8000000 in
set_option maxRecDepth 100000 in
theorem nat_Mul.calls (k : Nat) (P0_ : Nat → Prop) (A0 : Option Addr) (c0 : Nat) (l0 : List Int) (P1_ : Nat → Prop) (A1 : Option Addr) (c1 : Nat) (l1 : List Int) (r : List Int) (w : World) (hs0 : Kd.V (Kd.int .u32) 70 w w.heap.size (fun k_ => P0_ k_) (.slice A0 l0.length c0) l0) (hs1 : Kd.V (Kd.int .u32) 70 w w.heap.size (fun k_ => P1_ k_) (.slice A1 l1.length c1) l1) (h : nat_Mul.f k l0 l1 = some r) :
  Calls Try.prog 59 #[.slice A0 l0.length c0, .slice A1 l1.length c1] w fun e w' => ∃ v0_ : Value, e = .returned (v0_) ∧ Kd.V (Kd.int .u32) 70 w' w.heap.size (fun k_ => ((P0_ k_ ∨ P1_ k_) ∨ w.heap.size ≤ k_)) v0_ r ∧ Below w.heap.size w w' := by
 have HO0 := Aside0.mk (show Kd.V (Kd.int .u32) 70 w w.heap.size (fun k_ => ((P0_ k_ ∨ P1_ k_) ∨ w.heap.size ≤ k_)) (.slice A0 l0.length c0) l0 from Kd.V_mono hs0 (fun k_ hk => .inl (.inl hk))); have HO1 := Aside0.mk (show Kd.V (Kd.int .u32) 70 w w.heap.size (fun k_ => ((P0_ k_ ∨ P1_ k_) ∨ w.heap.size ≤ k_)) (.slice A1 l1.length c1) l1 from Kd.V_mono hs1 (fun k_ hk => .inl (.inr hk))); have HB := Aside0.mk (Below.refl w.heap.size w); have H : ((nat_trim.f k l0).bind fun t486 => ((nat_trim.f k l1).bind fun t489 => (if (t486.length : Int) = 0 then (nat_Mul.j0 k t486 t489 true) else (nat_Mul.j0 k t486 t489 ((t489.length : Int) == 0))))) = some r := h; clear h; replace H := bi H; obtain ⟨t486, A30, H⟩ := H; have A3 := Aside0.mk A30; clear A30; replace H := bi H; obtain ⟨t489, A40, H⟩ := H; have A4 := Aside0.mk A40; clear A40; have HC5 := Aside0.mk H; clear H
 go_enter Try.func59, Try.ntmps59
 go_upto_region 2 with (first | ((with_reducible refine gate_callee (f := 40) rfl ?_); refine gL (N := some 9) Try.func40 #[.slice A0 l0.length c0] ?_; (with_reducible refine (nat_trim.calls k (fun k_ => ((P0_ k_ ∨ P1_ k_) ∨ w.heap.size ≤ k_)) _ _ l0 t486 _ ?side1 A3.out).mono ?_); (case side1 => exact HO0.out); rintro e w6 ⟨v487, rfl, ho0, hb⟩; refine ⟨_, rfl, ?_⟩; replace HO1 := vb HO1 hb; have HO488 := Aside0.mk (Kd.V_lower (Kd.V_mono (ok' := fun k_ => ((P0_ k_ ∨ P1_ k_) ∨ w.heap.size ≤ k_)) ho0 (fun k_ hk_ => Or.elim hk_ (fun hs_ => hs_) (fun hn_ => (.inr (Nat.le_trans (below_size (tb HB)) hn_))))) (below_size (tb HB))); replace HB := bs HB hb; (try clear hb); (try clear ho0)) | ((with_reducible refine gate_callee (f := 40) rfl ?_); refine gL (N := some 11) Try.func40 #[.slice A1 l1.length c1] ?_; (with_reducible refine (nat_trim.calls k (fun k_ => ((P0_ k_ ∨ P1_ k_) ∨ w.heap.size ≤ k_)) _ _ l1 t489 _ ?side1 A4.out).mono ?_); (case side1 => exact HO1.out); rintro e w7 ⟨v490, rfl, ho0, hb⟩; refine ⟨_, rfl, ?_⟩; replace HO488 := vb HO488 hb; have HO491 := Aside0.mk (Kd.V_lower (Kd.V_mono (ok' := fun k_ => ((P0_ k_ ∨ P1_ k_) ∨ w.heap.size ≤ k_)) ho0 (fun k_ hk_ => Or.elim hk_ (fun hs_ => hs_) (fun hn_ => (.inr (Nat.le_trans (below_size (tb HB)) hn_))))) (below_size (tb HB))); replace HB := bs HB hb; (try clear hb); (try clear ho0)))
 (try simp only [Act.put, List.setIfInBounds_toArray, List.set_cons_zero, List.set_cons_succ])
 go_cut [19] from 1 to 0 (fun v19 wc => ∃ (kq : Nat) (x19_4 : Bool), v19 = .bool x19_4 ∧ Aside0 (nat_Mul.j0 kq t486 t489 x19_4 = some r) ∧ Aside0 (kq ≤ k) ∧ Aside0 (Kd.V (Kd.int .u32) 70 wc w.heap.size (fun k_ => ((P0_ k_ ∨ P1_ k_) ∨ w.heap.size ≤ k_)) v487 t486) ∧ Aside0 (Kd.V (Kd.int .u32) 70 wc w.heap.size (fun k_ => ((P0_ k_ ∨ P1_ k_) ∨ w.heap.size ≤ k_)) v490 t489) ∧ Aside0 (Below w.heap.size w wc))
 case first =>
  have H := HC5.out; clear HC5
  by_cases c8 : (t486.length : Int) = 0
  ·rw [if_pos c8] at H
   have c8b0 : ((t486.length : Int) == 0) = true := beq_iff_eq.mpr c8; have c8b1 : ((t486.length : Int) != 0) = false := bne_eq_false_iff_eq.mpr c8; clear c8; (first | rw [c8b0] | rw [c8b1] | (simp only [i64_w, i32_w]; rw [c8b0]) | skip); have H' := Aside0.mk H; clear H; obtain ⟨Ao9, co9, eo9⟩ := Kd.V_slice HO488.out; subst eo9
   go_wp2
   go_meet
   case rel => exact ⟨_, (true), (by first | rfl | (simp; done) | (simp [*]; done)), H', ⟨by first | omega | exact Nat.le_refl _⟩, ⟨tv HO488⟩, ⟨tv HO491⟩, ⟨tb HB⟩⟩
  ·rw [if_neg c8] at H
   have c8b0 : ((t486.length : Int) == 0) = false := beq_eq_false_iff_ne.mpr c8; have c8b1 : ((t486.length : Int) != 0) = true := bne_iff_ne.mpr c8; have c8b2 : ¬ (t486 = []) := fun h_ => c8 (by rw [h_]; rfl); (first | rw [c8b0] | rw [c8b1] | (simp only [i64_w, i32_w]; rw [c8b0]) | skip); have H' := Aside0.mk H; clear H; obtain ⟨Ao10, co10, eo10⟩ := Kd.V_slice HO488.out; subst eo10; obtain ⟨Ao11, co11, eo11⟩ := Kd.V_slice HO491.out; subst eo11
   go_wp2
   go_meet
   case rel => exact ⟨_, (((t489.length : Int) == 0)), (by first | rfl | (simp; done) | (simp [*]; done)), H', ⟨by first | omega | exact Nat.le_refl _⟩, ⟨tv HO488⟩, ⟨tv HO491⟩, ⟨tb HB⟩⟩
 case rest =>
  clear HC5; (try clear c1); (try clear p2); (try clear c4); (try clear c5); (try clear c8); (try clear c8b0); (try clear c8b1); (try clear c8b2); obtain ⟨kq, x19_4, rfl, HA, HJ4, HO_0, HO_1, HB⟩ := hcut
  cases kq with
  | zero => exact absurd HA.out (by simp [nat_Mul.j0])
  | succ kj4 =>
   have H := HA.out; clear HA; simp only [nat_Mul.j0] at H
   by_cases c12 : x19_4 = true
   ·subst c12
    have H1 : (some ([] : List Int)) = some r := by rw [if_pos rfl] at H; exact H
    clear H; have H := H1; clear H1; obtain rfl := Option.some.inj H
    go_wp2
    go_ret
    exact ⟨_, ee, Kd.V_nil _ _ _ _ _, tb HB⟩
   ·replace c12 := Bool.eq_false_iff.mpr c12
    subst c12
    have H1 : (if 0 ≤ (wrap64 ((t486.length : Int) + (t489.length : Int))) then (if (wrap64 ((t486.length : Int) + (t489.length : Int)) : Int).toNat ≤ 70368744177664 then (nat_Mul.l0 kj4 t489 (List.replicate (wrap64 ((t486.length : Int) + (t489.length : Int)) : Int).toNat 0) t486 (t486.length : Int) 0) else (none)) else (none)) = some r := by rw [if_neg (show ¬ (false = true) by decide)] at H; exact H
    clear H; have H := H1; clear H1; obtain ⟨ji13, hji13⟩ : ∃ j_ : Int, (wrap64 ((t486.length : Int) + (t489.length : Int))) = j_ := ⟨_, rfl⟩
    replace H : (if 0 ≤ (ji13) then (if (ji13 : Int).toNat ≤ 70368744177664 then (nat_Mul.l0 kj4 t489 (List.replicate (ji13 : Int).toNat 0) t486 (t486.length : Int) 0) else (none)) else (none)) = some r := by first | (rw [hji13] at H; exact H) | (simp only [hji13] at H ⊢; exact H)
    have hji13w : (IntKind.i64.wrap ((t486.length : Int) + (t489.length : Int))) = ji13 := (i64_w _).trans hji13
    by_cases c14 : 0 ≤ (ji13)
    ·rw [if_pos c14] at H
     have c14b0 := eq_true c14; have c14b1 : decide (0 ≤ (ji13)) = true := decide_eq_true c14; clear c14
     by_cases c15 : (ji13 : Int).toNat ≤ 70368744177664
     ·rw [if_pos c15] at H
      have c15b0 := eq_true c15; have c15b1 : decide ((ji13 : Int).toNat ≤ 70368744177664) = true := decide_eq_true c15; clear c15; obtain ⟨y492, hy492⟩ : ∃ y_ : List Int, y_ = (List.replicate (ji13 : Int).toNat 0) := ⟨_, rfl⟩; replace H : (nat_Mul.l0 kj4 t489 y492 t486 (t486.length : Int) 0) = some r := ti hy492 H; have Ny492 := Aside0.mk hy492; clear hy492; have H' := Aside0.mk H; clear H; obtain ⟨Ao16, co16, eo16⟩ := Kd.V_slice HO_0.out; subst eo16; obtain ⟨Ao17, co17, eo17⟩ := Kd.V_slice HO_1.out; subst eo17
      go_wp2_with (first | ((with_reducible refine gate_dst (N := 25) rfl ?_); (try (refine gate_guard (by rfl) ?_; dsimp only)); refine Kd.R_make (Kd.int .u32) _ 70 rfl (N := 25) rfl 22 _ _ rfl ji13 rfl rfl Try.underlying22 (.int .u32 0) 4 info70 rfl (by decide) (by omega) 0 (ok := fun _ => True) (okp := fun _ => True) rfl (fun _ hk => hk) trivial (td) (Nat.le_trans (Nat.mul_le_mul_right _ (td : ji13.toNat ≤ 70368744177664)) (by omega)) (Below.refl _ _) (Nat.le_refl _) ?_; intro v493 w18 ho19 hb hg_ hnew_; clear hg_ hnew_; (first | rw [← Ny492.out] at ho19 | (simp only [Int.reduceToNat] at ho19; rw [← Ny492.out] at ho19)); have HO494 := rl (Kd.R_newM (M := fun k_ => (w.heap.size ≤ k_)) ho19 (below_size (tb HB)) (fun k_ h_ => h_)) HB; replace HO_0 := Aside0.mk (Kd.V_elder' (tv HO_0) (Kd.R_base ho19) hb); replace HO_1 := Aside0.mk (Kd.V_elder' (tv HO_1) (Kd.R_base ho19) hb); replace HB := bs HB hb; clear hb ho19))
      go_loopg [28] kj4 (fun kq v28 w' => ∃ (x5_2 : List Int) (x28_2 : Int), v28 = .int .i64 x28_2 ∧ Aside0 (nat_Mul.l0 kq t489 x5_2 t486 (t486.length : Int) x28_2 = some r) ∧ Aside0 (kq ≤ kj4) ∧ Aside0 (Kd.V (Kd.int .u32) 70 w' w.heap.size (fun k_ => ((P0_ k_ ∨ P1_ k_) ∨ w.heap.size ≤ k_) ∧ some k_ ≠ (v493 : Value).ownBlock) (.slice Ao17 t489.length co17) t489) ∧ Aside0 (Kd.R (Kd.int .u32) 70 w' w.heap.size (fun k_ => (w.heap.size ≤ k_)) v493 x5_2) ∧ Aside0 (Kd.V (Kd.int .u32) 70 w' w.heap.size (fun k_ => ((P0_ k_ ∨ P1_ k_) ∨ w.heap.size ≤ k_) ∧ some k_ ≠ (v493 : Value).ownBlock) (.slice Ao16 t486.length co16) t486) ∧ Aside0 (Below w.heap.size w w'))
      case atStart => exact ⟨(y492), (0), (by first | rfl | (simp; done) | (simp [*]; done)), H', ⟨Nat.le_refl _⟩, ⟨tv HO_1⟩, ⟨tm HO494⟩, ⟨tv HO_0⟩, ⟨tb HB⟩⟩
      case round =>
       clear H'; (try clear c1); (try clear p2); (try clear c4); (try clear c5); (try clear p6); (try clear c8); (try clear c8b0); (try clear c8b1); (try clear c8b2); (try clear c12); (try clear c14); (try clear c14b0); (try clear c14b1); (try clear c15); (try clear c15b0); (try clear c15b1); (try clear p2); obtain ⟨x5_2, x28_2, rfl, HA, HK2, HO_1, HO_5, HO_26, HB⟩ := hrel
       cases gk with
       | zero => exact absurd HA.out (by simp [nat_Mul.l0])
       | succ k2 =>
        have H := HA.out; clear HA; simp only [nat_Mul.l0] at H
        by_cases c20 : x28_2 < (t486.length : Int)
        ·rw [if_pos c20] at H
         have c20b0 : decide (x28_2 < (t486.length : Int)) = true := decide_eq_true c20; clear c20
         by_cases c21 : 0 ≤ x28_2
         ·rw [if_pos c21] at H
          have c21b0 : decide (0 ≤ x28_2) = true := decide_eq_true c21; clear c21
          by_cases c22 : x28_2 < (t486.length : Int)
          ·rw [if_pos c22] at H
           have c22b0 : decide (x28_2 < (t486.length : Int)) = true := decide_eq_true c22; clear c22; replace H := bi H; obtain ⟨t496, A230, H⟩ := H; have A23 := Aside0.mk A230; clear A230; have H' := Aside0.mk H; clear H; have p495 : 0 ≤ (x28_2 : Int) := td; have q495 : x28_2 < (t486.length : Int) := td; obtain ⟨ad495, e495, hx495_0⟩ := Kd.at_int (Kd.V_reads' HO_26.out).2.2 x28_2 p495 q495
           cases e495
           replace p495 := eq_true p495; replace q495 := eq_true q495; obtain ⟨Ao24, co24, eo24⟩ := Kd.R_slice HO_5.out; subst eo24
           go_wp2_with (first | ((with_reducible refine gate_callee (f := 65) rfl ?_); refine gL (N := some 37) Try.func65 #[.slice Ao24 x5_2.length co24, .int .i64 x28_2, .int .u32 (rd t486 x28_2), .slice Ao17 t489.length co17] ?_; (with_reducible refine (nat_addTo.calls k2 (fun k_ => some k_ = (.slice Ao24 x5_2.length co24 : Value).ownBlock) (.slice Ao24 x5_2.length co24) x5_2 x28_2 (rd t486 x28_2) _ _ t489 t496 w _ ?side1 ?side2 ?side3 ?side4 A23.out).mono ?_); (case side1 => exact tb HB); (case side2 => exact Kd.R_tight rfl HO_5.out); (case side3 => exact Kd.C_kept_ownV (HO_1.out) (fun k_ hk_ hs_ => (hk_.2) hs_)); (case side4 => exact (Kd.V_reads' HO_1.out).2.1); rintro e w25 ⟨rfl, hy0, hb, hkp⟩; refine ⟨_, rfl, ?_⟩; replace HO_1 := Aside0.mk (Kd.V_mono (ok' := fun k_ => ((P0_ k_ ∨ P1_ k_) ∨ w.heap.size ≤ k_) ∧ some k_ ≠ (.slice Ao24 x5_2.length co24 : Value).ownBlock) (Kd.V_keptB (HO_1.out) hkp (fun k_ hk_ hs_ => (hk_.2) hs_)) (fun k_ hk_ => ⟨hk_.1.1, hk_.1.2⟩)); replace HO_5 := Aside0.mk (Kd.R_reok rfl hy0 (fun k_ e_ => HO_5.out.1 k_ e_)); replace HO_26 := Aside0.mk (Kd.V_mono (ok' := fun k_ => ((P0_ k_ ∨ P1_ k_) ∨ w.heap.size ≤ k_) ∧ some k_ ≠ (.slice Ao24 x5_2.length co24 : Value).ownBlock) (Kd.V_keptB (HO_26.out) hkp (fun k_ hk_ hs_ => (hk_.2) hs_)) (fun k_ hk_ => ⟨hk_.1.1, hk_.1.2⟩)); replace HB := Aside0.mk (hb); (try clear hb); (try clear hkp); (try clear hy0)))
           go_roundg k2
           case measure => have := HJ4.out; have := HK2.out; omega
           case rel => exact ⟨(t496), (wrap64 (x28_2 + 1)), (by first | rfl | (simp; done) | (simp [*]; done)), H', ⟨by have := HJ4.out; have := HK2.out; omega⟩, ⟨tv HO_1⟩, ⟨tq HO_5⟩, ⟨tv HO_26⟩, ⟨tb HB⟩⟩
          ·rw [if_neg c22] at H
           exact absurd H (by simp)
         ·rw [if_neg c21] at H
          exact absurd H (by simp)
        ·rw [if_neg c20] at H
         have c20b0 : decide (x28_2 < (t486.length : Int)) = false := decide_eq_false c20; clear c20; replace H := bi H; obtain ⟨t497, A260, H⟩ := H; have A26 := Aside0.mk A260; clear A260; obtain rfl := Option.some.inj H; obtain ⟨Ao27, co27, eo27⟩ := Kd.R_slice HO_5.out; subst eo27
         go_wp2_with (first | ((with_reducible refine gate_callee (f := 40) rfl ?_); refine gL (N := some 40) Try.func40 #[.slice Ao27 x5_2.length co27] ?_; (with_reducible refine (nat_trim.calls k2 (fun k_ => some k_ = (.slice Ao27 x5_2.length co27 : Value).ownBlock) _ _ x5_2 t497 _ ?side1 A26.out).mono ?_); (case side1 => exact Kd.R_V (Kd.R_tight rfl (HO_5.out))); rintro e w28 ⟨v498, rfl, ho0, hb⟩; refine ⟨_, rfl, ?_⟩; have HO499 := Aside0.mk (Kd.V_lower (Kd.V_mono (ok' := fun k_ => ((P0_ k_ ∨ P1_ k_) ∨ w.heap.size ≤ k_)) ho0 (fun k_ hk_ => Or.elim hk_ (fun hs_ => (.inr (((HO_5.out).1 k_ hs_.symm)))) (fun hn_ => (.inr (Nat.le_trans (below_size (tb HB)) hn_))))) (below_size (tb HB))); replace HB := bs HB hb; (try clear hb); (try clear ho0)))
         go_ret
         exact ⟨_, by first | rfl | (simp [errW_none, errW_some] <;> rfl) | (simp only [← hji13]; first | rfl | (simp [errW_none, errW_some] <;> rfl)) | (simp [*, errW_none, errW_some] <;> rfl), tv HO499, tb HB⟩
     ·rw [if_neg c15] at H
      exact absurd H (by simp)
    ·rw [if_neg c14] at H
     exact absurd H (by simp)

end Go.Proofs.Ytkbefeadmchmbaa.QBigQuotients
