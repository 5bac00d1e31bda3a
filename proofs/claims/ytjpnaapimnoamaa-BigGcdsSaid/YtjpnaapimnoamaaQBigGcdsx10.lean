-- written by wip/wprint, a program of this session
import Derived.Test.YtjpnaapimnoamaaQBigGcdsx0
import Derived.Test.YtjpnaapimnoamaaQBigGcdsx1
import Derived.Test.YtjpnaapimnoamaaQBigGcdsx4
import Derived.Test.YtjpnaapimnoamaaQBigGcdsx9
namespace Go.Proofs.Ytjpnaapimnoamaa.QBigGcds
open Go.RowKit Go.Proofs.YtjpnaapimnoamaaW.PrintWords Go.Proofs.YtjpnaapimnoamaaW.PrintLast Go.Proofs.YtjpnaapimnoamaaW.PrintMore
open Go.Proofs.YtjpnaapimnoamaaW.PrintWords.Kd renaming R_alloc → qa, R_drewN → qn, R_drew → qd, V_alloc → va, V_drewN → vn, V_drew → vd
open Go.Proofs.YtjpnaapimnoamaaW.PrintWords renaming below_alloc → ba, pw_below_drewN → bn, below_drew1 → bd
attribute [local go_sem] max2_int min2_int max_two min_two max_three min_three max_four min_four   -- for this text's walks alone
set_option linter.unusedVariables false
set_option linter.unusedSimpArgs false

/-! ### nat_Sub: function 61 -/
def nat_Sub.l0 : Nat → List Int → List Int → List Int → Int → Int → Int → Option (List Int × Int)
 | 0, _, _, _, _, _, _ => none
 | k + 1, x0, x1, x6, x7, x22, x23 => if x23 < x22 then (if x23 < (x1.length : Int) then (if 0 ≤ x23 then (if x23 < (x0.length : Int) then ((bits_Sub32.f (rd x0 x23) (rd x1 x23) x7).bind fun bt344 => (if x23 < (x6.length : Int) then (nat_Sub.l0 k x0 x1 (x6.set (x23 : Int).toNat bt344.1) bt344.2 x22 (wrap64 (x23 + 1))) else (none))) else (none)) else (none)) else (if 0 ≤ x23 then (if x23 < (x0.length : Int) then ((bits_Sub32.f (rd x0 x23) 0 x7).bind fun bt348 => (if x23 < (x6.length : Int) then (nat_Sub.l0 k x0 x1 (x6.set (x23 : Int).toNat bt348.1) bt348.2 x22 (wrap64 (x23 + 1))) else (none))) else (none)) else (none))) else ((nat_trim.f k x6).bind fun t351 => (some (t351, 0)))
def nat_Sub.f (k : Nat) (l0 : List Int) (l1 : List Int) : Option (List Int × Int) := (nat_Cmp.f k l0 l1).bind fun t332 => (if t332 < 0 then (some (([] : List Int), 5)) else ((nat_trim.f k l0).bind fun t333 => ((nat_trim.f k l1).bind fun t336 => (if 0 ≤ (t333.length : Int) then (if ((t333.length : Int) : Int).toNat ≤ 70368744177664 then (nat_Sub.l0 k t333 t336 (List.replicate ((t333.length : Int) : Int).toNat 0) 0 (t333.length : Int) 0) else (none)) else (none)))))
theorem nat_Sub.mono_l : ∀ k, (∀ y0 y1 y2 y3 y4 y5, LeO (nat_Sub.l0 k y0 y1 y2 y3 y4 y5) (nat_Sub.l0 (k + 1) y0 y1 y2 y3 y4 y5))
 | 0 => fun _ _ _ _ _ _ r h => by simp [nat_Sub.l0] at h
 | k + 1 => by
  have ih0 := nat_Sub.mono_l k
  ·intro y0 y1 y2 y3 y4 y5
   unfold nat_Sub.l0
   repeat' with_reducible first | exact ih0 _ _ _ _ _ _ | exact nat_Cmp.mono _ _ _ | exact nat_trim.mono _ _ | exact LeO.refl _ | exact LeO.none _ | refine LeO.ite ?_ ?_ | refine LeO.bind ?_ (fun _ => ?_)
theorem nat_Sub.mono : ∀ a0 a1 k, LeO (nat_Sub.f k a0 a1) (nat_Sub.f (k + 1) a0 a1) := by
 intro a0 a1 k
 have ih0 := nat_Sub.mono_l k
 unfold nat_Sub.f
 repeat' with_reducible first | exact ih0 _ _ _ _ _ _ | exact nat_Cmp.mono _ _ _ | exact nat_trim.mono _ _ | exact LeO.refl _ | exact LeO.none _ | refine LeO.ite ?_ ?_ | refine LeO.bind ?_ (fun _ => ?_)
set_option maxHeartbeats 8000000 in
set_option maxRecDepth 100000 in
theorem nat_Sub.calls (k : Nat) (P0_ : Nat → Prop) (A0 : Option Addr) (c0 : Nat) (l0 : List Int) (P1_ : Nat → Prop) (A1 : Option Addr) (c1 : Nat) (l1 : List Int) (r1 : List Int) (r2 : Int) (w : World) (hs0 : Kd.V (Kd.int .u32) 87 w w.heap.size (fun k_ => P0_ k_) (.slice A0 l0.length c0) l0) (hs1 : Kd.V (Kd.int .u32) 87 w w.heap.size (fun k_ => P1_ k_) (.slice A1 l1.length c1) l1) (h : nat_Sub.f k l0 l1 = some (r1, r2)) :
  Calls Try.prog 61 #[.slice A0 l0.length c0, .slice A1 l1.length c1] w fun e w' => ∃ v0_ : Value, e = .returned (.tuple #[v0_, .int .i64 r2]) ∧ Kd.V (Kd.int .u32) 87 w' w.heap.size (fun k_ => ((P0_ k_ ∨ P1_ k_) ∨ w.heap.size ≤ k_)) v0_ r1 ∧ Below w.heap.size w w' := by
 have HO0 := Aside0.mk (show Kd.V (Kd.int .u32) 87 w w.heap.size (fun k_ => ((P0_ k_ ∨ P1_ k_) ∨ w.heap.size ≤ k_)) (.slice A0 l0.length c0) l0 from Kd.V_mono hs0 (fun k_ hk => .inl (.inl hk)))
 have HO1 := Aside0.mk (show Kd.V (Kd.int .u32) 87 w w.heap.size (fun k_ => ((P0_ k_ ∨ P1_ k_) ∨ w.heap.size ≤ k_)) (.slice A1 l1.length c1) l1 from Kd.V_mono hs1 (fun k_ hk => .inl (.inr hk)))
 have HB := Aside0.mk (Below.refl w.heap.size w)
 have H : ((nat_Cmp.f k l0 l1).bind fun t332 => (if t332 < 0 then (some (([] : List Int), 5)) else ((nat_trim.f k l0).bind fun t333 => ((nat_trim.f k l1).bind fun t336 => (if 0 ≤ (t333.length : Int) then (if ((t333.length : Int) : Int).toNat ≤ 70368744177664 then (nat_Sub.l0 k t333 t336 (List.replicate ((t333.length : Int) : Int).toNat 0) 0 (t333.length : Int) 0) else (none)) else (none)))))) = some (r1, r2) := h
 clear h
 replace H := bi H
 obtain ⟨t332, A30, H⟩ := H
 have A3 := Aside0.mk A30
 clear A30
 by_cases c4 : t332 < 0
 ·rw [if_pos c4] at H
  have c4b0 : decide (t332 < 0) = true := decide_eq_true c4
  clear c4
  simp only [Option.some.injEq, Prod.mk.injEq] at H
  obtain ⟨rfl, rfl⟩ := H
  go_enter Try.func61, Try.ntmps61
  go_wp2_with (first | ((with_reducible refine gate_callee (f := 65) rfl ?_); refine gL (N := some 12) Try.func65 #[.slice A0 l0.length c0, .slice A1 l1.length c1] ?_; (with_reducible refine (nat_Cmp.calls k _ _ l0 _ _ l1 t332 _ ?side1 ?side2 ?side3 ?side4 A3.out).mono ?_); (case side1 => exact tc (Kd.V_reads' HO0.out).2.2); (case side2 => exact (Kd.V_reads' HO0.out).2.1); (case side3 => exact tc (Kd.V_reads' HO1.out).2.2); (case side4 => exact (Kd.V_reads' HO1.out).2.1); rintro e w5 ⟨rfl, hb⟩; refine ⟨_, rfl, ?_⟩; replace HB := bs HB hb; (try clear hb); (try clear hb2); (try clear hk); (try clear hi)))
  go_ret2
  exact ⟨_, by first | rfl | (simp [errW_none, errW_some] <;> rfl) | (simp [*, errW_none, errW_some] <;> rfl), Kd.V_nil _ _ _ _ _, tb HB⟩
 ·rw [if_neg c4] at H
  have c4b0 : decide (t332 < 0) = false := decide_eq_false c4
  clear c4
  replace H := bi H
  obtain ⟨t333, A60, H⟩ := H
  have A6 := Aside0.mk A60
  clear A60
  replace H := bi H
  obtain ⟨t336, A70, H⟩ := H
  have A7 := Aside0.mk A70
  clear A70
  by_cases c8 : 0 ≤ (t333.length : Int)
  ·rw [if_pos c8] at H
   have c8b0 := eq_true c8
   have c8b1 : decide (0 ≤ (t333.length : Int)) = true := decide_eq_true c8
   clear c8
   by_cases c9 : ((t333.length : Int) : Int).toNat ≤ 70368744177664
   ·rw [if_pos c9] at H
    have c9b0 := eq_true c9
    have c9b1 : decide (((t333.length : Int) : Int).toNat ≤ 70368744177664) = true := decide_eq_true c9
    clear c9
    obtain ⟨y339, hy339⟩ : ∃ y_ : List Int, y_ = (List.replicate ((t333.length : Int) : Int).toNat 0) := ⟨_, rfl⟩
    replace H : (nat_Sub.l0 k t333 t336 y339 0 (t333.length : Int) 0) = some (r1, r2) := by first | (rw [hy339]; with_reducible exact H) | (have H2_ := (Option.bind_some _ _).symm.trans H; rw [hy339]; with_reducible exact H2_) | (have H2_ := (Option.bind_some _ _).symm.trans H; with_reducible exact H2_) | with_reducible exact H | (rw [hy339]; exact H) | exact H
    have Ny339 := Aside0.mk hy339
    clear hy339
    have H' := Aside0.mk H
    clear H
    go_enter Try.func61, Try.ntmps61
    go_wp2_with (first | ((with_reducible refine gate_callee (f := 65) rfl ?_); refine gL (N := some 12) Try.func65 #[.slice A0 l0.length c0, .slice A1 l1.length c1] ?_; (with_reducible refine (nat_Cmp.calls k _ _ l0 _ _ l1 t332 _ ?side1 ?side2 ?side3 ?side4 A3.out).mono ?_); (case side1 => exact tc (Kd.V_reads' HO0.out).2.2); (case side2 => exact (Kd.V_reads' HO0.out).2.1); (case side3 => exact tc (Kd.V_reads' HO1.out).2.2); (case side4 => exact (Kd.V_reads' HO1.out).2.1); rintro e w10 ⟨rfl, hb⟩; refine ⟨_, rfl, ?_⟩; replace HO0 := vb HO0 hb; replace HO1 := vb HO1 hb; replace HB := bs HB hb; (try clear hb); (try clear hb2); (try clear hk); (try clear hi)) | ((with_reducible refine gate_callee (f := 81) rfl ?_); refine gL (N := some 15) Try.func81 #[.slice A0 l0.length c0] ?_; (with_reducible refine (nat_trim.calls k (fun k_ => ((P0_ k_ ∨ P1_ k_) ∨ w.heap.size ≤ k_)) _ _ l0 t333 _ ?side1 A6.out).mono ?_); (case side1 => exact HO0.out); rintro e w11 ⟨v334, rfl, ho0, hb⟩; refine ⟨_, rfl, ?_⟩; have HO335 := Aside0.mk (Kd.V_lower (Kd.V_mono (ok' := fun k_ => ((P0_ k_ ∨ P1_ k_) ∨ w.heap.size ≤ k_)) ho0 (fun k_ hk_ => Or.elim hk_ (fun hs_ => hs_) (fun hn_ => (.inr (Nat.le_trans (below_size (tb HB)) hn_))))) (below_size (tb HB))); replace HO1 := vb HO1 hb; replace HB := bs HB hb; (try clear hb); (try clear hb2); (try clear hk); (try clear hi); (try clear ho0)) | ((with_reducible refine gate_callee (f := 81) rfl ?_); refine gL (N := some 17) Try.func81 #[.slice A1 l1.length c1] ?_; (with_reducible refine (nat_trim.calls k (fun k_ => ((P0_ k_ ∨ P1_ k_) ∨ w.heap.size ≤ k_)) _ _ l1 t336 _ ?side1 A7.out).mono ?_); (case side1 => exact HO1.out); rintro e w12 ⟨v337, rfl, ho0, hb⟩; refine ⟨_, rfl, ?_⟩; have HO338 := Aside0.mk (Kd.V_lower (Kd.V_mono (ok' := fun k_ => ((P0_ k_ ∨ P1_ k_) ∨ w.heap.size ≤ k_)) ho0 (fun k_ hk_ => Or.elim hk_ (fun hs_ => hs_) (fun hn_ => (.inr (Nat.le_trans (below_size (tb HB)) hn_))))) (below_size (tb HB))); replace HO335 := vb HO335 hb; replace HB := bs HB hb; (try clear hb); (try clear hb2); (try clear hk); (try clear hi); (try clear ho0); obtain ⟨Ao13, co13, eo13⟩ := Kd.V_slice HO335.out; subst eo13) | ((with_reducible refine gate_dst (N := 20) rfl ?_); refine Kd.R_make (Kd.int .u32) _ 87 rfl (N := 20) rfl 22 _ _ rfl (t333.length : Int) rfl rfl Try.underlying22 (.int .u32 0) 4 info87 rfl (by decide) (by omega) 0 (ok := fun _ => True) (okp := fun _ => True) rfl (fun _ hk => hk) trivial (td) (Nat.le_trans (Nat.mul_le_mul_right _ (td : (t333.length : Int).toNat ≤ 70368744177664)) (by omega)) (Below.refl _ _) (Nat.le_refl _) ?_; intro v340 w14 ho15 hb hg_ hnew_; clear hg_ hnew_; (first | rw [← Ny339.out] at ho15 | (simp only [Int.reduceToNat] at ho15; rw [← Ny339.out] at ho15)); have HO341 := Aside0.mk (Kd.R_lower (Kd.R_newM (M := fun k_ => (w.heap.size ≤ k_)) ho15 (below_size (tb HB)) (fun k_ h_ => h_)) (below_size (tb HB))); replace HO335 := Aside0.mk (Kd.V_elder' (tv HO335) (Kd.R_base ho15) hb); replace HO338 := Aside0.mk (Kd.V_elder' (tv HO338) (Kd.R_base ho15) hb); replace HB := bs HB hb; clear hb ho15))
    go_loopg [7, 23] k (fun kq v7 v23 w' => ∃ (x6_1 : List Int) (x7_1 : Int) (x23_1 : Int), v7 = .int .u32 x7_1 ∧ v23 = .int .i64 x23_1 ∧ Aside0 (nat_Sub.l0 kq t333 t336 x6_1 x7_1 (t333.length : Int) x23_1 = some (r1, r2)) ∧ Aside0 (kq ≤ k) ∧ Aside0 (Kd.V (Kd.int .u32) 87 w' w.heap.size (fun k_ => ((P0_ k_ ∨ P1_ k_) ∨ w.heap.size ≤ k_) ∧ some k_ ≠ (v340 : Value).ownBlock) (.slice Ao13 t333.length co13) t333) ∧ Aside0 (Kd.V (Kd.int .u32) 87 w' w.heap.size (fun k_ => ((P0_ k_ ∨ P1_ k_) ∨ w.heap.size ≤ k_) ∧ some k_ ≠ (v340 : Value).ownBlock) v337 t336) ∧ Aside0 (Kd.R (Kd.int .u32) 87 w' w.heap.size (fun k_ => (w.heap.size ≤ k_)) v340 x6_1) ∧ Aside0 (Below w.heap.size w w'))
    case atStart => exact ⟨(y339), (0), (0), (by first | rfl | (simp; done) | (simp [*]; done)), (by first | rfl | (simp; done) | (simp [*]; done)), H', ⟨Nat.le_refl _⟩, ⟨tv HO335⟩, ⟨tv HO338⟩, ⟨by (with_reducible repeat first | apply qa | apply qn | apply qd); exact Kd.R_mono HO341.out (fun _ hk => hk.1)⟩, ⟨tb HB⟩⟩
    case round =>
     clear H'
     (try clear c1); (try clear p2); (try clear c4); (try clear c4b0); (try clear c6); (try clear c8); (try clear c8b0); (try clear c8b1); (try clear c9); (try clear c9b0); (try clear c9b1)
     obtain ⟨x6_1, x7_1, x23_1, rfl, rfl, HA, HK1, HO_0, HO_1, HO_6, HB⟩ := hrel
     cases gk with
     | zero => exact absurd HA.out (by simp [nat_Sub.l0])
     | succ k1 =>
      have H := HA.out
      clear HA
      simp only [nat_Sub.l0] at H
      by_cases c16 : x23_1 < (t333.length : Int)
      ·rw [if_pos c16] at H
       have c16b0 : decide (x23_1 < (t333.length : Int)) = true := decide_eq_true c16
       clear c16
       by_cases c17 : x23_1 < (t336.length : Int)
       ·rw [if_pos c17] at H
        have c17b0 : decide (x23_1 < (t336.length : Int)) = true := decide_eq_true c17
        clear c17
        by_cases c18 : 0 ≤ x23_1
        ·rw [if_pos c18] at H
         have c18b0 : decide (0 ≤ x23_1) = true := decide_eq_true c18
         clear c18
         by_cases c19 : x23_1 < (t333.length : Int)
         ·rw [if_pos c19] at H
          have c19b0 : decide (x23_1 < (t333.length : Int)) = true := decide_eq_true c19
          clear c19
          replace H := bi H
          obtain ⟨⟨t344, t345⟩, A200, H⟩ := H
          try dsimp only at H
          have A20 := Aside0.mk A200
          clear A200
          by_cases c21 : x23_1 < (x6_1.length : Int)
          ·rw [if_pos c21] at H
           have c21b0 : decide (x23_1 < (x6_1.length : Int)) = true := decide_eq_true c21
           clear c21
           obtain ⟨y346, hy346⟩ : ∃ y_ : List Int, y_ = (x6_1.set (x23_1 : Int).toNat t344) := ⟨_, rfl⟩
           replace H : (nat_Sub.l0 k1 t333 t336 y346 t345 (t333.length : Int) (wrap64 (x23_1 + 1))) = some (r1, r2) := by first | (rw [hy346]; with_reducible exact H) | (have H2_ := (Option.bind_some _ _).symm.trans H; rw [hy346]; with_reducible exact H2_) | (have H2_ := (Option.bind_some _ _).symm.trans H; with_reducible exact H2_) | with_reducible exact H | (rw [hy346]; exact H) | exact H
           have Ny346 := Aside0.mk hy346
           clear hy346
           have H' := Aside0.mk H
           clear H
           obtain ⟨Ao23, co23, eo23⟩ := Kd.V_slice HO_1.out
           subst eo23
           have p342 : 0 ≤ (x23_1 : Int) := td
           have q342 : x23_1 < (t336.length : Int) := td
           obtain ⟨ad342, e342, hx342_0⟩ := Kd.at_int (Kd.V_reads' HO_1.out).2.2 x23_1 p342 q342
           cases e342
           replace p342 := eq_true p342
           replace q342 := eq_true q342
           have p343 : 0 ≤ (x23_1 : Int) := td
           have q343 : x23_1 < (t333.length : Int) := td
           obtain ⟨ad343, e343, hx343_0⟩ := Kd.at_int (Kd.V_reads' HO_0.out).2.2 x23_1 p343 q343
           cases e343
           replace p343 := eq_true p343
           replace q343 := eq_true q343
           go_wp2_with (first | ((with_reducible refine gate_callee (f := 82) rfl ?_); refine gL (N := some 43) Try.func82 #[.int .u32 (rd t333 x23_1), .int .u32 (rd t336 x23_1), .int .u32 x7_1] ?_; (with_reducible refine (bits_Sub32.calls (rd t333 x23_1) (rd t336 x23_1) x7_1 t344 t345 _ A20.out).mono ?_); rintro e w' ⟨rfl, ⟨nd, rfl⟩⟩; refine ⟨_, rfl, ?_⟩; (try (rw [drewN_self wr]; generalize hq_ : World.drewN wr _ = wr; have n0_ : Aside0 (Kd.V (Kd.int .u32) 87 wr w.heap.size (fun k_ => ((P0_ k_ ∨ P1_ k_) ∨ w.heap.size ≤ k_) ∧ some k_ ≠ (v340 : Value).ownBlock) (.slice (some ad343) t333.length co13) t333) := ⟨by rw [← hq_]; exact (tv HO_0)⟩; have n1_ : Aside0 (Kd.V (Kd.int .u32) 87 wr w.heap.size (fun k_ => ((P0_ k_ ∨ P1_ k_) ∨ w.heap.size ≤ k_) ∧ some k_ ≠ (v340 : Value).ownBlock) (.slice (some ad342) t336.length co23) t336) := ⟨by rw [← hq_]; exact (tv HO_1)⟩; have n2_ : Aside0 (Kd.R (Kd.int .u32) 87 wr w.heap.size (fun k_ => (w.heap.size ≤ k_)) v340 x6_1) := ⟨by rw [← hq_]; exact (tq HO_6)⟩; have n3_ : Aside0 (Below w.heap.size w wr) := ⟨by rw [← hq_]; exact (tb HB)⟩; clear HO_0 HO_1 HO_6 HB hq_; have HO_0 := n0_; have HO_1 := n1_; have HO_6 := n2_; have HB := n3_; clear n0_ n1_ n2_ n3_)); have p22 : 0 ≤ (x23_1 : Int) := td; have q22 : (x23_1 : Int) < ((x6_1.length : Int) : Int) := td; obtain ⟨go22, co22, eo22, gb22, gl22, cl22, HG22⟩ := Kd.R_form HO_6.out (by omega); (first | cases eo22 | (injection eo22 with ea_ en_ ec_; (first | subst ea_ | (injection ea_ with ea_; subst ea_)); subst ec_; clear en_)); have GB22 := Aside0.mk gb22; have GG22 := Aside0.mk HG22; clear gb22 gl22 HG22; obtain ⟨hx22_0, hf22_0⟩ := Kd.R_celln 0 HO_6.out (x23_1 : Int) p22 q22; replace p22 := eq_true p22; replace q22 := eq_true q22; obtain ⟨hy24_, hz24_⟩ := Kd.R_celln 0 HO_6.out (x23_1 : Int) (td) (td); have HP24 := Kd.R_putg HO_6.out (x23_1 : Int) t344) | ((with_reducible refine gate_store (t := 87) (p := 46) rfl ?_); refine store_event (t := 87) (p := 46) (v := ?vo_w25) (w1 := (wr.setCell ⟨go22, (x23_1 : Int).toNat, none⟩ (.int .u32 t344))) ?hg ?ho ?hn ?hr ?_; (case ho => rfl); (case hg => rfl); (case hn => rfl); (case hr => first | (go_simp; done) | (go_simp; rfl)); intro w25 hw; have hg : wr.grownBy w25 (some go22) := (by rw [hw]; exact HP24.2); have hp_ : Kd.R (Kd.int .u32) 87 w25 w.heap.size (fun k_ => (w.heap.size ≤ k_)) (.slice (some ⟨go22, 0, none⟩) x6_1.length co22) y346 := (by rw [hw, Ny346.out]; exact HP24.1); clear HP24; replace HO_0 := Aside0.mk (Kd.V_afterv (v := (.slice (some ⟨go22, 0, none⟩) x6_1.length co22)) (v1 := (.slice (some ⟨go22, 0, none⟩) x6_1.length co22)) (ok := (fun k_ => ((P0_ k_ ∨ P1_ k_) ∨ w.heap.size ≤ k_))) (tv HO_0) hg (.inl rfl)); replace HO_1 := Aside0.mk (Kd.V_afterv (v := (.slice (some ⟨go22, 0, none⟩) x6_1.length co22)) (v1 := (.slice (some ⟨go22, 0, none⟩) x6_1.length co22)) (ok := (fun k_ => ((P0_ k_ ∨ P1_ k_) ∨ w.heap.size ≤ k_))) (tv HO_1) hg (.inl rfl)); replace HO_6 := Aside0.mk (hp_); replace HB := Aside0.mk ((by rw [hw]; exact below_set (HB.out) GB22.out : Below w.heap.size w w25)); clear hg hw hp_))
           go_roundg k1
           case measure => have := HK1.out; omega
           case rel => exact ⟨(y346), (t345), (wrap64 (x23_1 + 1)), (by first | rfl | (simp; done) | (simp [*]; done)), (by first | rfl | (simp; done) | (simp [*]; done)), H', ⟨by have := HK1.out; omega⟩, ⟨tv HO_0⟩, ⟨tv HO_1⟩, ⟨tq HO_6⟩, ⟨tb HB⟩⟩
          ·rw [if_neg c21] at H
           exact absurd H (by simp)
         ·rw [if_neg c19] at H
          exact absurd H (by simp)
        ·rw [if_neg c18] at H
         exact absurd H (by simp)
       ·rw [if_neg c17] at H
        have c17b0 : decide (x23_1 < (t336.length : Int)) = false := decide_eq_false c17
        clear c17
        by_cases c26 : 0 ≤ x23_1
        ·rw [if_pos c26] at H
         have c26b0 : decide (0 ≤ x23_1) = true := decide_eq_true c26
         clear c26
         by_cases c27 : x23_1 < (t333.length : Int)
         ·rw [if_pos c27] at H
          have c27b0 : decide (x23_1 < (t333.length : Int)) = true := decide_eq_true c27
          clear c27
          replace H := bi H
          obtain ⟨⟨t348, t349⟩, A280, H⟩ := H
          try dsimp only at H
          have A28 := Aside0.mk A280
          clear A280
          by_cases c29 : x23_1 < (x6_1.length : Int)
          ·rw [if_pos c29] at H
           have c29b0 : decide (x23_1 < (x6_1.length : Int)) = true := decide_eq_true c29
           clear c29
           obtain ⟨y350, hy350⟩ : ∃ y_ : List Int, y_ = (x6_1.set (x23_1 : Int).toNat t348) := ⟨_, rfl⟩
           replace H : (nat_Sub.l0 k1 t333 t336 y350 t349 (t333.length : Int) (wrap64 (x23_1 + 1))) = some (r1, r2) := by first | (rw [hy350]; with_reducible exact H) | (have H2_ := (Option.bind_some _ _).symm.trans H; rw [hy350]; with_reducible exact H2_) | (have H2_ := (Option.bind_some _ _).symm.trans H; with_reducible exact H2_) | with_reducible exact H | (rw [hy350]; exact H) | exact H
           have Ny350 := Aside0.mk hy350
           clear hy350
           have H' := Aside0.mk H
           clear H
           obtain ⟨Ao31, co31, eo31⟩ := Kd.V_slice HO_1.out
           subst eo31
           have p347 : 0 ≤ (x23_1 : Int) := td
           have q347 : x23_1 < (t333.length : Int) := td
           obtain ⟨ad347, e347, hx347_0⟩ := Kd.at_int (Kd.V_reads' HO_0.out).2.2 x23_1 p347 q347
           cases e347
           replace p347 := eq_true p347
           replace q347 := eq_true q347
           go_wp2_with (first | ((with_reducible refine gate_callee (f := 82) rfl ?_); refine gL (N := some 43) Try.func82 #[.int .u32 (rd t333 x23_1), .int .u32 0, .int .u32 x7_1] ?_; (with_reducible refine (bits_Sub32.calls (rd t333 x23_1) 0 x7_1 t348 t349 _ A28.out).mono ?_); rintro e w' ⟨rfl, ⟨nd, rfl⟩⟩; refine ⟨_, rfl, ?_⟩; (try (rw [drewN_self wr]; generalize hq_ : World.drewN wr _ = wr; have n0_ : Aside0 (Kd.V (Kd.int .u32) 87 wr w.heap.size (fun k_ => ((P0_ k_ ∨ P1_ k_) ∨ w.heap.size ≤ k_) ∧ some k_ ≠ (v340 : Value).ownBlock) (.slice (some ad347) t333.length co13) t333) := ⟨by rw [← hq_]; exact (tv HO_0)⟩; have n1_ : Aside0 (Kd.V (Kd.int .u32) 87 wr w.heap.size (fun k_ => ((P0_ k_ ∨ P1_ k_) ∨ w.heap.size ≤ k_) ∧ some k_ ≠ (v340 : Value).ownBlock) (.slice Ao31 t336.length co31) t336) := ⟨by rw [← hq_]; exact (tv HO_1)⟩; have n2_ : Aside0 (Kd.R (Kd.int .u32) 87 wr w.heap.size (fun k_ => (w.heap.size ≤ k_)) v340 x6_1) := ⟨by rw [← hq_]; exact (tq HO_6)⟩; have n3_ : Aside0 (Below w.heap.size w wr) := ⟨by rw [← hq_]; exact (tb HB)⟩; clear HO_0 HO_1 HO_6 HB hq_; have HO_0 := n0_; have HO_1 := n1_; have HO_6 := n2_; have HB := n3_; clear n0_ n1_ n2_ n3_)); have p30 : 0 ≤ (x23_1 : Int) := td; have q30 : (x23_1 : Int) < ((x6_1.length : Int) : Int) := td; obtain ⟨go30, co30, eo30, gb30, gl30, cl30, HG30⟩ := Kd.R_form HO_6.out (by omega); (first | cases eo30 | (injection eo30 with ea_ en_ ec_; (first | subst ea_ | (injection ea_ with ea_; subst ea_)); subst ec_; clear en_)); have GB30 := Aside0.mk gb30; have GG30 := Aside0.mk HG30; clear gb30 gl30 HG30; obtain ⟨hx30_0, hf30_0⟩ := Kd.R_celln 0 HO_6.out (x23_1 : Int) p30 q30; replace p30 := eq_true p30; replace q30 := eq_true q30; obtain ⟨hy32_, hz32_⟩ := Kd.R_celln 0 HO_6.out (x23_1 : Int) (td) (td); have HP32 := Kd.R_putg HO_6.out (x23_1 : Int) t348) | ((with_reducible refine gate_store (t := 87) (p := 46) rfl ?_); refine store_event (t := 87) (p := 46) (v := ?vo_w33) (w1 := (wr.setCell ⟨go30, (x23_1 : Int).toNat, none⟩ (.int .u32 t348))) ?hg ?ho ?hn ?hr ?_; (case ho => rfl); (case hg => rfl); (case hn => rfl); (case hr => first | (go_simp; done) | (go_simp; rfl)); intro w33 hw; have hg : wr.grownBy w33 (some go30) := (by rw [hw]; exact HP32.2); have hp_ : Kd.R (Kd.int .u32) 87 w33 w.heap.size (fun k_ => (w.heap.size ≤ k_)) (.slice (some ⟨go30, 0, none⟩) x6_1.length co30) y350 := (by rw [hw, Ny350.out]; exact HP32.1); clear HP32; replace HO_0 := Aside0.mk (Kd.V_afterv (v := (.slice (some ⟨go30, 0, none⟩) x6_1.length co30)) (v1 := (.slice (some ⟨go30, 0, none⟩) x6_1.length co30)) (ok := (fun k_ => ((P0_ k_ ∨ P1_ k_) ∨ w.heap.size ≤ k_))) (tv HO_0) hg (.inl rfl)); replace HO_1 := Aside0.mk (Kd.V_afterv (v := (.slice (some ⟨go30, 0, none⟩) x6_1.length co30)) (v1 := (.slice (some ⟨go30, 0, none⟩) x6_1.length co30)) (ok := (fun k_ => ((P0_ k_ ∨ P1_ k_) ∨ w.heap.size ≤ k_))) (tv HO_1) hg (.inl rfl)); replace HO_6 := Aside0.mk (hp_); replace HB := Aside0.mk ((by rw [hw]; exact below_set (HB.out) GB30.out : Below w.heap.size w w33)); clear hg hw hp_))
           go_roundg k1
           case measure => have := HK1.out; omega
           case rel => exact ⟨(y350), (t349), (wrap64 (x23_1 + 1)), (by first | rfl | (simp; done) | (simp [*]; done)), (by first | rfl | (simp; done) | (simp [*]; done)), H', ⟨by have := HK1.out; omega⟩, ⟨tv HO_0⟩, ⟨tv HO_1⟩, ⟨tq HO_6⟩, ⟨tb HB⟩⟩
          ·rw [if_neg c29] at H
           exact absurd H (by simp)
         ·rw [if_neg c27] at H
          exact absurd H (by simp)
        ·rw [if_neg c26] at H
         exact absurd H (by simp)
      ·rw [if_neg c16] at H
       have c16b0 : decide (x23_1 < (t333.length : Int)) = false := decide_eq_false c16
       clear c16
       replace H := bi H
       obtain ⟨t351, A340, H⟩ := H
       have A34 := Aside0.mk A340
       clear A340
       simp only [Option.some.injEq, Prod.mk.injEq] at H
       obtain ⟨rfl, rfl⟩ := H
       obtain ⟨Ao35, co35, eo35⟩ := Kd.R_slice HO_6.out
       subst eo35
       go_wp2_with (first | ((with_reducible refine gate_callee (f := 81) rfl ?_); refine gL (N := some 49) Try.func81 #[.slice Ao35 x6_1.length co35] ?_; (with_reducible refine (nat_trim.calls k1 (fun k_ => some k_ = (.slice Ao35 x6_1.length co35 : Value).ownBlock) _ _ x6_1 t351 _ ?side1 A34.out).mono ?_); (case side1 => exact Kd.R_V (Kd.R_tight rfl (HO_6.out))); rintro e w36 ⟨v352, rfl, ho0, hb⟩; refine ⟨_, rfl, ?_⟩; have HO353 := Aside0.mk (Kd.V_lower (Kd.V_mono (ok' := fun k_ => ((P0_ k_ ∨ P1_ k_) ∨ w.heap.size ≤ k_)) ho0 (fun k_ hk_ => Or.elim hk_ (fun hs_ => (.inr (((HO_6.out).1 k_ hs_.symm)))) (fun hn_ => (.inr (Nat.le_trans (below_size (tb HB)) hn_))))) (below_size (tb HB))); replace HB := bs HB hb; (try clear hb); (try clear hb2); (try clear hk); (try clear hi); (try clear ho0)))
       go_ret2
       exact ⟨_, by first | rfl | (simp [errW_none, errW_some] <;> rfl) | (simp [*, errW_none, errW_some] <;> rfl), tv HO353, tb HB⟩
   ·rw [if_neg c9] at H
    exact absurd H (by simp)
  ·rw [if_neg c8] at H
   exact absurd H (by simp)

/-! ### big_Add: function 20 -/
def big_Add.f (k : Nat) (a0_0 : Bool) (l0_1 : List Int) (a1_0 : Bool) (l1_1 : List Int) : Option (Bool × List Int) := if (a0_0 == a1_0) = true then ((nat_Add.f k l0_1 l1_1).bind fun t357 => ((big_norm.f k a0_0 t357).bind fun bt360 => (some (bt360.1, bt360.2)))) else ((nat_Sub.f k l0_1 l1_1).bind fun bt364 => (if bt364.2 = 0 then ((big_norm.f k a0_0 bt364.1).bind fun bt368 => (some (bt368.1, bt368.2))) else ((nat_Sub.f k l1_1 l0_1).bind fun bt372 => ((big_norm.f k a1_0 bt372.1).bind fun bt376 => (some (bt376.1, bt376.2))))))
theorem big_Add.mono : ∀ a0 a1 a2 a3 k, LeO (big_Add.f k a0 a1 a2 a3) (big_Add.f (k + 1) a0 a1 a2 a3) := by
 intro a0 a1 a2 a3 k
 unfold big_Add.f
 repeat' with_reducible first | exact big_norm.mono _ _ _ | exact nat_Add.mono _ _ _ | exact nat_Sub.mono _ _ _ | exact LeO.refl _ | exact LeO.none _ | refine LeO.ite ?_ ?_ | refine LeO.bind ?_ (fun _ => ?_)
def big_Add.T2 : Bool × List (List Nat × List Nat) := (true, [([], []), ([0], [0]), ([], []), ([2], [2]), ([], []), ([4], [4]), ([3, 5], [3, 5]), ([1, 6, 6], [1, 6]), ([7, 7, 0, 1, 2, 3, 4, 5, 6, 7], [7])])
def big_Add.B2 : List Nat := [0, 1, 0, 4, 0, 16, 60, 127, 255]
theorem big_Add.tab2 : rtab .any (opsOf Try.f20 2) = big_Add.T2 := by kernel_rfl
theorem big_Add.bits2 : waitsOk big_Add.T2.2 big_Add.B2 = true := by kernel_rfl
set_option maxHeartbeats 8000000 in
set_option maxRecDepth 100000 in
theorem big_Add.calls (k : Nat) (a0_0 : Bool) (A0_1 : Option Addr) (c0_1 : Nat) (l0_1 : List Int) (a1_0 : Bool) (A1_1 : Option Addr) (c1_1 : Nat) (l1_1 : List Int) (r1 : Bool) (r2 : List Int) (w : World) (hr0_1 : Kd.C (Kd.int .u32) w A0_1 l0_1.length l0_1) (hc0_1 : l0_1.length ≤ c0_1) (hr1_1 : Kd.C (Kd.int .u32) w A1_1 l1_1.length l1_1) (hc1_1 : l1_1.length ≤ c1_1) (h : big_Add.f k a0_0 l0_1 a1_0 l1_1 = some (r1, r2)) :
  Calls Try.prog 20 #[.agg #[.bool a0_0, .slice A0_1 l0_1.length c0_1], .agg #[.bool a1_0, .slice A1_1 l1_1.length c1_1]] w fun e w' => ∃ v1_ : Value, e = .returned (.agg #[.bool r1, v1_]) ∧ Kd.R (Kd.int .u32) 87 w' w.heap.size (fun _ => True) v1_ r2 ∧ Below w.heap.size w w' := by
 have hu24 := Try.underlying24
 have HR0_1 := Aside0.mk hr0_1
 have HC0_1 := Aside0.mk hc0_1
 clear hr0_1 hc0_1
 have HR1_1 := Aside0.mk hr1_1
 have HC1_1 := Aside0.mk hc1_1
 clear hr1_1 hc1_1
 have HB := Aside0.mk (Below.refl w.heap.size w)
 have H : (if (a0_0 == a1_0) = true then ((nat_Add.f k l0_1 l1_1).bind fun t357 => ((big_norm.f k a0_0 t357).bind fun bt360 => (some (bt360.1, bt360.2)))) else ((nat_Sub.f k l0_1 l1_1).bind fun bt364 => (if bt364.2 = 0 then ((big_norm.f k a0_0 bt364.1).bind fun bt368 => (some (bt368.1, bt368.2))) else ((nat_Sub.f k l1_1 l0_1).bind fun bt372 => ((big_norm.f k a1_0 bt372.1).bind fun bt376 => (some (bt376.1, bt376.2))))))) = some (r1, r2) := h
 clear h
 by_cases c3 : (a0_0 == a1_0) = true
 ·rw [if_pos c3] at H
  have c3b0 : (a0_0 == a1_0) = true := c3
  (try (have c3b1 : decide (a0_0 = a1_0) = true := by simpa using c3))
  (try (have c3b2 : (a0_0 == a1_0) = true := by simpa using c3))
  clear c3
  replace H := bi H
  obtain ⟨t357, A40, H⟩ := H
  have A4 := Aside0.mk A40
  clear A40
  replace H := bi H
  obtain ⟨⟨t360, t361⟩, A50, H⟩ := H
  try dsimp only at H
  have A5 := Aside0.mk A50
  clear A50
  simp only [Option.some.injEq, Prod.mk.injEq] at H
  obtain ⟨rfl, rfl⟩ := H
  go_enter Try.func20, Try.ntmps20
  try go_wp2_with (first | ((with_reducible refine gate_dst (N := 2) rfl ?_); refine bx (N := 2) #[.bool a0_0, .slice A0_1 l0_1.length c0_1] 24 ?_; intro gb354 hg w6 hbox hb; have BK354 := Aside0.mk (hbox); have GW354 := bz hg HB; have GE354 := bz hg HB; replace HB := bs HB hb; clear hb hbox hg) | ((with_reducible refine gate_dst (N := 3) rfl ?_); refine bx (N := 3) #[.bool a1_0, .slice A1_1 l1_1.length c1_1] 24 ?_; intro gb355 hg w7 hbox hb; have BK355 := Aside0.mk (hbox); have GW355 := bz hg HB; have GE355 := bz hg HB; replace HB := bs HB hb; have NB354_355 := nl hg BK354; have NB355_354 := ng hg BK354; replace BK354 := kb BK354 hb; clear hb hbox hg) | ((with_reducible refine gate_dst (N := 4) rfl ?_); refine bx (N := 4) #[.bool false, .slice none 0 0] 24 ?_; intro gb356 hg w8 hbox hb; have BK356 := Aside0.mk (hbox); have GW356 := bz hg HB; have GE356 := bz hg HB; replace HB := bs HB hb; have NB354_356 := nl hg BK354; have NB356_354 := ng hg BK354; replace BK354 := kb BK354 hb; have NB355_356 := nl hg BK355; have NB356_355 := ng hg BK355; replace BK355 := kb BK355 hb; clear hb hbox hg; have hnb9 := NB354_355.out; have hnc9 := NB355_354.out; have hnb10 := NB354_356.out; have hnc10 := NB356_354.out; have hcz11_0 := bc BK354 0 (.bool a0_0); have hcz11_1 := bc BK354 1 (.slice A0_1 l0_1.length c0_1); have hfz11_0 := blk_frozen BK354.out 0; have hfz11_1 := blk_frozen BK354.out 1; have hnb12 := NB355_356.out; have hnc12 := NB356_355.out; have hcz13_0 := bc BK355 0 (.bool a1_0); have hcz13_1 := bc BK355 1 (.slice A1_1 l1_1.length c1_1); have hfz13_0 := blk_frozen BK355.out 0; have hfz13_1 := blk_frozen BK355.out 1))
  replace BK354 := Aside0.mk (blk_drew BK354.out)
  replace BK355 := Aside0.mk (blk_drew BK355.out)
  replace BK356 := Aside0.mk (blk_drew BK356.out)
  replace HB := Aside0.mk (below_drew1 HB.out)
  refine start_ (n := 9) (S := fun w' => w'.cell? ⟨gb354, 0, none⟩ = some (.bool a0_0) ∧ w'.cell? ⟨gb354, 1, none⟩ = some (.slice A0_1 l0_1.length c0_1) ∧ w'.cell? ⟨gb355, 0, none⟩ = some (.bool a1_0) ∧ w'.cell? ⟨gb355, 1, none⟩ = some (.slice A1_1 l1_1.length c1_1)) (ds := []) #[false, false, false, false, false, false, false, false, false] (by kernel_rfl) rfl rfl ⟨(blk_cell BK354.out 0).trans rfl, (blk_cell BK354.out 1).trans rfl, (blk_cell BK355.out 0).trans rfl, (blk_cell BK355.out 1).trans rfl⟩ (fun hHeld => ?_); refine with_tabW big_Add.tab2 big_Add.bits2 (fun HT_ HW_ => ?_)
  generalize w8.drew = w14 at BK354 BK355 BK356 HB hHeld ⊢
  refine pT (i := 0) (N := some 14) (bb 9 1) HT_ ?_
  refine pT (i := 2) (N := some 16) (bb 9 5) HT_ ?_
  refine pT (i := 4) (N := some 18) (bb 9 21) HT_ ?_
  refine tW (i := 1) (N := some 15) (bb 9 23) HT_ HW_ hHeld ?_
  refine tW (i := 3) (N := some 17) (bb 9 31) HT_ HW_ hHeld ?_
  refine tW (i := 5) (N := some 19) (bb 9 63) HT_ HW_ hHeld ?_
  refine oT (i := 6) (N := some 20) (bb 9 127) HT_ fun K hK => ?_
  refine gS Try.func60 #[.slice A0_1 l0_1.length c0_1, .slice A1_1 l1_1.length c1_1] ?_
  with_reducible refine (nat_Add.calls k (fun k_ => k_ < w.heap.size) _ _ l0_1 (fun k_ => k_ < w.heap.size) _ _ l1_1 t357 _ ?side1 ?side2 A4.out).mono ?_
  (case side1 => exact Kd.V_mk HC0_1.out (Kd.F_below (Kd.C_F (Kd.heap_int .u32) HR0_1.out) (tb HB)))
  (case side2 => exact Kd.V_mk HC1_1.out (Kd.F_below (Kd.C_F (Kd.heap_int .u32) HR1_1.out) (tb HB)))
  rintro e w15 ⟨v358, rfl, ho0, hb⟩
  refine ⟨_, rfl, ?_⟩
  have HO359 := Aside0.mk (Kd.V_lower (Kd.V_mono (ok' := fun k_ => k_ ≠ gb354 ∧ k_ ≠ gb355 ∧ k_ ≠ gb356) ho0 (fun k_ hk_ => ⟨Or.elim hk_ (fun hs_ => Or.elim hs_ (fun hs_ => fun e_ => Nat.not_le.2 hs_ (by rw [e_]; exact GW354.out)) (fun hs_ => fun e_ => Nat.not_le.2 hs_ (by rw [e_]; exact GW354.out))) (fun hn_ => (Kd.freshB (g := gb354) (o := .cells #[.bool a0_0, .slice A0_1 l0_1.length c0_1] 24 (0, 0)) (tk BK354) k_ hn_)), Or.elim hk_ (fun hs_ => Or.elim hs_ (fun hs_ => fun e_ => Nat.not_le.2 hs_ (by rw [e_]; exact GW355.out)) (fun hs_ => fun e_ => Nat.not_le.2 hs_ (by rw [e_]; exact GW355.out))) (fun hn_ => (Kd.freshB (g := gb355) (o := .cells #[.bool a1_0, .slice A1_1 l1_1.length c1_1] 24 (0, 0)) (tk BK355) k_ hn_)), Or.elim hk_ (fun hs_ => Or.elim hs_ (fun hs_ => fun e_ => Nat.not_le.2 hs_ (by rw [e_]; exact GW356.out)) (fun hs_ => fun e_ => Nat.not_le.2 hs_ (by rw [e_]; exact GW356.out))) (fun hn_ => (Kd.freshB (g := gb356) (o := .cells #[.bool false, .slice none 0 0] 24 (0, 0)) (tk BK356) k_ hn_))⟩)) (below_size (tb HB)))
  replace BK354 := kb BK354 hb
  replace BK355 := kb BK355 hb
  replace BK356 := kb BK356 hb
  replace HB := bs HB hb
  (try clear hb); (try clear hb2); (try clear hk); (try clear hi); (try clear ho0)
  obtain ⟨Ao16, co16, eo16⟩ := Kd.V_slice HO359.out
  (first | subst eo16 | (injection eo16 with f1_ f2_ f3_; have f4_ := f1_.symm; have f5_ := f3_.symm; clear f1_ f2_ f3_; subst f4_; subst f5_))
  refine hK.out _ _ ⟨(blk_cell BK354.out 0).trans rfl, (blk_cell BK354.out 1).trans rfl, (blk_cell BK355.out 0).trans rfl, (blk_cell BK355.out 1).trans rfl⟩ fun hHeld => nT (N := some 20) ?_
  clear hK K
  refine oT (i := 7) (N := some 21) (bb 9 255) HT_ fun K hK => ?_
  refine gS Try.func52 #[.bool a0_0, .slice Ao16 t357.length co16] ?_
  with_reducible refine (big_norm.calls k a0_0 _ _ t357 t360 t361 _ ?side1 ?side2 A5.out).mono ?_
  (case side1 => exact tc (Kd.V_reads' HO359.out).2.2)
  (case side2 => exact (Kd.V_reads' HO359.out).2.1)
  rintro e w17 ⟨v362, rfl, ho0, hb⟩
  refine ⟨_, rfl, ?_⟩
  have HO363 := rl ho0 HB
  replace BK354 := kb BK354 hb
  replace BK355 := kb BK355 hb
  replace BK356 := kb BK356 hb
  replace HB := bs HB hb
  (try clear hb); (try clear hb2); (try clear hk); (try clear hi); (try clear ho0)
  obtain ⟨Ao19, co19, eo19⟩ := Kd.R_slice HO363.out
  (first | subst eo19 | (injection eo19 with f1_ f2_ f3_; have f4_ := f1_.symm; have f5_ := f3_.symm; clear f1_ f2_ f3_; subst f4_; subst f5_))
  refine hK.out _ _ ⟨(blk_cell BK354.out 0).trans rfl, (blk_cell BK354.out 1).trans rfl, (blk_cell BK355.out 0).trans rfl, (blk_cell BK355.out 1).trans rfl⟩ fun hHeld => nT (N := some 21) ?_
  clear hK K
  refine oT (i := 8) (N := none) (bb 9 511) HT_ fun K hK => ?_
  have hs18 := bc BK356 0 (.bool false)
  have hfs18 := blk_frozen BK356.out 0
  have hns18_0 := NB354_356.out
  have hns18_1 := NB355_356.out
  have hms18_0 := NB356_354.out
  have hms18_1 := NB356_355.out
  have hs20 := bc BK356 1 (.slice none 0 0)
  have hfs20 := blk_frozen BK356.out 1
  have hns20_0 := NB354_356.out
  have hns20_1 := NB355_356.out
  have hms20_0 := NB356_354.out
  have hms20_1 := NB356_355.out
  refine skip_ (w1 := ?_) (by rfl) rfl ?_ ?_
  rotate_left
  ·go_simp
   rfl
  refine hK.out _ _ ⟨((cell_far (p := ⟨gb356, _, none⟩) NB354_356.out _).trans (((cell_far (p := ⟨gb356, _, none⟩) NB354_356.out _).trans (hHeld.1)))), ((cell_far (p := ⟨gb356, _, none⟩) NB354_356.out _).trans (((cell_far (p := ⟨gb356, _, none⟩) NB354_356.out _).trans (hHeld.2.1)))), ((cell_far (p := ⟨gb356, _, none⟩) NB355_356.out _).trans (((cell_far (p := ⟨gb356, _, none⟩) NB355_356.out _).trans (hHeld.2.2.1)))), ((cell_far (p := ⟨gb356, _, none⟩) NB355_356.out _).trans (((cell_far (p := ⟨gb356, _, none⟩) NB355_356.out _).trans (hHeld.2.2.2))))⟩ (fun hHeld => ?_)
  clear hK K
  refine done_ (done_of HT_.out (by kernel_rfl)) ?_
  try go_wp2
  refine bodyPost_ret (results_cell_row rfl _ _ gb356 24 #[.bool t360, .slice Ao19 t361.length co19] (0, 0) _ rfl (tk BK356) Try.underlying24 rfl (by kernel_rfl)) rfl ?_
  exact ⟨_, by first | rfl | (simp [errW_none, errW_some] <;> rfl) | (simp [*, errW_none, errW_some] <;> rfl), by (with_reducible repeat first | apply qa | apply qn | apply qd); exact Kd.R_mono (Kd.R_far (p := ⟨gb356, 1, none⟩) (Kd.R_far (p := ⟨gb356, 0, none⟩) (Kd.R_types HO363.out BK356.out (by decide)) (fun _ hk => hk.2) (.bool t360)) (fun _ hk => hk.2) (.slice Ao19 t361.length co19)) (fun _ hk => trivial), tb HB⟩
 ·rw [if_neg c3] at H
  have c3b0 : (a0_0 == a1_0) = false := by simpa using c3
  (try (have c3b1 : decide (a0_0 = a1_0) = false := by simpa using c3))
  (try (have c3b2 : (a0_0 == a1_0) = false := by simpa using c3))
  (try (have c3b3 : ¬ (a0_0 = a1_0) := by simpa using c3))
  clear c3
  replace H := bi H
  obtain ⟨⟨t364, t367⟩, A210, H⟩ := H
  try dsimp only at H
  have A21 := Aside0.mk A210
  clear A210
  by_cases c22 : t367 = 0
  ·rw [if_pos c22] at H
   have c22b0 : (t367 == 0) = true := beq_iff_eq.mpr c22
   have c22b1 : (t367 != 0) = false := bne_eq_false_iff_eq.mpr c22
   clear c22
   replace H := bi H
   obtain ⟨⟨t368, t369⟩, A230, H⟩ := H
   try dsimp only at H
   have A23 := Aside0.mk A230
   clear A230
   simp only [Option.some.injEq, Prod.mk.injEq] at H
   obtain ⟨rfl, rfl⟩ := H
   go_enter Try.func20, Try.ntmps20
   go_wp2_with (first | ((with_reducible refine gate_dst (N := 2) rfl ?_); refine bx (N := 2) #[.bool a0_0, .slice A0_1 l0_1.length c0_1] 24 ?_; intro gb354 hg w24 hbox hb; have BK354 := Aside0.mk (hbox); have GW354 := bz hg HB; have GE354 := bz hg HB; replace HB := bs HB hb; clear hb hbox hg) | ((with_reducible refine gate_dst (N := 3) rfl ?_); refine bx (N := 3) #[.bool a1_0, .slice A1_1 l1_1.length c1_1] 24 ?_; intro gb355 hg w25 hbox hb; have BK355 := Aside0.mk (hbox); have GW355 := bz hg HB; have GE355 := bz hg HB; replace HB := bs HB hb; have NB354_355 := nl hg BK354; have NB355_354 := ng hg BK354; replace BK354 := kb BK354 hb; clear hb hbox hg) | ((with_reducible refine gate_dst (N := 4) rfl ?_); refine bx (N := 4) #[.bool false, .slice none 0 0] 24 ?_; intro gb356 hg w26 hbox hb; have BK356 := Aside0.mk (hbox); have GW356 := bz hg HB; have GE356 := bz hg HB; replace HB := bs HB hb; have NB354_356 := nl hg BK354; have NB356_354 := ng hg BK354; replace BK354 := kb BK354 hb; have NB355_356 := nl hg BK355; have NB356_355 := ng hg BK355; replace BK355 := kb BK355 hb; clear hb hbox hg; have hnb27 := NB354_355.out; have hnc27 := NB355_354.out; have hnb28 := NB354_356.out; have hnc28 := NB356_354.out; have hcz29_0 := bc BK354 0 (.bool a0_0); have hcz29_1 := bc BK354 1 (.slice A0_1 l0_1.length c0_1); have hfz29_0 := blk_frozen BK354.out 0; have hfz29_1 := blk_frozen BK354.out 1; have hnb30 := NB355_356.out; have hnc30 := NB356_355.out; have hcz31_0 := bc BK355 0 (.bool a1_0); have hcz31_1 := bc BK355 1 (.slice A1_1 l1_1.length c1_1); have hfz31_0 := blk_frozen BK355.out 0; have hfz31_1 := blk_frozen BK355.out 1) | ((with_reducible refine gate_callee (f := 61) rfl ?_); refine gL (N := some 27) Try.func61 #[.slice A0_1 l0_1.length c0_1, .slice A1_1 l1_1.length c1_1] ?_; (with_reducible refine (nat_Sub.calls k (fun k_ => k_ < w.heap.size) _ _ l0_1 (fun k_ => k_ < w.heap.size) _ _ l1_1 t364 t367 _ ?side1 ?side2 A21.out).mono ?_); (case side1 => exact Kd.V_mk HC0_1.out (Kd.F_below (Kd.C_F (Kd.heap_int .u32) HR0_1.out) (tb HB))); (case side2 => exact Kd.V_mk HC1_1.out (Kd.F_below (Kd.C_F (Kd.heap_int .u32) HR1_1.out) (tb HB))); rintro e w32 ⟨v365, rfl, ho0, hb⟩; refine ⟨_, rfl, ?_⟩; have HO366 := Aside0.mk (Kd.V_lower (Kd.V_mono (ok' := fun k_ => k_ ≠ gb354 ∧ k_ ≠ gb355 ∧ k_ ≠ gb356) ho0 (fun k_ hk_ => ⟨Or.elim hk_ (fun hs_ => Or.elim hs_ (fun hs_ => fun e_ => Nat.not_le.2 hs_ (by rw [e_]; exact GW354.out)) (fun hs_ => fun e_ => Nat.not_le.2 hs_ (by rw [e_]; exact GW354.out))) (fun hn_ => (Kd.freshB (g := gb354) (o := .cells #[.bool a0_0, .slice A0_1 l0_1.length c0_1] 24 (0, 0)) (tk BK354) k_ hn_)), Or.elim hk_ (fun hs_ => Or.elim hs_ (fun hs_ => fun e_ => Nat.not_le.2 hs_ (by rw [e_]; exact GW355.out)) (fun hs_ => fun e_ => Nat.not_le.2 hs_ (by rw [e_]; exact GW355.out))) (fun hn_ => (Kd.freshB (g := gb355) (o := .cells #[.bool a1_0, .slice A1_1 l1_1.length c1_1] 24 (0, 0)) (tk BK355) k_ hn_)), Or.elim hk_ (fun hs_ => Or.elim hs_ (fun hs_ => fun e_ => Nat.not_le.2 hs_ (by rw [e_]; exact GW356.out)) (fun hs_ => fun e_ => Nat.not_le.2 hs_ (by rw [e_]; exact GW356.out))) (fun hn_ => (Kd.freshB (g := gb356) (o := .cells #[.bool false, .slice none 0 0] 24 (0, 0)) (tk BK356) k_ hn_))⟩)) (below_size (tb HB))); replace BK354 := kb BK354 hb; replace BK356 := kb BK356 hb; replace HB := bs HB hb; (try clear hb); (try clear hb2); (try clear hk); (try clear hi); (try clear ho0); have hcz33_0 := bc BK354 0 (.bool a0_0); have hcz33_1 := bc BK354 1 (.slice A0_1 l0_1.length c0_1); have hfz33_0 := blk_frozen BK354.out 0; have hfz33_1 := blk_frozen BK354.out 1; obtain ⟨Ao34, co34, eo34⟩ := Kd.V_slice HO366.out; subst eo34) | ((with_reducible refine gate_callee (f := 52) rfl ?_); refine gL (N := some 35) Try.func52 #[.bool a0_0, .slice Ao34 t364.length co34] ?_; (with_reducible refine (big_norm.calls k a0_0 _ _ t364 t368 t369 _ ?side1 ?side2 A23.out).mono ?_); (case side1 => exact tc (Kd.V_reads' HO366.out).2.2); (case side2 => exact (Kd.V_reads' HO366.out).2.1); rintro e w35 ⟨v370, rfl, ho0, hb⟩; refine ⟨_, rfl, ?_⟩; have HO371 := rl ho0 HB; replace BK356 := kb BK356 hb; replace HB := bs HB hb; (try clear hb); (try clear hb2); (try clear hk); (try clear hi); (try clear ho0); have hcz36_0 := bc BK356 0 (.bool false); have hcz36_1 := bc BK356 1 (.slice none 0 0); have hfz36_0 := blk_frozen BK356.out 0; have hfz36_1 := blk_frozen BK356.out 1; obtain ⟨Ao37, co37, eo37⟩ := Kd.R_slice HO371.out; subst eo37))
   refine bodyPost_ret (results_cell_row rfl _ _ gb356 24 #[.bool t368, .slice Ao37 t369.length co37] (0, 0) _ rfl (tk BK356) Try.underlying24 rfl (by kernel_rfl)) rfl ?_
   exact ⟨_, by first | rfl | (simp [errW_none, errW_some] <;> rfl) | (simp [*, errW_none, errW_some] <;> rfl), by (with_reducible repeat first | apply qa | apply qn | apply qd); exact Kd.R_mono (Kd.R_far (p := ⟨gb356, 1, none⟩) (Kd.R_far (p := ⟨gb356, 0, none⟩) (Kd.R_types HO371.out BK356.out (by decide)) (fun _ hk => hk.2) (.bool t368)) (fun _ hk => hk.2) (.slice Ao37 t369.length co37)) (fun _ hk => trivial), tb HB⟩
  ·rw [if_neg c22] at H
   have c22b0 : (t367 == 0) = false := beq_eq_false_iff_ne.mpr c22
   have c22b1 : (t367 != 0) = true := bne_iff_ne.mpr c22
   replace H := bi H
   obtain ⟨⟨t372, t375⟩, A380, H⟩ := H
   try dsimp only at H
   have A38 := Aside0.mk A380
   clear A380
   replace H := bi H
   obtain ⟨⟨t376, t377⟩, A390, H⟩ := H
   try dsimp only at H
   have A39 := Aside0.mk A390
   clear A390
   simp only [Option.some.injEq, Prod.mk.injEq] at H
   obtain ⟨rfl, rfl⟩ := H
   go_enter Try.func20, Try.ntmps20
   go_wp2_with (first | ((with_reducible refine gate_dst (N := 2) rfl ?_); refine bx (N := 2) #[.bool a0_0, .slice A0_1 l0_1.length c0_1] 24 ?_; intro gb354 hg w40 hbox hb; have BK354 := Aside0.mk (hbox); have GW354 := bz hg HB; have GE354 := bz hg HB; replace HB := bs HB hb; clear hb hbox hg) | ((with_reducible refine gate_dst (N := 3) rfl ?_); refine bx (N := 3) #[.bool a1_0, .slice A1_1 l1_1.length c1_1] 24 ?_; intro gb355 hg w41 hbox hb; have BK355 := Aside0.mk (hbox); have GW355 := bz hg HB; have GE355 := bz hg HB; replace HB := bs HB hb; have NB354_355 := nl hg BK354; have NB355_354 := ng hg BK354; replace BK354 := kb BK354 hb; clear hb hbox hg) | ((with_reducible refine gate_dst (N := 4) rfl ?_); refine bx (N := 4) #[.bool false, .slice none 0 0] 24 ?_; intro gb356 hg w42 hbox hb; have BK356 := Aside0.mk (hbox); have GW356 := bz hg HB; have GE356 := bz hg HB; replace HB := bs HB hb; have NB354_356 := nl hg BK354; have NB356_354 := ng hg BK354; replace BK354 := kb BK354 hb; have NB355_356 := nl hg BK355; have NB356_355 := ng hg BK355; replace BK355 := kb BK355 hb; clear hb hbox hg; have hnb43 := NB354_355.out; have hnc43 := NB355_354.out; have hnb44 := NB354_356.out; have hnc44 := NB356_354.out; have hcz45_0 := bc BK354 0 (.bool a0_0); have hcz45_1 := bc BK354 1 (.slice A0_1 l0_1.length c0_1); have hfz45_0 := blk_frozen BK354.out 0; have hfz45_1 := blk_frozen BK354.out 1; have hnb46 := NB355_356.out; have hnc46 := NB356_355.out; have hcz47_0 := bc BK355 0 (.bool a1_0); have hcz47_1 := bc BK355 1 (.slice A1_1 l1_1.length c1_1); have hfz47_0 := blk_frozen BK355.out 0; have hfz47_1 := blk_frozen BK355.out 1) | ((with_reducible refine gate_callee (f := 61) rfl ?_); refine gL (N := some 27) Try.func61 #[.slice A0_1 l0_1.length c0_1, .slice A1_1 l1_1.length c1_1] ?_; (with_reducible refine (nat_Sub.calls k (fun k_ => k_ < w.heap.size) _ _ l0_1 (fun k_ => k_ < w.heap.size) _ _ l1_1 t364 t367 _ ?side1 ?side2 A21.out).mono ?_); (case side1 => exact Kd.V_mk HC0_1.out (Kd.F_below (Kd.C_F (Kd.heap_int .u32) HR0_1.out) (tb HB))); (case side2 => exact Kd.V_mk HC1_1.out (Kd.F_below (Kd.C_F (Kd.heap_int .u32) HR1_1.out) (tb HB))); rintro e w48 ⟨v365, rfl, ho0, hb⟩; refine ⟨_, rfl, ?_⟩; replace BK354 := kb BK354 hb; replace BK355 := kb BK355 hb; replace BK356 := kb BK356 hb; replace HB := bs HB hb; (try clear hb); (try clear hb2); (try clear hk); (try clear hi); (try clear ho0); have hcz49_0 := bc BK355 0 (.bool a1_0); have hcz49_1 := bc BK355 1 (.slice A1_1 l1_1.length c1_1); have hfz49_0 := blk_frozen BK355.out 0; have hfz49_1 := blk_frozen BK355.out 1; have hcz50_0 := bc BK354 0 (.bool a0_0); have hcz50_1 := bc BK354 1 (.slice A0_1 l0_1.length c0_1); have hfz50_0 := blk_frozen BK354.out 0; have hfz50_1 := blk_frozen BK354.out 1) | ((with_reducible refine gate_callee (f := 61) rfl ?_); refine gL (N := some 41) Try.func61 #[.slice A1_1 l1_1.length c1_1, .slice A0_1 l0_1.length c0_1] ?_; (with_reducible refine (nat_Sub.calls k (fun k_ => k_ < w.heap.size) _ _ l1_1 (fun k_ => k_ < w.heap.size) _ _ l0_1 t372 t375 _ ?side1 ?side2 A38.out).mono ?_); (case side1 => exact Kd.V_mk HC1_1.out (Kd.F_below (Kd.C_F (Kd.heap_int .u32) HR1_1.out) (tb HB))); (case side2 => exact Kd.V_mk HC0_1.out (Kd.F_below (Kd.C_F (Kd.heap_int .u32) HR0_1.out) (tb HB))); rintro e w51 ⟨v373, rfl, ho0, hb⟩; refine ⟨_, rfl, ?_⟩; have HO374 := Aside0.mk (Kd.V_lower (Kd.V_mono (ok' := fun k_ => k_ ≠ gb354 ∧ k_ ≠ gb355 ∧ k_ ≠ gb356) ho0 (fun k_ hk_ => ⟨Or.elim hk_ (fun hs_ => Or.elim hs_ (fun hs_ => fun e_ => Nat.not_le.2 hs_ (by rw [e_]; exact GW354.out)) (fun hs_ => fun e_ => Nat.not_le.2 hs_ (by rw [e_]; exact GW354.out))) (fun hn_ => (Kd.freshB (g := gb354) (o := .cells #[.bool a0_0, .slice A0_1 l0_1.length c0_1] 24 (0, 0)) (tk BK354) k_ hn_)), Or.elim hk_ (fun hs_ => Or.elim hs_ (fun hs_ => fun e_ => Nat.not_le.2 hs_ (by rw [e_]; exact GW355.out)) (fun hs_ => fun e_ => Nat.not_le.2 hs_ (by rw [e_]; exact GW355.out))) (fun hn_ => (Kd.freshB (g := gb355) (o := .cells #[.bool a1_0, .slice A1_1 l1_1.length c1_1] 24 (0, 0)) (tk BK355) k_ hn_)), Or.elim hk_ (fun hs_ => Or.elim hs_ (fun hs_ => fun e_ => Nat.not_le.2 hs_ (by rw [e_]; exact GW356.out)) (fun hs_ => fun e_ => Nat.not_le.2 hs_ (by rw [e_]; exact GW356.out))) (fun hn_ => (Kd.freshB (g := gb356) (o := .cells #[.bool false, .slice none 0 0] 24 (0, 0)) (tk BK356) k_ hn_))⟩)) (below_size (tb HB))); replace BK355 := kb BK355 hb; replace BK356 := kb BK356 hb; replace HB := bs HB hb; (try clear hb); (try clear hb2); (try clear hk); (try clear hi); (try clear ho0); have hcz52_0 := bc BK355 0 (.bool a1_0); have hcz52_1 := bc BK355 1 (.slice A1_1 l1_1.length c1_1); have hfz52_0 := blk_frozen BK355.out 0; have hfz52_1 := blk_frozen BK355.out 1; obtain ⟨Ao53, co53, eo53⟩ := Kd.V_slice HO374.out; subst eo53) | ((with_reducible refine gate_callee (f := 52) rfl ?_); refine gL (N := some 47) Try.func52 #[.bool a1_0, .slice Ao53 t372.length co53] ?_; (with_reducible refine (big_norm.calls k a1_0 _ _ t372 t376 t377 _ ?side1 ?side2 A39.out).mono ?_); (case side1 => exact tc (Kd.V_reads' HO374.out).2.2); (case side2 => exact (Kd.V_reads' HO374.out).2.1); rintro e w54 ⟨v378, rfl, ho0, hb⟩; refine ⟨_, rfl, ?_⟩; have HO379 := rl ho0 HB; replace BK356 := kb BK356 hb; replace HB := bs HB hb; (try clear hb); (try clear hb2); (try clear hk); (try clear hi); (try clear ho0); have hcz55_0 := bc BK356 0 (.bool false); have hcz55_1 := bc BK356 1 (.slice none 0 0); have hfz55_0 := blk_frozen BK356.out 0; have hfz55_1 := blk_frozen BK356.out 1; obtain ⟨Ao56, co56, eo56⟩ := Kd.R_slice HO379.out; subst eo56))
   refine bodyPost_ret (results_cell_row rfl _ _ gb356 24 #[.bool t376, .slice Ao56 t377.length co56] (0, 0) _ rfl (tk BK356) Try.underlying24 rfl (by kernel_rfl)) rfl ?_
   exact ⟨_, by first | rfl | (simp [errW_none, errW_some] <;> rfl) | (simp [*, errW_none, errW_some] <;> rfl), by (with_reducible repeat first | apply qa | apply qn | apply qd); exact Kd.R_mono (Kd.R_far (p := ⟨gb356, 1, none⟩) (Kd.R_far (p := ⟨gb356, 0, none⟩) (Kd.R_types HO379.out BK356.out (by decide)) (fun _ hk => hk.2) (.bool t376)) (fun _ hk => hk.2) (.slice Ao56 t377.length co56)) (fun _ hk => trivial), tb HB⟩

/-! ### big_Neg: function 28 -/
def big_Neg.f (k : Nat) (a0_0 : Bool) (l0_1 : List Int) : Option (Bool × List Int) := (big_norm.f k (!a0_0) l0_1).bind fun bt382 => (some (bt382.1, bt382.2))
theorem big_Neg.mono : ∀ a0 a1 k, LeO (big_Neg.f k a0 a1) (big_Neg.f (k + 1) a0 a1) := by
 intro a0 a1 k
 unfold big_Neg.f
 repeat' with_reducible first | exact big_norm.mono _ _ _ | exact LeO.refl _ | exact LeO.none _ | refine LeO.ite ?_ ?_ | refine LeO.bind ?_ (fun _ => ?_)
set_option maxHeartbeats 8000000 in
set_option maxRecDepth 100000 in
theorem big_Neg.calls (k : Nat) (a0_0 : Bool) (A0_1 : Option Addr) (c0_1 : Nat) (l0_1 : List Int) (r1 : Bool) (r2 : List Int) (w : World) (hr0_1 : Kd.C (Kd.int .u32) w A0_1 l0_1.length l0_1) (hc0_1 : l0_1.length ≤ c0_1) (h : big_Neg.f k a0_0 l0_1 = some (r1, r2)) :
  Calls Try.prog 28 #[.agg #[.bool a0_0, .slice A0_1 l0_1.length c0_1]] w fun e w' => ∃ v1_ : Value, e = .returned (.agg #[.bool r1, v1_]) ∧ Kd.R (Kd.int .u32) 87 w' w.heap.size (fun _ => True) v1_ r2 ∧ Below w.heap.size w w' := by
 have hu24 := Try.underlying24
 have HR0_1 := Aside0.mk hr0_1
 have HC0_1 := Aside0.mk hc0_1
 clear hr0_1 hc0_1
 have HB := Aside0.mk (Below.refl w.heap.size w)
 have H : ((big_norm.f k (!a0_0) l0_1).bind fun bt382 => (some (bt382.1, bt382.2))) = some (r1, r2) := h
 clear h
 replace H := bi H
 obtain ⟨⟨t382, t383⟩, A20, H⟩ := H
 try dsimp only at H
 have A2 := Aside0.mk A20
 clear A20
 simp only [Option.some.injEq, Prod.mk.injEq] at H
 obtain ⟨rfl, rfl⟩ := H
 go_enter Try.func28, Try.ntmps28
 go_wp2_with (first | ((with_reducible refine gate_dst (N := 1) rfl ?_); refine bx (N := 1) #[.bool a0_0, .slice A0_1 l0_1.length c0_1] 24 ?_; intro gb380 hg w3 hbox hb; have BK380 := Aside0.mk (hbox); have GW380 := bz hg HB; have GE380 := bz hg HB; replace HB := bs HB hb; clear hb hbox hg) | ((with_reducible refine gate_dst (N := 2) rfl ?_); refine bx (N := 2) #[.bool false, .slice none 0 0] 24 ?_; intro gb381 hg w4 hbox hb; have BK381 := Aside0.mk (hbox); have GW381 := bz hg HB; have GE381 := bz hg HB; replace HB := bs HB hb; have NB380_381 := nl hg BK380; have NB381_380 := ng hg BK380; replace BK380 := kb BK380 hb; clear hb hbox hg; have hnb5 := NB380_381.out; have hnc5 := NB381_380.out; have hcz6_0 := bc BK380 0 (.bool a0_0); have hcz6_1 := bc BK380 1 (.slice A0_1 l0_1.length c0_1); have hfz6_0 := blk_frozen BK380.out 0; have hfz6_1 := blk_frozen BK380.out 1) | ((with_reducible refine gate_callee (f := 52) rfl ?_); refine gL (N := some 8) Try.func52 #[.bool (!a0_0), .slice A0_1 l0_1.length c0_1] ?_; (with_reducible refine (big_norm.calls k (!a0_0) _ _ l0_1 t382 t383 _ ?side1 ?side2 A2.out).mono ?_); (case side1 => exact tc (Kd.C_below HR0_1.out HB.out)); (case side2 => exact HC0_1.out); rintro e w7 ⟨v384, rfl, ho0, hb⟩; refine ⟨_, rfl, ?_⟩; have HO385 := rl ho0 HB; replace BK381 := kb BK381 hb; replace HB := bs HB hb; (try clear hb); (try clear hb2); (try clear hk); (try clear hi); (try clear ho0); have hcz8_0 := bc BK381 0 (.bool false); have hcz8_1 := bc BK381 1 (.slice none 0 0); have hfz8_0 := blk_frozen BK381.out 0; have hfz8_1 := blk_frozen BK381.out 1; obtain ⟨Ao9, co9, eo9⟩ := Kd.R_slice HO385.out; subst eo9))
 refine bodyPost_ret (results_cell_row rfl _ _ gb381 24 #[.bool t382, .slice Ao9 t383.length co9] (0, 0) _ rfl (tk BK381) Try.underlying24 rfl (by kernel_rfl)) rfl ?_
 exact ⟨_, by first | rfl | (simp [errW_none, errW_some] <;> rfl) | (simp [*, errW_none, errW_some] <;> rfl), by (with_reducible repeat first | apply qa | apply qn | apply qd); exact Kd.R_mono (Kd.R_far (p := ⟨gb381, 1, none⟩) (Kd.R_far (p := ⟨gb381, 0, none⟩) (Kd.R_types HO385.out BK381.out (by decide)) (fun _ hk => hk.2) (.bool t382)) (fun _ hk => hk.2) (.slice Ao9 t383.length co9)) (fun _ hk => trivial), tb HB⟩

/-! ### big_Sub: function 22 -/
def big_Sub.f (k : Nat) (a0_0 : Bool) (l0_1 : List Int) (a1_0 : Bool) (l1_1 : List Int) : Option (Bool × List Int) := (big_Neg.f k a1_0 l1_1).bind fun bt389 => ((big_Add.f k a0_0 l0_1 bt389.1 bt389.2).bind fun bt393 => (some (bt393.1, bt393.2)))
theorem big_Sub.mono : ∀ a0 a1 a2 a3 k, LeO (big_Sub.f k a0 a1 a2 a3) (big_Sub.f (k + 1) a0 a1 a2 a3) := by
 intro a0 a1 a2 a3 k
 unfold big_Sub.f
 repeat' with_reducible first | exact big_Add.mono _ _ _ _ _ | exact big_Neg.mono _ _ _ | exact LeO.refl _ | exact LeO.none _ | refine LeO.ite ?_ ?_ | refine LeO.bind ?_ (fun _ => ?_)
set_option maxHeartbeats 8000000 in
set_option maxRecDepth 100000 in
theorem big_Sub.calls (k : Nat) (a0_0 : Bool) (A0_1 : Option Addr) (c0_1 : Nat) (l0_1 : List Int) (a1_0 : Bool) (A1_1 : Option Addr) (c1_1 : Nat) (l1_1 : List Int) (r1 : Bool) (r2 : List Int) (w : World) (hr0_1 : Kd.C (Kd.int .u32) w A0_1 l0_1.length l0_1) (hc0_1 : l0_1.length ≤ c0_1) (hr1_1 : Kd.C (Kd.int .u32) w A1_1 l1_1.length l1_1) (hc1_1 : l1_1.length ≤ c1_1) (h : big_Sub.f k a0_0 l0_1 a1_0 l1_1 = some (r1, r2)) :
  Calls Try.prog 22 #[.agg #[.bool a0_0, .slice A0_1 l0_1.length c0_1], .agg #[.bool a1_0, .slice A1_1 l1_1.length c1_1]] w fun e w' => ∃ v1_ : Value, e = .returned (.agg #[.bool r1, v1_]) ∧ Kd.R (Kd.int .u32) 87 w' w.heap.size (fun _ => True) v1_ r2 ∧ Below w.heap.size w w' := by
 have hu24 := Try.underlying24
 have HR0_1 := Aside0.mk hr0_1
 have HC0_1 := Aside0.mk hc0_1
 clear hr0_1 hc0_1
 have HR1_1 := Aside0.mk hr1_1
 have HC1_1 := Aside0.mk hc1_1
 clear hr1_1 hc1_1
 have HB := Aside0.mk (Below.refl w.heap.size w)
 have H : ((big_Neg.f k a1_0 l1_1).bind fun bt389 => ((big_Add.f k a0_0 l0_1 bt389.1 bt389.2).bind fun bt393 => (some (bt393.1, bt393.2)))) = some (r1, r2) := h
 clear h
 replace H := bi H
 obtain ⟨⟨t389, t390⟩, A30, H⟩ := H
 try dsimp only at H
 have A3 := Aside0.mk A30
 clear A30
 replace H := bi H
 obtain ⟨⟨t393, t394⟩, A40, H⟩ := H
 try dsimp only at H
 have A4 := Aside0.mk A40
 clear A40
 simp only [Option.some.injEq, Prod.mk.injEq] at H
 obtain ⟨rfl, rfl⟩ := H
 go_enter Try.func22, Try.ntmps22
 try go_wp2_with (first | ((with_reducible refine gate_dst (N := 2) rfl ?_); refine bx (N := 2) #[.bool a0_0, .slice A0_1 l0_1.length c0_1] 24 ?_; intro gb386 hg w5 hbox hb; have BK386 := Aside0.mk (hbox); have GW386 := bz hg HB; have GE386 := bz hg HB; replace HB := bs HB hb; clear hb hbox hg) | ((with_reducible refine gate_dst (N := 3) rfl ?_); refine bx (N := 3) #[.bool a1_0, .slice A1_1 l1_1.length c1_1] 24 ?_; intro gb387 hg w6 hbox hb; have BK387 := Aside0.mk (hbox); have GW387 := bz hg HB; have GE387 := bz hg HB; replace HB := bs HB hb; have NB386_387 := nl hg BK386; have NB387_386 := ng hg BK386; replace BK386 := kb BK386 hb; clear hb hbox hg) | ((with_reducible refine gate_dst (N := 4) rfl ?_); refine bx (N := 4) #[.bool false, .slice none 0 0] 24 ?_; intro gb388 hg w7 hbox hb; have BK388 := Aside0.mk (hbox); have GW388 := bz hg HB; have GE388 := bz hg HB; replace HB := bs HB hb; have NB386_388 := nl hg BK386; have NB388_386 := ng hg BK386; replace BK386 := kb BK386 hb; have NB387_388 := nl hg BK387; have NB388_387 := ng hg BK387; replace BK387 := kb BK387 hb; clear hb hbox hg))
 replace BK386 := Aside0.mk (blk_drew BK386.out)
 replace BK387 := Aside0.mk (blk_drew BK387.out)
 replace BK388 := Aside0.mk (blk_drew BK388.out)
 replace HB := Aside0.mk (below_drew1 HB.out)
 refine start_ (n := 5) (S := fun w' => w'.cell? ⟨gb386, 0, none⟩ = some (.bool a0_0) ∧ w'.cell? ⟨gb386, 1, none⟩ = some (.slice A0_1 l0_1.length c0_1) ∧ w'.cell? ⟨gb387, 0, none⟩ = some (.bool a1_0) ∧ w'.cell? ⟨gb387, 1, none⟩ = some (.slice A1_1 l1_1.length c1_1)) (ds := []) #[false, false, false, false, false] (by kernel_rfl) rfl rfl ⟨(blk_cell BK386.out 0).trans rfl, (blk_cell BK386.out 1).trans rfl, (blk_cell BK387.out 0).trans rfl, (blk_cell BK387.out 1).trans rfl⟩ (fun hHeld => ?_)
 generalize w7.drew = w8 at BK386 BK387 BK388 HB hHeld ⊢
 refine t0 (i := 0) (N := some 5) (bb 5 1) hHeld ?_
 refine t0 (i := 1) (N := some 6) (bb 5 3) hHeld ?_
 refine o0 (i := 2) (N := some 7) (bb 5 7) fun K hK => ?_
 refine gS Try.func28 #[.agg #[.bool a1_0, .slice A1_1 l1_1.length c1_1]] ?_
 with_reducible refine (big_Neg.calls k a1_0 _ _ l1_1 t389 t390 _ ?side1 ?side2 A3.out).mono ?_
 (case side1 => exact tc (Kd.C_below HR1_1.out HB.out))
 (case side2 => exact HC1_1.out)
 rintro e w9 ⟨v391, rfl, ho0, hb⟩
 refine ⟨_, rfl, ?_⟩
 have HO392 := rl ho0 HB
 replace BK386 := kb BK386 hb
 replace BK387 := kb BK387 hb
 replace BK388 := kb BK388 hb
 replace HB := bs HB hb
 (try clear hb); (try clear hb2); (try clear hk); (try clear hi); (try clear ho0)
 obtain ⟨Ao10, co10, eo10⟩ := Kd.R_slice HO392.out
 (first | subst eo10 | (injection eo10 with f1_ f2_ f3_; have f4_ := f1_.symm; have f5_ := f3_.symm; clear f1_ f2_ f3_; subst f4_; subst f5_))
 refine hK.out _ _ ⟨(blk_cell BK386.out 0).trans rfl, (blk_cell BK386.out 1).trans rfl, (blk_cell BK387.out 0).trans rfl, (blk_cell BK387.out 1).trans rfl⟩ fun hHeld => nT (N := some 7) ?_
 clear hK K
 refine o0 (i := 3) (N := some 8) (bb 5 15) fun K hK => ?_
 refine gS Try.func20 #[.agg #[.bool a0_0, .slice A0_1 l0_1.length c0_1], .agg #[.bool t389, .slice Ao10 t390.length co10]] ?_
 with_reducible refine (big_Add.calls k a0_0 _ _ l0_1 t389 _ _ t390 t393 t394 _ ?side1 ?side2 ?side3 ?side4 A4.out).mono ?_
 (case side1 => exact tc (Kd.C_below HR0_1.out HB.out))
 (case side2 => exact HC0_1.out)
 (case side3 => exact tc (Kd.R_reads' HO392.out).2.2)
 (case side4 => exact (Kd.R_reads' HO392.out).2.1)
 rintro e w11 ⟨v395, rfl, ho0, hb⟩
 refine ⟨_, rfl, ?_⟩
 have HO396 := Aside0.mk (Kd.R_lower (Kd.R_new' ho0 (Kd.R_lt (tq HO392))) (below_size (tb HB)))
 replace BK386 := kb BK386 hb
 replace BK387 := kb BK387 hb
 replace BK388 := kb BK388 hb
 replace HB := bs HB hb
 (try clear hb); (try clear hb2); (try clear hk); (try clear hi); (try clear ho0)
 obtain ⟨Ao13, co13, eo13⟩ := Kd.R_slice HO396.out
 (first | subst eo13 | (injection eo13 with f1_ f2_ f3_; have f4_ := f1_.symm; have f5_ := f3_.symm; clear f1_ f2_ f3_; subst f4_; subst f5_))
 refine hK.out _ _ ⟨(blk_cell BK386.out 0).trans rfl, (blk_cell BK386.out 1).trans rfl, (blk_cell BK387.out 0).trans rfl, (blk_cell BK387.out 1).trans rfl⟩ fun hHeld => nT (N := some 8) ?_
 clear hK K
 refine o0 (i := 4) (N := none) (bb 5 31) fun K hK => ?_
 have hs12 := bc BK388 0 (.bool false)
 have hfs12 := blk_frozen BK388.out 0
 have hns12_0 := NB386_388.out
 have hns12_1 := NB387_388.out
 have hms12_0 := NB388_386.out
 have hms12_1 := NB388_387.out
 have hs14 := bc BK388 1 (.slice none 0 0)
 have hfs14 := blk_frozen BK388.out 1
 have hns14_0 := NB386_388.out
 have hns14_1 := NB387_388.out
 have hms14_0 := NB388_386.out
 have hms14_1 := NB388_387.out
 refine skip_ (w1 := ?_) (by rfl) rfl ?_ ?_
 rotate_left
 ·go_simp
  rfl
 refine hK.out _ _ ⟨((cell_far (p := ⟨gb388, _, none⟩) NB386_388.out _).trans (((cell_far (p := ⟨gb388, _, none⟩) NB386_388.out _).trans (hHeld.1)))), ((cell_far (p := ⟨gb388, _, none⟩) NB386_388.out _).trans (((cell_far (p := ⟨gb388, _, none⟩) NB386_388.out _).trans (hHeld.2.1)))), ((cell_far (p := ⟨gb388, _, none⟩) NB387_388.out _).trans (((cell_far (p := ⟨gb388, _, none⟩) NB387_388.out _).trans (hHeld.2.2.1)))), ((cell_far (p := ⟨gb388, _, none⟩) NB387_388.out _).trans (((cell_far (p := ⟨gb388, _, none⟩) NB387_388.out _).trans (hHeld.2.2.2))))⟩ (fun hHeld => ?_)
 clear hK K
 refine done_ (by kernel_rfl) ?_
 try go_wp2
 refine bodyPost_ret (results_cell_row rfl _ _ gb388 24 #[.bool t393, .slice Ao13 t394.length co13] (0, 0) _ rfl (tk BK388) Try.underlying24 rfl (by kernel_rfl)) rfl ?_
 exact ⟨_, by first | rfl | (simp [errW_none, errW_some] <;> rfl) | (simp [*, errW_none, errW_some] <;> rfl), by (with_reducible repeat first | apply qa | apply qn | apply qd); exact Kd.R_mono (Kd.R_far (p := ⟨gb388, 1, none⟩) (Kd.R_far (p := ⟨gb388, 0, none⟩) (Kd.R_types HO396.out BK388.out (by decide)) (fun _ hk => hk.2) (.bool t393)) (fun _ hk => hk.2) (.slice Ao13 t394.length co13)) (fun _ hk => trivial), tb HB⟩

/-! ### big_Abs: function 30 -/
def big_Abs.f (k : Nat) (a0_0 : Bool) (l0_1 : List Int) : Option (Bool × List Int) := (big_norm.f k false l0_1).bind fun bt399 => (some (bt399.1, bt399.2))
theorem big_Abs.mono : ∀ a0 a1 k, LeO (big_Abs.f k a0 a1) (big_Abs.f (k + 1) a0 a1) := by
 intro a0 a1 k
 unfold big_Abs.f
 repeat' with_reducible first | exact big_norm.mono _ _ _ | exact LeO.refl _ | exact LeO.none _ | refine LeO.ite ?_ ?_ | refine LeO.bind ?_ (fun _ => ?_)
set_option maxHeartbeats 8000000 in
set_option maxRecDepth 100000 in
theorem big_Abs.calls (k : Nat) (a0_0 : Bool) (A0_1 : Option Addr) (c0_1 : Nat) (l0_1 : List Int) (r1 : Bool) (r2 : List Int) (w : World) (hr0_1 : Kd.C (Kd.int .u32) w A0_1 l0_1.length l0_1) (hc0_1 : l0_1.length ≤ c0_1) (h : big_Abs.f k a0_0 l0_1 = some (r1, r2)) :
  Calls Try.prog 30 #[.agg #[.bool a0_0, .slice A0_1 l0_1.length c0_1]] w fun e w' => ∃ v1_ : Value, e = .returned (.agg #[.bool r1, v1_]) ∧ Kd.R (Kd.int .u32) 87 w' w.heap.size (fun _ => True) v1_ r2 ∧ Below w.heap.size w w' := by
 have hu24 := Try.underlying24
 have HR0_1 := Aside0.mk hr0_1
 have HC0_1 := Aside0.mk hc0_1
 clear hr0_1 hc0_1
 have HB := Aside0.mk (Below.refl w.heap.size w)
 have H : ((big_norm.f k false l0_1).bind fun bt399 => (some (bt399.1, bt399.2))) = some (r1, r2) := h
 clear h
 replace H := bi H
 obtain ⟨⟨t399, t400⟩, A20, H⟩ := H
 try dsimp only at H
 have A2 := Aside0.mk A20
 clear A20
 simp only [Option.some.injEq, Prod.mk.injEq] at H
 obtain ⟨rfl, rfl⟩ := H
 go_enter Try.func30, Try.ntmps30
 go_wp2_with (first | ((with_reducible refine gate_dst (N := 1) rfl ?_); refine bx (N := 1) #[.bool a0_0, .slice A0_1 l0_1.length c0_1] 24 ?_; intro gb397 hg w3 hbox hb; have BK397 := Aside0.mk (hbox); have GW397 := bz hg HB; have GE397 := bz hg HB; replace HB := bs HB hb; clear hb hbox hg) | ((with_reducible refine gate_dst (N := 2) rfl ?_); refine bx (N := 2) #[.bool false, .slice none 0 0] 24 ?_; intro gb398 hg w4 hbox hb; have BK398 := Aside0.mk (hbox); have GW398 := bz hg HB; have GE398 := bz hg HB; replace HB := bs HB hb; have NB397_398 := nl hg BK397; have NB398_397 := ng hg BK397; replace BK397 := kb BK397 hb; clear hb hbox hg; have hnb5 := NB397_398.out; have hnc5 := NB398_397.out; have hcz6_0 := bc BK397 0 (.bool a0_0); have hcz6_1 := bc BK397 1 (.slice A0_1 l0_1.length c0_1); have hfz6_0 := blk_frozen BK397.out 0; have hfz6_1 := blk_frozen BK397.out 1) | ((with_reducible refine gate_callee (f := 52) rfl ?_); refine gL (N := some 5) Try.func52 #[.bool false, .slice A0_1 l0_1.length c0_1] ?_; (with_reducible refine (big_norm.calls k false _ _ l0_1 t399 t400 _ ?side1 ?side2 A2.out).mono ?_); (case side1 => exact tc (Kd.C_below HR0_1.out HB.out)); (case side2 => exact HC0_1.out); rintro e w7 ⟨v401, rfl, ho0, hb⟩; refine ⟨_, rfl, ?_⟩; have HO402 := rl ho0 HB; replace BK398 := kb BK398 hb; replace HB := bs HB hb; (try clear hb); (try clear hb2); (try clear hk); (try clear hi); (try clear ho0); have hcz8_0 := bc BK398 0 (.bool false); have hcz8_1 := bc BK398 1 (.slice none 0 0); have hfz8_0 := blk_frozen BK398.out 0; have hfz8_1 := blk_frozen BK398.out 1; obtain ⟨Ao9, co9, eo9⟩ := Kd.R_slice HO402.out; subst eo9))
 refine bodyPost_ret (results_cell_row rfl _ _ gb398 24 #[.bool t399, .slice Ao9 t400.length co9] (0, 0) _ rfl (tk BK398) Try.underlying24 rfl (by kernel_rfl)) rfl ?_
 exact ⟨_, by first | rfl | (simp [errW_none, errW_some] <;> rfl) | (simp [*, errW_none, errW_some] <;> rfl), by (with_reducible repeat first | apply qa | apply qn | apply qd); exact Kd.R_mono (Kd.R_far (p := ⟨gb398, 1, none⟩) (Kd.R_far (p := ⟨gb398, 0, none⟩) (Kd.R_types HO402.out BK398.out (by decide)) (fun _ hk => hk.2) (.bool t399)) (fun _ hk => hk.2) (.slice Ao9 t400.length co9)) (fun _ hk => trivial), tb HB⟩

/-! ### nat_Of: function 71 -/
def nat_Of.f (k : Nat) (a0 : Int) : Option (List Int) := (nat_Norm.f k (([(a0) % 4294967296, (a0 / 4294967296) % 4294967296] : List Int))).bind fun t406 => (some t406)
theorem nat_Of.mono : ∀ a0 k, LeO (nat_Of.f k a0) (nat_Of.f (k + 1) a0) := by
 intro a0 k
 unfold nat_Of.f
 repeat' with_reducible first | exact nat_Norm.mono _ _ | exact LeO.refl _ | exact LeO.none _ | refine LeO.ite ?_ ?_ | refine LeO.bind ?_ (fun _ => ?_)
set_option maxHeartbeats 8000000 in
set_option maxRecDepth 100000 in
theorem nat_Of.calls (k : Nat) (a0 : Int) (r : List Int) (w : World) (h : nat_Of.f k a0 = some r) :
  Calls Try.prog 71 #[.int .u64 a0] w fun e w' => ∃ v0_ : Value, e = .returned (v0_) ∧ Kd.R (Kd.int .u32) 87 w' w.heap.size (fun _ => True) v0_ r ∧ Below w.heap.size w w' := by
 have HB := Aside0.mk (Below.refl w.heap.size w)
 have H : ((nat_Norm.f k (([(a0) % 4294967296, (a0 / 4294967296) % 4294967296] : List Int))).bind fun t406 => (some t406)) = some r := h
 clear h
 obtain ⟨y403, hy403⟩ : ∃ y_ : List Int, y_ = (([(a0) % 4294967296, (a0 / 4294967296) % 4294967296] : List Int)) := ⟨_, rfl⟩
 replace H : ((nat_Norm.f k y403).bind fun t406 => (some t406)) = some r := by first | (rw [hy403]; with_reducible exact H) | (have H2_ := (Option.bind_some _ _).symm.trans H; rw [hy403]; with_reducible exact H2_) | (have H2_ := (Option.bind_some _ _).symm.trans H; with_reducible exact H2_) | with_reducible exact H | (rw [hy403]; exact H) | exact H
 have Ny403 := Aside0.mk hy403
 clear hy403
 replace H := bi H
 obtain ⟨t406, A20, H⟩ := H
 have A2 := Aside0.mk A20
 clear A20
 obtain rfl := Option.some.inj H
 go_enter Try.func71, Try.ntmps71
 go_wp2_with (first | ((with_reducible refine gate_dst (N := 8) rfl ?_); refine Kd.R_lit (Kd.int .u32) _ 87 ?hg (N := 8) ?hd (xs := ([(a0) % 4294967296, (a0 / 4294967296) % 4294967296] : List Int)) (inner := [.int .u32 ((a0) % 4294967296), .int .u32 ((a0 / 4294967296) % 4294967296)]) (ok := fun _ => True) (okp := fun _ => True) ?hr ?hp (fun _ hk => hk) trivial (Below.refl _ _) (Nat.le_refl _) (by simp) ?_; (case hd => rfl); (case hg => rfl); (case hr => first | (go_simp; done) | (go_simp; rfl)); (case hp => exact (Reps.one (show Kd.M (Kd.int .u32) _ _ _ ((a0) % 4294967296) [.int .u32 ((a0) % 4294967296)] from rfl) (Reps.one (show Kd.M (Kd.int .u32) _ _ _ ((a0 / 4294967296) % 4294967296) [.int .u32 ((a0 / 4294967296) % 4294967296)] from rfl) (Reps.none _ _)))); intro v404 w3 ho4 hb hg_ hnew_; clear hg_ hnew_; (first | rw [← Ny403.out] at ho4 | (simp only [Int.reduceToNat] at ho4; rw [← Ny403.out] at ho4)); have HO405 := rl ho4 HB; replace HB := bs HB hb; clear hb ho4; obtain ⟨Ao5, co5, eo5⟩ := Kd.R_slice HO405.out; subst eo5) | ((with_reducible refine gate_callee (f := 75) rfl ?_); refine gL (N := some 9) Try.func75 #[.slice Ao5 y403.length co5] ?_; (with_reducible refine (nat_Norm.calls k _ _ y403 t406 _ ?side1 ?side2 A2.out).mono ?_); (case side1 => exact tc (Kd.R_reads' HO405.out).2.2); (case side2 => exact (Kd.R_reads' HO405.out).2.1); rintro e w6 ⟨v407, rfl, ho0, hb⟩; refine ⟨_, rfl, ?_⟩; have HO408 := Aside0.mk (Kd.R_lower (Kd.R_new' ho0 (Kd.R_lt (tq HO405))) (below_size (tb HB))); replace HB := bs HB hb; (try clear hb); (try clear hb2); (try clear hk); (try clear hi); (try clear ho0)))
 go_ret
 exact ⟨_, by first | rfl | (simp [errW_none, errW_some] <;> rfl) | (simp [*, errW_none, errW_some] <;> rfl), by (with_reducible repeat first | apply qa | apply qn | apply qd); exact Kd.R_mono HO408.out (fun _ hk => trivial), tb HB⟩

/-! ### big_Of: function 40 -/
def big_Of.f (k : Nat) (a0 : Int) : Option (Bool × List Int) := if a0 < 0 then ((nat_Of.f k (IntKind.u64.wrap ((IntKind.u64.wrap (wrap64 (-(wrap64 (a0 + 1))))) + 1))).bind fun t410 => ((big_norm.f k true t410).bind fun bt413 => (some (bt413.1, bt413.2)))) else ((nat_Of.f k (IntKind.u64.wrap (a0))).bind fun t417 => ((big_norm.f k false t417).bind fun bt420 => (some (bt420.1, bt420.2))))
theorem big_Of.mono : ∀ a0 k, LeO (big_Of.f k a0) (big_Of.f (k + 1) a0) := by
 intro a0 k
 unfold big_Of.f
 repeat' with_reducible first | exact big_norm.mono _ _ _ | exact nat_Of.mono _ _ | exact LeO.refl _ | exact LeO.none _ | refine LeO.ite ?_ ?_ | refine LeO.bind ?_ (fun _ => ?_)
set_option maxHeartbeats 8000000 in
set_option maxRecDepth 100000 in
theorem big_Of.calls (k : Nat) (a0 : Int) (r1 : Bool) (r2 : List Int) (w : World) (h : big_Of.f k a0 = some (r1, r2)) :
  Calls Try.prog 40 #[.int .i64 a0] w fun e w' => ∃ v1_ : Value, e = .returned (.agg #[.bool r1, v1_]) ∧ Kd.R (Kd.int .u32) 87 w' w.heap.size (fun _ => True) v1_ r2 ∧ Below w.heap.size w w' := by
 have hu24 := Try.underlying24
 have HB := Aside0.mk (Below.refl w.heap.size w)
 have H : (if a0 < 0 then ((nat_Of.f k (IntKind.u64.wrap ((IntKind.u64.wrap (wrap64 (-(wrap64 (a0 + 1))))) + 1))).bind fun t410 => ((big_norm.f k true t410).bind fun bt413 => (some (bt413.1, bt413.2)))) else ((nat_Of.f k (IntKind.u64.wrap (a0))).bind fun t417 => ((big_norm.f k false t417).bind fun bt420 => (some (bt420.1, bt420.2))))) = some (r1, r2) := h
 clear h
 by_cases c2 : a0 < 0
 ·rw [if_pos c2] at H
  have c2b0 : decide (a0 < 0) = true := decide_eq_true c2
  clear c2
  replace H := bi H
  obtain ⟨t410, A30, H⟩ := H
  have A3 := Aside0.mk A30
  clear A30
  replace H := bi H
  obtain ⟨⟨t413, t414⟩, A40, H⟩ := H
  try dsimp only at H
  have A4 := Aside0.mk A40
  clear A40
  simp only [Option.some.injEq, Prod.mk.injEq] at H
  obtain ⟨rfl, rfl⟩ := H
  go_enter Try.func40, Try.ntmps40
  go_wp2_with (first | ((with_reducible refine gate_dst (N := 2) rfl ?_); refine bx (N := 2) #[.bool false, .slice none 0 0] 24 ?_; intro gb409 hg w5 hbox hb; have BK409 := Aside0.mk (hbox); have GW409 := bz hg HB; have GE409 := bz hg HB; replace HB := bs HB hb; clear hb hbox hg) | ((with_reducible refine gate_callee (f := 71) rfl ?_); refine gL (N := some 10) Try.func71 #[.int .u64 (IntKind.u64.wrap ((IntKind.u64.wrap (wrap64 (-(wrap64 (a0 + 1))))) + 1))] ?_; (with_reducible refine (nat_Of.calls k (IntKind.u64.wrap ((IntKind.u64.wrap (wrap64 (-(wrap64 (a0 + 1))))) + 1)) t410 _ A3.out).mono ?_); rintro e w6 ⟨v411, rfl, ho0, hb⟩; refine ⟨_, rfl, ?_⟩; have HO412 := rl ho0 HB; replace BK409 := kb BK409 hb; replace HB := bs HB hb; (try clear hb); (try clear hb2); (try clear hk); (try clear hi); (try clear ho0); obtain ⟨Ao7, co7, eo7⟩ := Kd.R_slice HO412.out; subst eo7) | ((with_reducible refine gate_callee (f := 52) rfl ?_); refine gL (N := some 11) Try.func52 #[.bool true, .slice Ao7 t410.length co7] ?_; (with_reducible refine (big_norm.calls k true _ _ t410 t413 t414 _ ?side1 ?side2 A4.out).mono ?_); (case side1 => exact tc (Kd.R_reads' HO412.out).2.2); (case side2 => exact (Kd.R_reads' HO412.out).2.1); rintro e w8 ⟨v415, rfl, ho0, hb⟩; refine ⟨_, rfl, ?_⟩; have HO416 := Aside0.mk (Kd.R_lower (Kd.R_new' ho0 (Kd.R_lt (tq HO412))) (below_size (tb HB))); replace BK409 := kb BK409 hb; replace HB := bs HB hb; (try clear hb); (try clear hb2); (try clear hk); (try clear hi); (try clear ho0); have hcz9_0 := bc BK409 0 (.bool false); have hcz9_1 := bc BK409 1 (.slice none 0 0); have hfz9_0 := blk_frozen BK409.out 0; have hfz9_1 := blk_frozen BK409.out 1; obtain ⟨Ao10, co10, eo10⟩ := Kd.R_slice HO416.out; subst eo10))
  refine bodyPost_ret (results_cell_row rfl _ _ gb409 24 #[.bool t413, .slice Ao10 t414.length co10] (0, 0) _ rfl (tk BK409) Try.underlying24 rfl (by kernel_rfl)) rfl ?_
  exact ⟨_, by first | rfl | (simp [errW_none, errW_some] <;> rfl) | (simp [*, errW_none, errW_some] <;> rfl), by (with_reducible repeat first | apply qa | apply qn | apply qd); exact Kd.R_mono (Kd.R_far (p := ⟨gb409, 1, none⟩) (Kd.R_far (p := ⟨gb409, 0, none⟩) (Kd.R_types HO416.out BK409.out (by decide)) (fun _ hk => hk.2) (.bool t413)) (fun _ hk => hk.2) (.slice Ao10 t414.length co10)) (fun _ hk => trivial), tb HB⟩
 ·rw [if_neg c2] at H
  have c2b0 : decide (a0 < 0) = false := decide_eq_false c2
  clear c2
  replace H := bi H
  obtain ⟨t417, A110, H⟩ := H
  have A11 := Aside0.mk A110
  clear A110
  replace H := bi H
  obtain ⟨⟨t420, t421⟩, A120, H⟩ := H
  try dsimp only at H
  have A12 := Aside0.mk A120
  clear A120
  simp only [Option.some.injEq, Prod.mk.injEq] at H
  obtain ⟨rfl, rfl⟩ := H
  go_enter Try.func40, Try.ntmps40
  go_wp2_with (first | ((with_reducible refine gate_dst (N := 2) rfl ?_); refine bx (N := 2) #[.bool false, .slice none 0 0] 24 ?_; intro gb409 hg w13 hbox hb; have BK409 := Aside0.mk (hbox); have GW409 := bz hg HB; have GE409 := bz hg HB; replace HB := bs HB hb; clear hb hbox hg) | ((with_reducible refine gate_callee (f := 71) rfl ?_); refine gL (N := some 14) Try.func71 #[.int .u64 (IntKind.u64.wrap (a0))] ?_; (with_reducible refine (nat_Of.calls k (IntKind.u64.wrap (a0)) t417 _ A11.out).mono ?_); rintro e w14 ⟨v418, rfl, ho0, hb⟩; refine ⟨_, rfl, ?_⟩; have HO419 := rl ho0 HB; replace BK409 := kb BK409 hb; replace HB := bs HB hb; (try clear hb); (try clear hb2); (try clear hk); (try clear hi); (try clear ho0); obtain ⟨Ao15, co15, eo15⟩ := Kd.R_slice HO419.out; subst eo15) | ((with_reducible refine gate_callee (f := 52) rfl ?_); refine gL (N := some 15) Try.func52 #[.bool false, .slice Ao15 t417.length co15] ?_; (with_reducible refine (big_norm.calls k false _ _ t417 t420 t421 _ ?side1 ?side2 A12.out).mono ?_); (case side1 => exact tc (Kd.R_reads' HO419.out).2.2); (case side2 => exact (Kd.R_reads' HO419.out).2.1); rintro e w16 ⟨v422, rfl, ho0, hb⟩; refine ⟨_, rfl, ?_⟩; have HO423 := Aside0.mk (Kd.R_lower (Kd.R_new' ho0 (Kd.R_lt (tq HO419))) (below_size (tb HB))); replace BK409 := kb BK409 hb; replace HB := bs HB hb; (try clear hb); (try clear hb2); (try clear hk); (try clear hi); (try clear ho0); have hcz17_0 := bc BK409 0 (.bool false); have hcz17_1 := bc BK409 1 (.slice none 0 0); have hfz17_0 := blk_frozen BK409.out 0; have hfz17_1 := blk_frozen BK409.out 1; obtain ⟨Ao18, co18, eo18⟩ := Kd.R_slice HO423.out; subst eo18))
  refine bodyPost_ret (results_cell_row rfl _ _ gb409 24 #[.bool t420, .slice Ao18 t421.length co18] (0, 0) _ rfl (tk BK409) Try.underlying24 rfl (by kernel_rfl)) rfl ?_
  exact ⟨_, by first | rfl | (simp [errW_none, errW_some] <;> rfl) | (simp [*, errW_none, errW_some] <;> rfl), by (with_reducible repeat first | apply qa | apply qn | apply qd); exact Kd.R_mono (Kd.R_far (p := ⟨gb409, 1, none⟩) (Kd.R_far (p := ⟨gb409, 0, none⟩) (Kd.R_types HO423.out BK409.out (by decide)) (fun _ hk => hk.2) (.bool t420)) (fun _ hk => hk.2) (.slice Ao18 t421.length co18)) (fun _ hk => trivial), tb HB⟩

end Go.Proofs.Ytjpnaapimnoamaa.QBigGcds
