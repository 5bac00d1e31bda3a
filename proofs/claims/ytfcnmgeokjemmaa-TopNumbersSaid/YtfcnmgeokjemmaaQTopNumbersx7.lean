-- written by wip/wprint, a program of this session
import Derived.Test.YtfcnmgeokjemmaaQTopNumbersx0
import Derived.Test.YtfcnmgeokjemmaaQTopNumbersx1
import Derived.Test.YtfcnmgeokjemmaaQTopNumbersx2
import Derived.Test.YtfcnmgeokjemmaaQTopNumbersx4
import Derived.Test.YtfcnmgeokjemmaaQTopNumbersx6
namespace Go.Proofs.Ytfcnmgeokjemmaa.QTopNumbers
open Go.RowKit Go.Proofs.YtfcnmgeokjemmaaW.PrintWords Go.Proofs.YtfcnmgeokjemmaaW.PrintLast Go.Proofs.YtfcnmgeokjemmaaW.PrintMore
open Go.Proofs.YtfcnmgeokjemmaaW.PrintWords.Kd renaming R_alloc → qa, R_drewN → qn, R_drew → qd, V_alloc → va, V_drewN → vn, V_drew → vd
open Go.Proofs.YtfcnmgeokjemmaaW.PrintWords renaming below_alloc → ba, pw_below_drewN → bn, below_drew1 → bd
attribute [local go_sem] max2_int min2_int max_two min_two max_three min_three max_four min_four   -- for this text's walks alone
set_option linter.unusedVariables false
set_option linter.unusedSimpArgs false

/-! ### nat_Sub: function 19 -/
def nat_Sub.l0 : Nat → List Int → List Int → List Int → Int → Int → Int → Option (List Int × Int)
 | 0, _, _, _, _, _, _ => none
 | k + 1, x0, x1, x6, x7, x22, x23 => if x23 < x22 then (if x23 < (x1.length : Int) then (if 0 ≤ x23 then (if x23 < (x0.length : Int) then ((bits_Sub32.f (rd x0 x23) (rd x1 x23) x7).bind fun bt211 => (if x23 < (x6.length : Int) then (nat_Sub.l0 k x0 x1 (x6.set (x23 : Int).toNat bt211.1) bt211.2 x22 (wrap64 (x23 + 1))) else (none))) else (none)) else (none)) else (if 0 ≤ x23 then (if x23 < (x0.length : Int) then ((bits_Sub32.f (rd x0 x23) 0 x7).bind fun bt215 => (if x23 < (x6.length : Int) then (nat_Sub.l0 k x0 x1 (x6.set (x23 : Int).toNat bt215.1) bt215.2 x22 (wrap64 (x23 + 1))) else (none))) else (none)) else (none))) else ((nat_trim.f k x6).bind fun t218 => (some (t218, 0)))
def nat_Sub.f (k : Nat) (l0 : List Int) (l1 : List Int) : Option (List Int × Int) := (nat_Cmp.f k l0 l1).bind fun t199 => (if t199 < 0 then (some (([] : List Int), 5)) else ((nat_trim.f k l0).bind fun t200 => ((nat_trim.f k l1).bind fun t203 => (if 0 ≤ (t200.length : Int) then (if ((t200.length : Int) : Int).toNat ≤ 70368744177664 then (nat_Sub.l0 k t200 t203 (List.replicate ((t200.length : Int) : Int).toNat 0) 0 (t200.length : Int) 0) else (none)) else (none)))))
theorem nat_Sub.mono_l : ∀ k, (∀ y0 y1 y2 y3 y4 y5, LeO (nat_Sub.l0 k y0 y1 y2 y3 y4 y5) (nat_Sub.l0 (k + 1) y0 y1 y2 y3 y4 y5))
 | 0 => fun _ _ _ _ _ _ r h => by simp [nat_Sub.l0] at h
 | k + 1 => by
  have ih0 := nat_Sub.mono_l k
  ·intro y0 y1 y2 y3 y4 y5
   unfold nat_Sub.l0
   repeat' with_reducible first | exact ih0 _ _ _ _ _ _ | exact nat_Cmp.mono _ _ _ | exact nat_trim.mono _ _ | exact LeO.refl _ | exact LeO.none _ | refine LeO.ite ?_ ?_ | refine LeO.bind ?_ (fun _ => ?_)
theorem nat_Sub.mono : ∀ a0 a1 k, LeO (nat_Sub.f k a0 a1) (nat_Sub.f (k + 1) a0 a1) := by
 intro a0 a1 k
 have ih0 := nat_Sub.mono_l k
 unfold nat_Sub.f
 repeat' with_reducible first | exact ih0 _ _ _ _ _ _ | exact nat_Cmp.mono _ _ _ | exact nat_trim.mono _ _ | exact LeO.refl _ | exact LeO.none _ | refine LeO.ite ?_ ?_ | refine LeO.bind ?_ (fun _ => ?_)
set_option maxHeartbeats 8000000 in
set_option maxRecDepth 100000 in
theorem nat_Sub.calls (k : Nat) (P0_ : Nat → Prop) (A0 : Option Addr) (c0 : Nat) (l0 : List Int) (P1_ : Nat → Prop) (A1 : Option Addr) (c1 : Nat) (l1 : List Int) (r1 : List Int) (r2 : Int) (w : World) (hs0 : Kd.V (Kd.int .u32) 42 w w.heap.size (fun k_ => P0_ k_) (.slice A0 l0.length c0) l0) (hs1 : Kd.V (Kd.int .u32) 42 w w.heap.size (fun k_ => P1_ k_) (.slice A1 l1.length c1) l1) (h : nat_Sub.f k l0 l1 = some (r1, r2)) :
  Calls Try.prog 19 #[.slice A0 l0.length c0, .slice A1 l1.length c1] w fun e w' => ∃ v0_ : Value, e = .returned (.tuple #[v0_, .int .i64 r2]) ∧ Kd.V (Kd.int .u32) 42 w' w.heap.size (fun k_ => ((P0_ k_ ∨ P1_ k_) ∨ w.heap.size ≤ k_)) v0_ r1 ∧ Below w.heap.size w w' := by
 have HO0 := Aside0.mk (show Kd.V (Kd.int .u32) 42 w w.heap.size (fun k_ => ((P0_ k_ ∨ P1_ k_) ∨ w.heap.size ≤ k_)) (.slice A0 l0.length c0) l0 from Kd.V_mono hs0 (fun k_ hk => .inl (.inl hk)))
 have HO1 := Aside0.mk (show Kd.V (Kd.int .u32) 42 w w.heap.size (fun k_ => ((P0_ k_ ∨ P1_ k_) ∨ w.heap.size ≤ k_)) (.slice A1 l1.length c1) l1 from Kd.V_mono hs1 (fun k_ hk => .inl (.inr hk)))
 have HB := Aside0.mk (Below.refl w.heap.size w)
 have H : ((nat_Cmp.f k l0 l1).bind fun t199 => (if t199 < 0 then (some (([] : List Int), 5)) else ((nat_trim.f k l0).bind fun t200 => ((nat_trim.f k l1).bind fun t203 => (if 0 ≤ (t200.length : Int) then (if ((t200.length : Int) : Int).toNat ≤ 70368744177664 then (nat_Sub.l0 k t200 t203 (List.replicate ((t200.length : Int) : Int).toNat 0) 0 (t200.length : Int) 0) else (none)) else (none)))))) = some (r1, r2) := h
 clear h
 replace H := bi H
 obtain ⟨t199, A30, H⟩ := H
 have A3 := Aside0.mk A30
 clear A30
 by_cases c4 : t199 < 0
 ·rw [if_pos c4] at H
  have c4b0 : decide (t199 < 0) = true := decide_eq_true c4
  clear c4
  simp only [Option.some.injEq, Prod.mk.injEq] at H
  obtain ⟨rfl, rfl⟩ := H
  go_enter Try.func19, Try.ntmps19
  go_wp2_with (first | ((with_reducible refine gate_callee (f := 11) rfl ?_); refine gL (N := some 12) Try.func11 #[.slice A0 l0.length c0, .slice A1 l1.length c1] ?_; (with_reducible refine (nat_Cmp.calls k _ _ l0 _ _ l1 t199 _ ?side1 ?side2 ?side3 ?side4 A3.out).mono ?_); (case side1 => exact tc (Kd.V_reads' HO0.out).2.2); (case side2 => exact (Kd.V_reads' HO0.out).2.1); (case side3 => exact tc (Kd.V_reads' HO1.out).2.2); (case side4 => exact (Kd.V_reads' HO1.out).2.1); rintro e w5 ⟨rfl, hb⟩; refine ⟨_, rfl, ?_⟩; replace HB := bs HB hb; (try clear hb); (try clear hb2); (try clear hk); (try clear hi)))
  go_ret2
  exact ⟨_, by first | rfl | (simp [errW_none, errW_some] <;> rfl) | (simp [*, errW_none, errW_some] <;> rfl), Kd.V_nil _ _ _ _ _, tb HB⟩
 ·rw [if_neg c4] at H
  have c4b0 : decide (t199 < 0) = false := decide_eq_false c4
  clear c4
  replace H := bi H
  obtain ⟨t200, A60, H⟩ := H
  have A6 := Aside0.mk A60
  clear A60
  replace H := bi H
  obtain ⟨t203, A70, H⟩ := H
  have A7 := Aside0.mk A70
  clear A70
  by_cases c8 : 0 ≤ (t200.length : Int)
  ·rw [if_pos c8] at H
   have c8b0 := eq_true c8
   have c8b1 : decide (0 ≤ (t200.length : Int)) = true := decide_eq_true c8
   clear c8
   by_cases c9 : ((t200.length : Int) : Int).toNat ≤ 70368744177664
   ·rw [if_pos c9] at H
    have c9b0 := eq_true c9
    have c9b1 : decide (((t200.length : Int) : Int).toNat ≤ 70368744177664) = true := decide_eq_true c9
    clear c9
    obtain ⟨y206, hy206⟩ : ∃ y_ : List Int, y_ = (List.replicate ((t200.length : Int) : Int).toNat 0) := ⟨_, rfl⟩
    replace H : (nat_Sub.l0 k t200 t203 y206 0 (t200.length : Int) 0) = some (r1, r2) := by first | (rw [hy206]; with_reducible exact H) | (have H2_ := (Option.bind_some _ _).symm.trans H; rw [hy206]; with_reducible exact H2_) | (have H2_ := (Option.bind_some _ _).symm.trans H; with_reducible exact H2_) | with_reducible exact H | (rw [hy206]; exact H) | exact H
    have Ny206 := Aside0.mk hy206
    clear hy206
    have H' := Aside0.mk H
    clear H
    go_enter Try.func19, Try.ntmps19
    go_wp2_with (first | ((with_reducible refine gate_callee (f := 11) rfl ?_); refine gL (N := some 12) Try.func11 #[.slice A0 l0.length c0, .slice A1 l1.length c1] ?_; (with_reducible refine (nat_Cmp.calls k _ _ l0 _ _ l1 t199 _ ?side1 ?side2 ?side3 ?side4 A3.out).mono ?_); (case side1 => exact tc (Kd.V_reads' HO0.out).2.2); (case side2 => exact (Kd.V_reads' HO0.out).2.1); (case side3 => exact tc (Kd.V_reads' HO1.out).2.2); (case side4 => exact (Kd.V_reads' HO1.out).2.1); rintro e w10 ⟨rfl, hb⟩; refine ⟨_, rfl, ?_⟩; replace HO0 := vb HO0 hb; replace HO1 := vb HO1 hb; replace HB := bs HB hb; (try clear hb); (try clear hb2); (try clear hk); (try clear hi)) | ((with_reducible refine gate_callee (f := 21) rfl ?_); refine gL (N := some 15) Try.func21 #[.slice A0 l0.length c0] ?_; (with_reducible refine (nat_trim.calls k (fun k_ => ((P0_ k_ ∨ P1_ k_) ∨ w.heap.size ≤ k_)) _ _ l0 t200 _ ?side1 A6.out).mono ?_); (case side1 => exact HO0.out); rintro e w11 ⟨v201, rfl, ho0, hb⟩; refine ⟨_, rfl, ?_⟩; have HO202 := Aside0.mk (Kd.V_lower (Kd.V_mono (ok' := fun k_ => ((P0_ k_ ∨ P1_ k_) ∨ w.heap.size ≤ k_)) ho0 (fun k_ hk_ => Or.elim hk_ (fun hs_ => hs_) (fun hn_ => (.inr (Nat.le_trans (below_size (tb HB)) hn_))))) (below_size (tb HB))); replace HO1 := vb HO1 hb; replace HB := bs HB hb; (try clear hb); (try clear hb2); (try clear hk); (try clear hi); (try clear ho0)) | ((with_reducible refine gate_callee (f := 21) rfl ?_); refine gL (N := some 17) Try.func21 #[.slice A1 l1.length c1] ?_; (with_reducible refine (nat_trim.calls k (fun k_ => ((P0_ k_ ∨ P1_ k_) ∨ w.heap.size ≤ k_)) _ _ l1 t203 _ ?side1 A7.out).mono ?_); (case side1 => exact HO1.out); rintro e w12 ⟨v204, rfl, ho0, hb⟩; refine ⟨_, rfl, ?_⟩; have HO205 := Aside0.mk (Kd.V_lower (Kd.V_mono (ok' := fun k_ => ((P0_ k_ ∨ P1_ k_) ∨ w.heap.size ≤ k_)) ho0 (fun k_ hk_ => Or.elim hk_ (fun hs_ => hs_) (fun hn_ => (.inr (Nat.le_trans (below_size (tb HB)) hn_))))) (below_size (tb HB))); replace HO202 := vb HO202 hb; replace HB := bs HB hb; (try clear hb); (try clear hb2); (try clear hk); (try clear hi); (try clear ho0); obtain ⟨Ao13, co13, eo13⟩ := Kd.V_slice HO202.out; subst eo13) | ((with_reducible refine gate_dst (N := 20) rfl ?_); refine Kd.R_make (Kd.int .u32) _ 42 rfl (N := 20) rfl 22 _ _ rfl (t200.length : Int) rfl rfl Try.underlying22 (.int .u32 0) 4 info42 rfl (by decide) (by omega) 0 (ok := fun _ => True) (okp := fun _ => True) rfl (fun _ hk => hk) trivial (td) (Nat.le_trans (Nat.mul_le_mul_right _ (td : (t200.length : Int).toNat ≤ 70368744177664)) (by omega)) (Below.refl _ _) (Nat.le_refl _) ?_; intro v207 w14 ho15 hb hg_ hnew_; clear hg_ hnew_; (first | rw [← Ny206.out] at ho15 | (simp only [Int.reduceToNat] at ho15; rw [← Ny206.out] at ho15)); have HO208 := Aside0.mk (Kd.R_lower (Kd.R_newM (M := fun k_ => (w.heap.size ≤ k_)) ho15 (below_size (tb HB)) (fun k_ h_ => h_)) (below_size (tb HB))); replace HO202 := Aside0.mk (Kd.V_elder' (tv HO202) (Kd.R_base ho15) hb); replace HO205 := Aside0.mk (Kd.V_elder' (tv HO205) (Kd.R_base ho15) hb); replace HB := bs HB hb; clear hb ho15))
    go_loopg [7, 23] k (fun kq v7 v23 w' => ∃ (x6_1 : List Int) (x7_1 : Int) (x23_1 : Int), v7 = .int .u32 x7_1 ∧ v23 = .int .i64 x23_1 ∧ Aside0 (nat_Sub.l0 kq t200 t203 x6_1 x7_1 (t200.length : Int) x23_1 = some (r1, r2)) ∧ Aside0 (kq ≤ k) ∧ Aside0 (Kd.V (Kd.int .u32) 42 w' w.heap.size (fun k_ => ((P0_ k_ ∨ P1_ k_) ∨ w.heap.size ≤ k_) ∧ some k_ ≠ (v207 : Value).ownBlock) (.slice Ao13 t200.length co13) t200) ∧ Aside0 (Kd.V (Kd.int .u32) 42 w' w.heap.size (fun k_ => ((P0_ k_ ∨ P1_ k_) ∨ w.heap.size ≤ k_) ∧ some k_ ≠ (v207 : Value).ownBlock) v204 t203) ∧ Aside0 (Kd.R (Kd.int .u32) 42 w' w.heap.size (fun k_ => (w.heap.size ≤ k_)) v207 x6_1) ∧ Aside0 (Below w.heap.size w w'))
    case atStart => exact ⟨(y206), (0), (0), (by first | rfl | (simp; done) | (simp [*]; done)), (by first | rfl | (simp; done) | (simp [*]; done)), H', ⟨Nat.le_refl _⟩, ⟨tv HO202⟩, ⟨tv HO205⟩, ⟨by (with_reducible repeat first | apply qa | apply qn | apply qd); exact Kd.R_mono HO208.out (fun _ hk => hk.1)⟩, ⟨tb HB⟩⟩
    case round =>
     clear H'
     (try clear c1); (try clear c2); (try clear p2); (try clear c4); (try clear c4b0); (try clear c8); (try clear c8b0); (try clear c8b1); (try clear c9); (try clear c9b0); (try clear c9b1); (try clear c11)
     obtain ⟨x6_1, x7_1, x23_1, rfl, rfl, HA, HK1, HO_0, HO_1, HO_6, HB⟩ := hrel
     cases gk with
     | zero => exact absurd HA.out (by simp [nat_Sub.l0])
     | succ k1 =>
      have H := HA.out
      clear HA
      simp only [nat_Sub.l0] at H
      by_cases c16 : x23_1 < (t200.length : Int)
      ·rw [if_pos c16] at H
       have c16b0 : decide (x23_1 < (t200.length : Int)) = true := decide_eq_true c16
       clear c16
       by_cases c17 : x23_1 < (t203.length : Int)
       ·rw [if_pos c17] at H
        have c17b0 : decide (x23_1 < (t203.length : Int)) = true := decide_eq_true c17
        clear c17
        by_cases c18 : 0 ≤ x23_1
        ·rw [if_pos c18] at H
         have c18b0 : decide (0 ≤ x23_1) = true := decide_eq_true c18
         clear c18
         by_cases c19 : x23_1 < (t200.length : Int)
         ·rw [if_pos c19] at H
          have c19b0 : decide (x23_1 < (t200.length : Int)) = true := decide_eq_true c19
          clear c19
          replace H := bi H
          obtain ⟨⟨t211, t212⟩, A200, H⟩ := H
          try dsimp only at H
          have A20 := Aside0.mk A200
          clear A200
          by_cases c21 : x23_1 < (x6_1.length : Int)
          ·rw [if_pos c21] at H
           have c21b0 : decide (x23_1 < (x6_1.length : Int)) = true := decide_eq_true c21
           clear c21
           obtain ⟨y213, hy213⟩ : ∃ y_ : List Int, y_ = (x6_1.set (x23_1 : Int).toNat t211) := ⟨_, rfl⟩
           replace H : (nat_Sub.l0 k1 t200 t203 y213 t212 (t200.length : Int) (wrap64 (x23_1 + 1))) = some (r1, r2) := by first | (rw [hy213]; with_reducible exact H) | (have H2_ := (Option.bind_some _ _).symm.trans H; rw [hy213]; with_reducible exact H2_) | (have H2_ := (Option.bind_some _ _).symm.trans H; with_reducible exact H2_) | with_reducible exact H | (rw [hy213]; exact H) | exact H
           have Ny213 := Aside0.mk hy213
           clear hy213
           have H' := Aside0.mk H
           clear H
           obtain ⟨Ao23, co23, eo23⟩ := Kd.V_slice HO_1.out
           subst eo23
           have p209 : 0 ≤ (x23_1 : Int) := td
           have q209 : x23_1 < (t203.length : Int) := td
           obtain ⟨ad209, e209, hx209_0⟩ := Kd.at_int (Kd.V_reads' HO_1.out).2.2 x23_1 p209 q209
           cases e209
           replace p209 := eq_true p209
           replace q209 := eq_true q209
           have p210 : 0 ≤ (x23_1 : Int) := td
           have q210 : x23_1 < (t200.length : Int) := td
           obtain ⟨ad210, e210, hx210_0⟩ := Kd.at_int (Kd.V_reads' HO_0.out).2.2 x23_1 p210 q210
           cases e210
           replace p210 := eq_true p210
           replace q210 := eq_true q210
           go_wp2_with (first | ((with_reducible refine gate_callee (f := 29) rfl ?_); refine gL (N := some 43) Try.func29 #[.int .u32 (rd t200 x23_1), .int .u32 (rd t203 x23_1), .int .u32 x7_1] ?_; (with_reducible refine (bits_Sub32.calls (rd t200 x23_1) (rd t203 x23_1) x7_1 t211 t212 _ A20.out).mono ?_); rintro e w' ⟨rfl, ⟨nd, rfl⟩⟩; refine ⟨_, rfl, ?_⟩; (try (rw [drewN_self wr]; generalize hq_ : World.drewN wr _ = wr; have n0_ : Aside0 (Kd.V (Kd.int .u32) 42 wr w.heap.size (fun k_ => ((P0_ k_ ∨ P1_ k_) ∨ w.heap.size ≤ k_) ∧ some k_ ≠ (v207 : Value).ownBlock) (.slice (some ad210) t200.length co13) t200) := ⟨by rw [← hq_]; exact (tv HO_0)⟩; have n1_ : Aside0 (Kd.V (Kd.int .u32) 42 wr w.heap.size (fun k_ => ((P0_ k_ ∨ P1_ k_) ∨ w.heap.size ≤ k_) ∧ some k_ ≠ (v207 : Value).ownBlock) (.slice (some ad209) t203.length co23) t203) := ⟨by rw [← hq_]; exact (tv HO_1)⟩; have n2_ : Aside0 (Kd.R (Kd.int .u32) 42 wr w.heap.size (fun k_ => (w.heap.size ≤ k_)) v207 x6_1) := ⟨by rw [← hq_]; exact (tq HO_6)⟩; have n3_ : Aside0 (Below w.heap.size w wr) := ⟨by rw [← hq_]; exact (tb HB)⟩; clear HO_0 HO_1 HO_6 HB hq_; have HO_0 := n0_; have HO_1 := n1_; have HO_6 := n2_; have HB := n3_; clear n0_ n1_ n2_ n3_)); have p22 : 0 ≤ (x23_1 : Int) := td; have q22 : (x23_1 : Int) < ((x6_1.length : Int) : Int) := td; obtain ⟨go22, co22, eo22, gb22, gl22, cl22, HG22⟩ := Kd.R_form HO_6.out (by omega); (first | cases eo22 | (injection eo22 with ea_ en_ ec_; (first | subst ea_ | (injection ea_ with ea_; subst ea_)); subst ec_; clear en_)); have GB22 := Aside0.mk gb22; have GG22 := Aside0.mk HG22; clear gb22 gl22 HG22; obtain ⟨hx22_0, hf22_0⟩ := Kd.R_celln 0 HO_6.out (x23_1 : Int) p22 q22; replace p22 := eq_true p22; replace q22 := eq_true q22; obtain ⟨hy24_, hz24_⟩ := Kd.R_celln 0 HO_6.out (x23_1 : Int) (td) (td); have HP24 := Kd.R_putg HO_6.out (x23_1 : Int) t211) | ((with_reducible refine gate_store (t := 42) (p := 46) rfl ?_); refine store_event (t := 42) (p := 46) (v := ?vo_w25) (w1 := (wr.setCell ⟨go22, (x23_1 : Int).toNat, none⟩ (.int .u32 t211))) ?hg ?ho ?hn ?hr ?_; (case ho => rfl); (case hg => rfl); (case hn => rfl); (case hr => first | (go_simp; done) | (go_simp; rfl)); intro w25 hw; have hg : wr.grownBy w25 (some go22) := (by rw [hw]; exact HP24.2); have hp_ : Kd.R (Kd.int .u32) 42 w25 w.heap.size (fun k_ => (w.heap.size ≤ k_)) (.slice (some ⟨go22, 0, none⟩) x6_1.length co22) y213 := (by rw [hw, Ny213.out]; exact HP24.1); clear HP24; replace HO_0 := Aside0.mk (Kd.V_afterv (v := (.slice (some ⟨go22, 0, none⟩) x6_1.length co22)) (v1 := (.slice (some ⟨go22, 0, none⟩) x6_1.length co22)) (ok := (fun k_ => ((P0_ k_ ∨ P1_ k_) ∨ w.heap.size ≤ k_))) (tv HO_0) hg (.inl rfl)); replace HO_1 := Aside0.mk (Kd.V_afterv (v := (.slice (some ⟨go22, 0, none⟩) x6_1.length co22)) (v1 := (.slice (some ⟨go22, 0, none⟩) x6_1.length co22)) (ok := (fun k_ => ((P0_ k_ ∨ P1_ k_) ∨ w.heap.size ≤ k_))) (tv HO_1) hg (.inl rfl)); replace HO_6 := Aside0.mk (hp_); replace HB := Aside0.mk ((by rw [hw]; exact below_set (HB.out) GB22.out : Below w.heap.size w w25)); clear hg hw hp_))
           go_roundg k1
           case measure => have := HK1.out; omega
           case rel => exact ⟨(y213), (t212), (wrap64 (x23_1 + 1)), (by first | rfl | (simp; done) | (simp [*]; done)), (by first | rfl | (simp; done) | (simp [*]; done)), H', ⟨by have := HK1.out; omega⟩, ⟨tv HO_0⟩, ⟨tv HO_1⟩, ⟨tq HO_6⟩, ⟨tb HB⟩⟩
          ·rw [if_neg c21] at H
           exact absurd H (by simp)
         ·rw [if_neg c19] at H
          exact absurd H (by simp)
        ·rw [if_neg c18] at H
         exact absurd H (by simp)
       ·rw [if_neg c17] at H
        have c17b0 : decide (x23_1 < (t203.length : Int)) = false := decide_eq_false c17
        clear c17
        by_cases c26 : 0 ≤ x23_1
        ·rw [if_pos c26] at H
         have c26b0 : decide (0 ≤ x23_1) = true := decide_eq_true c26
         clear c26
         by_cases c27 : x23_1 < (t200.length : Int)
         ·rw [if_pos c27] at H
          have c27b0 : decide (x23_1 < (t200.length : Int)) = true := decide_eq_true c27
          clear c27
          replace H := bi H
          obtain ⟨⟨t215, t216⟩, A280, H⟩ := H
          try dsimp only at H
          have A28 := Aside0.mk A280
          clear A280
          by_cases c29 : x23_1 < (x6_1.length : Int)
          ·rw [if_pos c29] at H
           have c29b0 : decide (x23_1 < (x6_1.length : Int)) = true := decide_eq_true c29
           clear c29
           obtain ⟨y217, hy217⟩ : ∃ y_ : List Int, y_ = (x6_1.set (x23_1 : Int).toNat t215) := ⟨_, rfl⟩
           replace H : (nat_Sub.l0 k1 t200 t203 y217 t216 (t200.length : Int) (wrap64 (x23_1 + 1))) = some (r1, r2) := by first | (rw [hy217]; with_reducible exact H) | (have H2_ := (Option.bind_some _ _).symm.trans H; rw [hy217]; with_reducible exact H2_) | (have H2_ := (Option.bind_some _ _).symm.trans H; with_reducible exact H2_) | with_reducible exact H | (rw [hy217]; exact H) | exact H
           have Ny217 := Aside0.mk hy217
           clear hy217
           have H' := Aside0.mk H
           clear H
           obtain ⟨Ao31, co31, eo31⟩ := Kd.V_slice HO_1.out
           subst eo31
           have p214 : 0 ≤ (x23_1 : Int) := td
           have q214 : x23_1 < (t200.length : Int) := td
           obtain ⟨ad214, e214, hx214_0⟩ := Kd.at_int (Kd.V_reads' HO_0.out).2.2 x23_1 p214 q214
           cases e214
           replace p214 := eq_true p214
           replace q214 := eq_true q214
           go_wp2_with (first | ((with_reducible refine gate_callee (f := 29) rfl ?_); refine gL (N := some 43) Try.func29 #[.int .u32 (rd t200 x23_1), .int .u32 0, .int .u32 x7_1] ?_; (with_reducible refine (bits_Sub32.calls (rd t200 x23_1) 0 x7_1 t215 t216 _ A28.out).mono ?_); rintro e w' ⟨rfl, ⟨nd, rfl⟩⟩; refine ⟨_, rfl, ?_⟩; (try (rw [drewN_self wr]; generalize hq_ : World.drewN wr _ = wr; have n0_ : Aside0 (Kd.V (Kd.int .u32) 42 wr w.heap.size (fun k_ => ((P0_ k_ ∨ P1_ k_) ∨ w.heap.size ≤ k_) ∧ some k_ ≠ (v207 : Value).ownBlock) (.slice (some ad214) t200.length co13) t200) := ⟨by rw [← hq_]; exact (tv HO_0)⟩; have n1_ : Aside0 (Kd.V (Kd.int .u32) 42 wr w.heap.size (fun k_ => ((P0_ k_ ∨ P1_ k_) ∨ w.heap.size ≤ k_) ∧ some k_ ≠ (v207 : Value).ownBlock) (.slice Ao31 t203.length co31) t203) := ⟨by rw [← hq_]; exact (tv HO_1)⟩; have n2_ : Aside0 (Kd.R (Kd.int .u32) 42 wr w.heap.size (fun k_ => (w.heap.size ≤ k_)) v207 x6_1) := ⟨by rw [← hq_]; exact (tq HO_6)⟩; have n3_ : Aside0 (Below w.heap.size w wr) := ⟨by rw [← hq_]; exact (tb HB)⟩; clear HO_0 HO_1 HO_6 HB hq_; have HO_0 := n0_; have HO_1 := n1_; have HO_6 := n2_; have HB := n3_; clear n0_ n1_ n2_ n3_)); have p30 : 0 ≤ (x23_1 : Int) := td; have q30 : (x23_1 : Int) < ((x6_1.length : Int) : Int) := td; obtain ⟨go30, co30, eo30, gb30, gl30, cl30, HG30⟩ := Kd.R_form HO_6.out (by omega); (first | cases eo30 | (injection eo30 with ea_ en_ ec_; (first | subst ea_ | (injection ea_ with ea_; subst ea_)); subst ec_; clear en_)); have GB30 := Aside0.mk gb30; have GG30 := Aside0.mk HG30; clear gb30 gl30 HG30; obtain ⟨hx30_0, hf30_0⟩ := Kd.R_celln 0 HO_6.out (x23_1 : Int) p30 q30; replace p30 := eq_true p30; replace q30 := eq_true q30; obtain ⟨hy32_, hz32_⟩ := Kd.R_celln 0 HO_6.out (x23_1 : Int) (td) (td); have HP32 := Kd.R_putg HO_6.out (x23_1 : Int) t215) | ((with_reducible refine gate_store (t := 42) (p := 46) rfl ?_); refine store_event (t := 42) (p := 46) (v := ?vo_w33) (w1 := (wr.setCell ⟨go30, (x23_1 : Int).toNat, none⟩ (.int .u32 t215))) ?hg ?ho ?hn ?hr ?_; (case ho => rfl); (case hg => rfl); (case hn => rfl); (case hr => first | (go_simp; done) | (go_simp; rfl)); intro w33 hw; have hg : wr.grownBy w33 (some go30) := (by rw [hw]; exact HP32.2); have hp_ : Kd.R (Kd.int .u32) 42 w33 w.heap.size (fun k_ => (w.heap.size ≤ k_)) (.slice (some ⟨go30, 0, none⟩) x6_1.length co30) y217 := (by rw [hw, Ny217.out]; exact HP32.1); clear HP32; replace HO_0 := Aside0.mk (Kd.V_afterv (v := (.slice (some ⟨go30, 0, none⟩) x6_1.length co30)) (v1 := (.slice (some ⟨go30, 0, none⟩) x6_1.length co30)) (ok := (fun k_ => ((P0_ k_ ∨ P1_ k_) ∨ w.heap.size ≤ k_))) (tv HO_0) hg (.inl rfl)); replace HO_1 := Aside0.mk (Kd.V_afterv (v := (.slice (some ⟨go30, 0, none⟩) x6_1.length co30)) (v1 := (.slice (some ⟨go30, 0, none⟩) x6_1.length co30)) (ok := (fun k_ => ((P0_ k_ ∨ P1_ k_) ∨ w.heap.size ≤ k_))) (tv HO_1) hg (.inl rfl)); replace HO_6 := Aside0.mk (hp_); replace HB := Aside0.mk ((by rw [hw]; exact below_set (HB.out) GB30.out : Below w.heap.size w w33)); clear hg hw hp_))
           go_roundg k1
           case measure => have := HK1.out; omega
           case rel => exact ⟨(y217), (t216), (wrap64 (x23_1 + 1)), (by first | rfl | (simp; done) | (simp [*]; done)), (by first | rfl | (simp; done) | (simp [*]; done)), H', ⟨by have := HK1.out; omega⟩, ⟨tv HO_0⟩, ⟨tv HO_1⟩, ⟨tq HO_6⟩, ⟨tb HB⟩⟩
          ·rw [if_neg c29] at H
           exact absurd H (by simp)
         ·rw [if_neg c27] at H
          exact absurd H (by simp)
        ·rw [if_neg c26] at H
         exact absurd H (by simp)
      ·rw [if_neg c16] at H
       have c16b0 : decide (x23_1 < (t200.length : Int)) = false := decide_eq_false c16
       clear c16
       replace H := bi H
       obtain ⟨t218, A340, H⟩ := H
       have A34 := Aside0.mk A340
       clear A340
       simp only [Option.some.injEq, Prod.mk.injEq] at H
       obtain ⟨rfl, rfl⟩ := H
       obtain ⟨Ao35, co35, eo35⟩ := Kd.R_slice HO_6.out
       subst eo35
       go_wp2_with (first | ((with_reducible refine gate_callee (f := 21) rfl ?_); refine gL (N := some 49) Try.func21 #[.slice Ao35 x6_1.length co35] ?_; (with_reducible refine (nat_trim.calls k1 (fun k_ => some k_ = (.slice Ao35 x6_1.length co35 : Value).ownBlock) _ _ x6_1 t218 _ ?side1 A34.out).mono ?_); (case side1 => exact Kd.R_V (Kd.R_tight rfl (HO_6.out))); rintro e w36 ⟨v219, rfl, ho0, hb⟩; refine ⟨_, rfl, ?_⟩; have HO220 := Aside0.mk (Kd.V_lower (Kd.V_mono (ok' := fun k_ => ((P0_ k_ ∨ P1_ k_) ∨ w.heap.size ≤ k_)) ho0 (fun k_ hk_ => Or.elim hk_ (fun hs_ => (.inr (((HO_6.out).1 k_ hs_.symm)))) (fun hn_ => (.inr (Nat.le_trans (below_size (tb HB)) hn_))))) (below_size (tb HB))); replace HB := bs HB hb; (try clear hb); (try clear hb2); (try clear hk); (try clear hi); (try clear ho0)))
       go_ret2
       exact ⟨_, by first | rfl | (simp [errW_none, errW_some] <;> rfl) | (simp [*, errW_none, errW_some] <;> rfl), tv HO220, tb HB⟩
   ·rw [if_neg c9] at H
    exact absurd H (by simp)
  ·rw [if_neg c8] at H
   exact absurd H (by simp)

/-! ### big_Add: function 6 -/
def big_Add.f (k : Nat) (a0_0 : Bool) (l0_1 : List Int) (a1_0 : Bool) (l1_1 : List Int) : Option (Bool × List Int) := if (a0_0 == a1_0) = true then ((nat_Add.f k l0_1 l1_1).bind fun t224 => ((big_norm.f k a0_0 t224).bind fun bt227 => (some (bt227.1, bt227.2)))) else ((nat_Sub.f k l0_1 l1_1).bind fun bt231 => (if bt231.2 = 0 then ((big_norm.f k a0_0 bt231.1).bind fun bt235 => (some (bt235.1, bt235.2))) else ((nat_Sub.f k l1_1 l0_1).bind fun bt239 => ((big_norm.f k a1_0 bt239.1).bind fun bt243 => (some (bt243.1, bt243.2))))))
theorem big_Add.mono : ∀ a0 a1 a2 a3 k, LeO (big_Add.f k a0 a1 a2 a3) (big_Add.f (k + 1) a0 a1 a2 a3) := by
 intro a0 a1 a2 a3 k
 unfold big_Add.f
 repeat' with_reducible first | exact big_norm.mono _ _ _ | exact nat_Add.mono _ _ _ | exact nat_Sub.mono _ _ _ | exact LeO.refl _ | exact LeO.none _ | refine LeO.ite ?_ ?_ | refine LeO.bind ?_ (fun _ => ?_)
def big_Add.T2 : Bool × List (List Nat × List Nat) := (true, [([], []), ([0], [0]), ([], []), ([2], [2]), ([], []), ([4], [4]), ([3, 5], [3, 5]), ([1, 6, 6], [1, 6]), ([7, 7, 0, 1, 2, 3, 4, 5, 6, 7], [7])])
def big_Add.B2 : List Nat := [0, 1, 0, 4, 0, 16, 60, 127, 255]
theorem big_Add.tab2 : rtab .any (opsOf Try.f6 2) = big_Add.T2 := by kernel_rfl
theorem big_Add.bits2 : waitsOk big_Add.T2.2 big_Add.B2 = true := by kernel_rfl
set_option maxHeartbeats 8000000 in
set_option maxRecDepth 100000 in
theorem big_Add.calls (k : Nat) (a0_0 : Bool) (A0_1 : Option Addr) (c0_1 : Nat) (l0_1 : List Int) (a1_0 : Bool) (A1_1 : Option Addr) (c1_1 : Nat) (l1_1 : List Int) (r1 : Bool) (r2 : List Int) (w : World) (hr0_1 : Kd.C (Kd.int .u32) w A0_1 l0_1.length l0_1) (hc0_1 : l0_1.length ≤ c0_1) (hr1_1 : Kd.C (Kd.int .u32) w A1_1 l1_1.length l1_1) (hc1_1 : l1_1.length ≤ c1_1) (h : big_Add.f k a0_0 l0_1 a1_0 l1_1 = some (r1, r2)) :
  Calls Try.prog 6 #[.agg #[.bool a0_0, .slice A0_1 l0_1.length c0_1], .agg #[.bool a1_0, .slice A1_1 l1_1.length c1_1]] w fun e w' => ∃ v1_ : Value, e = .returned (.agg #[.bool r1, v1_]) ∧ Kd.R (Kd.int .u32) 42 w' w.heap.size (fun _ => True) v1_ r2 ∧ Below w.heap.size w w' := by
 have hu24 := Try.underlying24
 have HR0_1 := Aside0.mk hr0_1
 have HC0_1 := Aside0.mk hc0_1
 clear hr0_1 hc0_1
 have HR1_1 := Aside0.mk hr1_1
 have HC1_1 := Aside0.mk hc1_1
 clear hr1_1 hc1_1
 have HB := Aside0.mk (Below.refl w.heap.size w)
 have H : (if (a0_0 == a1_0) = true then ((nat_Add.f k l0_1 l1_1).bind fun t224 => ((big_norm.f k a0_0 t224).bind fun bt227 => (some (bt227.1, bt227.2)))) else ((nat_Sub.f k l0_1 l1_1).bind fun bt231 => (if bt231.2 = 0 then ((big_norm.f k a0_0 bt231.1).bind fun bt235 => (some (bt235.1, bt235.2))) else ((nat_Sub.f k l1_1 l0_1).bind fun bt239 => ((big_norm.f k a1_0 bt239.1).bind fun bt243 => (some (bt243.1, bt243.2))))))) = some (r1, r2) := h
 clear h
 by_cases c3 : (a0_0 == a1_0) = true
 ·rw [if_pos c3] at H
  have c3b0 : (a0_0 == a1_0) = true := c3
  (try (have c3b1 : decide (a0_0 = a1_0) = true := by simpa using c3))
  (try (have c3b2 : (a0_0 == a1_0) = true := by simpa using c3))
  clear c3
  replace H := bi H
  obtain ⟨t224, A40, H⟩ := H
  have A4 := Aside0.mk A40
  clear A40
  replace H := bi H
  obtain ⟨⟨t227, t228⟩, A50, H⟩ := H
  try dsimp only at H
  have A5 := Aside0.mk A50
  clear A50
  simp only [Option.some.injEq, Prod.mk.injEq] at H
  obtain ⟨rfl, rfl⟩ := H
  go_enter Try.func6, Try.ntmps6
  try go_wp2_with (first | ((with_reducible refine gate_dst (N := 2) rfl ?_); refine bx (N := 2) #[.bool a0_0, .slice A0_1 l0_1.length c0_1] 24 ?_; intro gb221 hg w6 hbox hb; have BK221 := Aside0.mk (hbox); have GW221 := bz hg HB; have GE221 := bz hg HB; replace HB := bs HB hb; clear hb hbox hg) | ((with_reducible refine gate_dst (N := 3) rfl ?_); refine bx (N := 3) #[.bool a1_0, .slice A1_1 l1_1.length c1_1] 24 ?_; intro gb222 hg w7 hbox hb; have BK222 := Aside0.mk (hbox); have GW222 := bz hg HB; have GE222 := bz hg HB; replace HB := bs HB hb; have NB221_222 := nl hg BK221; have NB222_221 := ng hg BK221; replace BK221 := kb BK221 hb; clear hb hbox hg) | ((with_reducible refine gate_dst (N := 4) rfl ?_); refine bx (N := 4) #[.bool false, .slice none 0 0] 24 ?_; intro gb223 hg w8 hbox hb; have BK223 := Aside0.mk (hbox); have GW223 := bz hg HB; have GE223 := bz hg HB; replace HB := bs HB hb; have NB221_223 := nl hg BK221; have NB223_221 := ng hg BK221; replace BK221 := kb BK221 hb; have NB222_223 := nl hg BK222; have NB223_222 := ng hg BK222; replace BK222 := kb BK222 hb; clear hb hbox hg; have hnb9 := NB221_222.out; have hnc9 := NB222_221.out; have hnb10 := NB221_223.out; have hnc10 := NB223_221.out; have hcz11_0 := bc BK221 0 (.bool a0_0); have hcz11_1 := bc BK221 1 (.slice A0_1 l0_1.length c0_1); have hfz11_0 := blk_frozen BK221.out 0; have hfz11_1 := blk_frozen BK221.out 1; have hnb12 := NB222_223.out; have hnc12 := NB223_222.out; have hcz13_0 := bc BK222 0 (.bool a1_0); have hcz13_1 := bc BK222 1 (.slice A1_1 l1_1.length c1_1); have hfz13_0 := blk_frozen BK222.out 0; have hfz13_1 := blk_frozen BK222.out 1))
  replace BK221 := Aside0.mk (blk_drew BK221.out)
  replace BK222 := Aside0.mk (blk_drew BK222.out)
  replace BK223 := Aside0.mk (blk_drew BK223.out)
  replace HB := Aside0.mk (below_drew1 HB.out)
  refine start_ (n := 9) (S := fun w' => w'.cell? ⟨gb221, 0, none⟩ = some (.bool a0_0) ∧ w'.cell? ⟨gb221, 1, none⟩ = some (.slice A0_1 l0_1.length c0_1) ∧ w'.cell? ⟨gb222, 0, none⟩ = some (.bool a1_0) ∧ w'.cell? ⟨gb222, 1, none⟩ = some (.slice A1_1 l1_1.length c1_1)) (ds := []) #[false, false, false, false, false, false, false, false, false] (by kernel_rfl) rfl rfl ⟨(blk_cell BK221.out 0).trans rfl, (blk_cell BK221.out 1).trans rfl, (blk_cell BK222.out 0).trans rfl, (blk_cell BK222.out 1).trans rfl⟩ (fun hHeld => ?_); refine with_tabW big_Add.tab2 big_Add.bits2 (fun HT_ HW_ => ?_)
  generalize w8.drew = w14 at BK221 BK222 BK223 HB hHeld ⊢
  refine pT (i := 0) (N := some 14) (bb 9 1) HT_ ?_
  refine pT (i := 2) (N := some 16) (bb 9 5) HT_ ?_
  refine pT (i := 4) (N := some 18) (bb 9 21) HT_ ?_
  refine tW (i := 1) (N := some 15) (bb 9 23) HT_ HW_ hHeld ?_
  refine tW (i := 3) (N := some 17) (bb 9 31) HT_ HW_ hHeld ?_
  refine tW (i := 5) (N := some 19) (bb 9 63) HT_ HW_ hHeld ?_
  refine oT (i := 6) (N := some 20) (bb 9 127) HT_ fun K hK => ?_
  refine gS Try.func18 #[.slice A0_1 l0_1.length c0_1, .slice A1_1 l1_1.length c1_1] ?_
  with_reducible refine (nat_Add.calls k (fun k_ => k_ < w.heap.size) _ _ l0_1 (fun k_ => k_ < w.heap.size) _ _ l1_1 t224 _ ?side1 ?side2 A4.out).mono ?_
  (case side1 => exact Kd.V_mk HC0_1.out (Kd.F_below (Kd.C_F (Kd.heap_int .u32) HR0_1.out) (tb HB)))
  (case side2 => exact Kd.V_mk HC1_1.out (Kd.F_below (Kd.C_F (Kd.heap_int .u32) HR1_1.out) (tb HB)))
  rintro e w15 ⟨v225, rfl, ho0, hb⟩
  refine ⟨_, rfl, ?_⟩
  have HO226 := Aside0.mk (Kd.V_lower (Kd.V_mono (ok' := fun k_ => k_ ≠ gb221 ∧ k_ ≠ gb222 ∧ k_ ≠ gb223) ho0 (fun k_ hk_ => ⟨Or.elim hk_ (fun hs_ => Or.elim hs_ (fun hs_ => fun e_ => Nat.not_le.2 hs_ (by rw [e_]; exact GW221.out)) (fun hs_ => fun e_ => Nat.not_le.2 hs_ (by rw [e_]; exact GW221.out))) (fun hn_ => (Kd.freshB (g := gb221) (o := .cells #[.bool a0_0, .slice A0_1 l0_1.length c0_1] 24 (0, 0)) (tk BK221) k_ hn_)), Or.elim hk_ (fun hs_ => Or.elim hs_ (fun hs_ => fun e_ => Nat.not_le.2 hs_ (by rw [e_]; exact GW222.out)) (fun hs_ => fun e_ => Nat.not_le.2 hs_ (by rw [e_]; exact GW222.out))) (fun hn_ => (Kd.freshB (g := gb222) (o := .cells #[.bool a1_0, .slice A1_1 l1_1.length c1_1] 24 (0, 0)) (tk BK222) k_ hn_)), Or.elim hk_ (fun hs_ => Or.elim hs_ (fun hs_ => fun e_ => Nat.not_le.2 hs_ (by rw [e_]; exact GW223.out)) (fun hs_ => fun e_ => Nat.not_le.2 hs_ (by rw [e_]; exact GW223.out))) (fun hn_ => (Kd.freshB (g := gb223) (o := .cells #[.bool false, .slice none 0 0] 24 (0, 0)) (tk BK223) k_ hn_))⟩)) (below_size (tb HB)))
  replace BK221 := kb BK221 hb
  replace BK222 := kb BK222 hb
  replace BK223 := kb BK223 hb
  replace HB := bs HB hb
  (try clear hb); (try clear hb2); (try clear hk); (try clear hi); (try clear ho0)
  obtain ⟨Ao16, co16, eo16⟩ := Kd.V_slice HO226.out
  (first | subst eo16 | (injection eo16 with f1_ f2_ f3_; have f4_ := f1_.symm; have f5_ := f3_.symm; clear f1_ f2_ f3_; subst f4_; subst f5_))
  refine hK.out _ _ ⟨(blk_cell BK221.out 0).trans rfl, (blk_cell BK221.out 1).trans rfl, (blk_cell BK222.out 0).trans rfl, (blk_cell BK222.out 1).trans rfl⟩ fun hHeld => nT (N := some 20) ?_
  clear hK K
  refine oT (i := 7) (N := some 21) (bb 9 255) HT_ fun K hK => ?_
  refine gS Try.func15 #[.bool a0_0, .slice Ao16 t224.length co16] ?_
  with_reducible refine (big_norm.calls k a0_0 _ _ t224 t227 t228 _ ?side1 ?side2 A5.out).mono ?_
  (case side1 => exact tc (Kd.V_reads' HO226.out).2.2)
  (case side2 => exact (Kd.V_reads' HO226.out).2.1)
  rintro e w17 ⟨v229, rfl, ho0, hb⟩
  refine ⟨_, rfl, ?_⟩
  have HO230 := rl ho0 HB
  replace BK221 := kb BK221 hb
  replace BK222 := kb BK222 hb
  replace BK223 := kb BK223 hb
  replace HB := bs HB hb
  (try clear hb); (try clear hb2); (try clear hk); (try clear hi); (try clear ho0)
  obtain ⟨Ao19, co19, eo19⟩ := Kd.R_slice HO230.out
  (first | subst eo19 | (injection eo19 with f1_ f2_ f3_; have f4_ := f1_.symm; have f5_ := f3_.symm; clear f1_ f2_ f3_; subst f4_; subst f5_))
  refine hK.out _ _ ⟨(blk_cell BK221.out 0).trans rfl, (blk_cell BK221.out 1).trans rfl, (blk_cell BK222.out 0).trans rfl, (blk_cell BK222.out 1).trans rfl⟩ fun hHeld => nT (N := some 21) ?_
  clear hK K
  refine oT (i := 8) (N := none) (bb 9 511) HT_ fun K hK => ?_
  have hs18 := bc BK223 0 (.bool false)
  have hfs18 := blk_frozen BK223.out 0
  have hns18_0 := NB221_223.out
  have hns18_1 := NB222_223.out
  have hms18_0 := NB223_221.out
  have hms18_1 := NB223_222.out
  have hs20 := bc BK223 1 (.slice none 0 0)
  have hfs20 := blk_frozen BK223.out 1
  have hns20_0 := NB221_223.out
  have hns20_1 := NB222_223.out
  have hms20_0 := NB223_221.out
  have hms20_1 := NB223_222.out
  refine skip_ (w1 := ?_) (by rfl) rfl ?_ ?_
  rotate_left
  ·go_simp
   rfl
  refine hK.out _ _ ⟨((cell_far (p := ⟨gb223, _, none⟩) NB221_223.out _).trans (((cell_far (p := ⟨gb223, _, none⟩) NB221_223.out _).trans (hHeld.1)))), ((cell_far (p := ⟨gb223, _, none⟩) NB221_223.out _).trans (((cell_far (p := ⟨gb223, _, none⟩) NB221_223.out _).trans (hHeld.2.1)))), ((cell_far (p := ⟨gb223, _, none⟩) NB222_223.out _).trans (((cell_far (p := ⟨gb223, _, none⟩) NB222_223.out _).trans (hHeld.2.2.1)))), ((cell_far (p := ⟨gb223, _, none⟩) NB222_223.out _).trans (((cell_far (p := ⟨gb223, _, none⟩) NB222_223.out _).trans (hHeld.2.2.2))))⟩ (fun hHeld => ?_)
  clear hK K
  refine done_ (done_of HT_.out (by kernel_rfl)) ?_
  try go_wp2
  refine bodyPost_ret (results_cell_row rfl _ _ gb223 24 #[.bool t227, .slice Ao19 t228.length co19] (0, 0) _ rfl (tk BK223) Try.underlying24 rfl (by kernel_rfl)) rfl ?_
  exact ⟨_, by first | rfl | (simp [errW_none, errW_some] <;> rfl) | (simp [*, errW_none, errW_some] <;> rfl), by (with_reducible repeat first | apply qa | apply qn | apply qd); exact Kd.R_mono (Kd.R_far (p := ⟨gb223, 1, none⟩) (Kd.R_far (p := ⟨gb223, 0, none⟩) (Kd.R_types HO230.out BK223.out (by decide)) (fun _ hk => hk.2) (.bool t227)) (fun _ hk => hk.2) (.slice Ao19 t228.length co19)) (fun _ hk => trivial), tb HB⟩
 ·rw [if_neg c3] at H
  have c3b0 : (a0_0 == a1_0) = false := by simpa using c3
  (try (have c3b1 : decide (a0_0 = a1_0) = false := by simpa using c3))
  (try (have c3b2 : (a0_0 == a1_0) = false := by simpa using c3))
  (try (have c3b3 : ¬ (a0_0 = a1_0) := by simpa using c3))
  clear c3
  replace H := bi H
  obtain ⟨⟨t231, t234⟩, A210, H⟩ := H
  try dsimp only at H
  have A21 := Aside0.mk A210
  clear A210
  by_cases c22 : t234 = 0
  ·rw [if_pos c22] at H
   have c22b0 : (t234 == 0) = true := beq_iff_eq.mpr c22
   have c22b1 : (t234 != 0) = false := bne_eq_false_iff_eq.mpr c22
   clear c22
   replace H := bi H
   obtain ⟨⟨t235, t236⟩, A230, H⟩ := H
   try dsimp only at H
   have A23 := Aside0.mk A230
   clear A230
   simp only [Option.some.injEq, Prod.mk.injEq] at H
   obtain ⟨rfl, rfl⟩ := H
   go_enter Try.func6, Try.ntmps6
   go_wp2_with (first | ((with_reducible refine gate_dst (N := 2) rfl ?_); refine bx (N := 2) #[.bool a0_0, .slice A0_1 l0_1.length c0_1] 24 ?_; intro gb221 hg w24 hbox hb; have BK221 := Aside0.mk (hbox); have GW221 := bz hg HB; have GE221 := bz hg HB; replace HB := bs HB hb; clear hb hbox hg) | ((with_reducible refine gate_dst (N := 3) rfl ?_); refine bx (N := 3) #[.bool a1_0, .slice A1_1 l1_1.length c1_1] 24 ?_; intro gb222 hg w25 hbox hb; have BK222 := Aside0.mk (hbox); have GW222 := bz hg HB; have GE222 := bz hg HB; replace HB := bs HB hb; have NB221_222 := nl hg BK221; have NB222_221 := ng hg BK221; replace BK221 := kb BK221 hb; clear hb hbox hg) | ((with_reducible refine gate_dst (N := 4) rfl ?_); refine bx (N := 4) #[.bool false, .slice none 0 0] 24 ?_; intro gb223 hg w26 hbox hb; have BK223 := Aside0.mk (hbox); have GW223 := bz hg HB; have GE223 := bz hg HB; replace HB := bs HB hb; have NB221_223 := nl hg BK221; have NB223_221 := ng hg BK221; replace BK221 := kb BK221 hb; have NB222_223 := nl hg BK222; have NB223_222 := ng hg BK222; replace BK222 := kb BK222 hb; clear hb hbox hg; have hnb27 := NB221_222.out; have hnc27 := NB222_221.out; have hnb28 := NB221_223.out; have hnc28 := NB223_221.out; have hcz29_0 := bc BK221 0 (.bool a0_0); have hcz29_1 := bc BK221 1 (.slice A0_1 l0_1.length c0_1); have hfz29_0 := blk_frozen BK221.out 0; have hfz29_1 := blk_frozen BK221.out 1; have hnb30 := NB222_223.out; have hnc30 := NB223_222.out; have hcz31_0 := bc BK222 0 (.bool a1_0); have hcz31_1 := bc BK222 1 (.slice A1_1 l1_1.length c1_1); have hfz31_0 := blk_frozen BK222.out 0; have hfz31_1 := blk_frozen BK222.out 1) | ((with_reducible refine gate_callee (f := 19) rfl ?_); refine gL (N := some 27) Try.func19 #[.slice A0_1 l0_1.length c0_1, .slice A1_1 l1_1.length c1_1] ?_; (with_reducible refine (nat_Sub.calls k (fun k_ => k_ < w.heap.size) _ _ l0_1 (fun k_ => k_ < w.heap.size) _ _ l1_1 t231 t234 _ ?side1 ?side2 A21.out).mono ?_); (case side1 => exact Kd.V_mk HC0_1.out (Kd.F_below (Kd.C_F (Kd.heap_int .u32) HR0_1.out) (tb HB))); (case side2 => exact Kd.V_mk HC1_1.out (Kd.F_below (Kd.C_F (Kd.heap_int .u32) HR1_1.out) (tb HB))); rintro e w32 ⟨v232, rfl, ho0, hb⟩; refine ⟨_, rfl, ?_⟩; have HO233 := Aside0.mk (Kd.V_lower (Kd.V_mono (ok' := fun k_ => k_ ≠ gb221 ∧ k_ ≠ gb222 ∧ k_ ≠ gb223) ho0 (fun k_ hk_ => ⟨Or.elim hk_ (fun hs_ => Or.elim hs_ (fun hs_ => fun e_ => Nat.not_le.2 hs_ (by rw [e_]; exact GW221.out)) (fun hs_ => fun e_ => Nat.not_le.2 hs_ (by rw [e_]; exact GW221.out))) (fun hn_ => (Kd.freshB (g := gb221) (o := .cells #[.bool a0_0, .slice A0_1 l0_1.length c0_1] 24 (0, 0)) (tk BK221) k_ hn_)), Or.elim hk_ (fun hs_ => Or.elim hs_ (fun hs_ => fun e_ => Nat.not_le.2 hs_ (by rw [e_]; exact GW222.out)) (fun hs_ => fun e_ => Nat.not_le.2 hs_ (by rw [e_]; exact GW222.out))) (fun hn_ => (Kd.freshB (g := gb222) (o := .cells #[.bool a1_0, .slice A1_1 l1_1.length c1_1] 24 (0, 0)) (tk BK222) k_ hn_)), Or.elim hk_ (fun hs_ => Or.elim hs_ (fun hs_ => fun e_ => Nat.not_le.2 hs_ (by rw [e_]; exact GW223.out)) (fun hs_ => fun e_ => Nat.not_le.2 hs_ (by rw [e_]; exact GW223.out))) (fun hn_ => (Kd.freshB (g := gb223) (o := .cells #[.bool false, .slice none 0 0] 24 (0, 0)) (tk BK223) k_ hn_))⟩)) (below_size (tb HB))); replace BK221 := kb BK221 hb; replace BK223 := kb BK223 hb; replace HB := bs HB hb; (try clear hb); (try clear hb2); (try clear hk); (try clear hi); (try clear ho0); have hcz33_0 := bc BK221 0 (.bool a0_0); have hcz33_1 := bc BK221 1 (.slice A0_1 l0_1.length c0_1); have hfz33_0 := blk_frozen BK221.out 0; have hfz33_1 := blk_frozen BK221.out 1; obtain ⟨Ao34, co34, eo34⟩ := Kd.V_slice HO233.out; subst eo34) | ((with_reducible refine gate_callee (f := 15) rfl ?_); refine gL (N := some 35) Try.func15 #[.bool a0_0, .slice Ao34 t231.length co34] ?_; (with_reducible refine (big_norm.calls k a0_0 _ _ t231 t235 t236 _ ?side1 ?side2 A23.out).mono ?_); (case side1 => exact tc (Kd.V_reads' HO233.out).2.2); (case side2 => exact (Kd.V_reads' HO233.out).2.1); rintro e w35 ⟨v237, rfl, ho0, hb⟩; refine ⟨_, rfl, ?_⟩; have HO238 := rl ho0 HB; replace BK223 := kb BK223 hb; replace HB := bs HB hb; (try clear hb); (try clear hb2); (try clear hk); (try clear hi); (try clear ho0); have hcz36_0 := bc BK223 0 (.bool false); have hcz36_1 := bc BK223 1 (.slice none 0 0); have hfz36_0 := blk_frozen BK223.out 0; have hfz36_1 := blk_frozen BK223.out 1; obtain ⟨Ao37, co37, eo37⟩ := Kd.R_slice HO238.out; subst eo37))
   refine bodyPost_ret (results_cell_row rfl _ _ gb223 24 #[.bool t235, .slice Ao37 t236.length co37] (0, 0) _ rfl (tk BK223) Try.underlying24 rfl (by kernel_rfl)) rfl ?_
   exact ⟨_, by first | rfl | (simp [errW_none, errW_some] <;> rfl) | (simp [*, errW_none, errW_some] <;> rfl), by (with_reducible repeat first | apply qa | apply qn | apply qd); exact Kd.R_mono (Kd.R_far (p := ⟨gb223, 1, none⟩) (Kd.R_far (p := ⟨gb223, 0, none⟩) (Kd.R_types HO238.out BK223.out (by decide)) (fun _ hk => hk.2) (.bool t235)) (fun _ hk => hk.2) (.slice Ao37 t236.length co37)) (fun _ hk => trivial), tb HB⟩
  ·rw [if_neg c22] at H
   have c22b0 : (t234 == 0) = false := beq_eq_false_iff_ne.mpr c22
   have c22b1 : (t234 != 0) = true := bne_iff_ne.mpr c22
   replace H := bi H
   obtain ⟨⟨t239, t242⟩, A380, H⟩ := H
   try dsimp only at H
   have A38 := Aside0.mk A380
   clear A380
   replace H := bi H
   obtain ⟨⟨t243, t244⟩, A390, H⟩ := H
   try dsimp only at H
   have A39 := Aside0.mk A390
   clear A390
   simp only [Option.some.injEq, Prod.mk.injEq] at H
   obtain ⟨rfl, rfl⟩ := H
   go_enter Try.func6, Try.ntmps6
   go_wp2_with (first | ((with_reducible refine gate_dst (N := 2) rfl ?_); refine bx (N := 2) #[.bool a0_0, .slice A0_1 l0_1.length c0_1] 24 ?_; intro gb221 hg w40 hbox hb; have BK221 := Aside0.mk (hbox); have GW221 := bz hg HB; have GE221 := bz hg HB; replace HB := bs HB hb; clear hb hbox hg) | ((with_reducible refine gate_dst (N := 3) rfl ?_); refine bx (N := 3) #[.bool a1_0, .slice A1_1 l1_1.length c1_1] 24 ?_; intro gb222 hg w41 hbox hb; have BK222 := Aside0.mk (hbox); have GW222 := bz hg HB; have GE222 := bz hg HB; replace HB := bs HB hb; have NB221_222 := nl hg BK221; have NB222_221 := ng hg BK221; replace BK221 := kb BK221 hb; clear hb hbox hg) | ((with_reducible refine gate_dst (N := 4) rfl ?_); refine bx (N := 4) #[.bool false, .slice none 0 0] 24 ?_; intro gb223 hg w42 hbox hb; have BK223 := Aside0.mk (hbox); have GW223 := bz hg HB; have GE223 := bz hg HB; replace HB := bs HB hb; have NB221_223 := nl hg BK221; have NB223_221 := ng hg BK221; replace BK221 := kb BK221 hb; have NB222_223 := nl hg BK222; have NB223_222 := ng hg BK222; replace BK222 := kb BK222 hb; clear hb hbox hg; have hnb43 := NB221_222.out; have hnc43 := NB222_221.out; have hnb44 := NB221_223.out; have hnc44 := NB223_221.out; have hcz45_0 := bc BK221 0 (.bool a0_0); have hcz45_1 := bc BK221 1 (.slice A0_1 l0_1.length c0_1); have hfz45_0 := blk_frozen BK221.out 0; have hfz45_1 := blk_frozen BK221.out 1; have hnb46 := NB222_223.out; have hnc46 := NB223_222.out; have hcz47_0 := bc BK222 0 (.bool a1_0); have hcz47_1 := bc BK222 1 (.slice A1_1 l1_1.length c1_1); have hfz47_0 := blk_frozen BK222.out 0; have hfz47_1 := blk_frozen BK222.out 1) | ((with_reducible refine gate_callee (f := 19) rfl ?_); refine gL (N := some 27) Try.func19 #[.slice A0_1 l0_1.length c0_1, .slice A1_1 l1_1.length c1_1] ?_; (with_reducible refine (nat_Sub.calls k (fun k_ => k_ < w.heap.size) _ _ l0_1 (fun k_ => k_ < w.heap.size) _ _ l1_1 t231 t234 _ ?side1 ?side2 A21.out).mono ?_); (case side1 => exact Kd.V_mk HC0_1.out (Kd.F_below (Kd.C_F (Kd.heap_int .u32) HR0_1.out) (tb HB))); (case side2 => exact Kd.V_mk HC1_1.out (Kd.F_below (Kd.C_F (Kd.heap_int .u32) HR1_1.out) (tb HB))); rintro e w48 ⟨v232, rfl, ho0, hb⟩; refine ⟨_, rfl, ?_⟩; replace BK221 := kb BK221 hb; replace BK222 := kb BK222 hb; replace BK223 := kb BK223 hb; replace HB := bs HB hb; (try clear hb); (try clear hb2); (try clear hk); (try clear hi); (try clear ho0); have hcz49_0 := bc BK222 0 (.bool a1_0); have hcz49_1 := bc BK222 1 (.slice A1_1 l1_1.length c1_1); have hfz49_0 := blk_frozen BK222.out 0; have hfz49_1 := blk_frozen BK222.out 1; have hcz50_0 := bc BK221 0 (.bool a0_0); have hcz50_1 := bc BK221 1 (.slice A0_1 l0_1.length c0_1); have hfz50_0 := blk_frozen BK221.out 0; have hfz50_1 := blk_frozen BK221.out 1) | ((with_reducible refine gate_callee (f := 19) rfl ?_); refine gL (N := some 41) Try.func19 #[.slice A1_1 l1_1.length c1_1, .slice A0_1 l0_1.length c0_1] ?_; (with_reducible refine (nat_Sub.calls k (fun k_ => k_ < w.heap.size) _ _ l1_1 (fun k_ => k_ < w.heap.size) _ _ l0_1 t239 t242 _ ?side1 ?side2 A38.out).mono ?_); (case side1 => exact Kd.V_mk HC1_1.out (Kd.F_below (Kd.C_F (Kd.heap_int .u32) HR1_1.out) (tb HB))); (case side2 => exact Kd.V_mk HC0_1.out (Kd.F_below (Kd.C_F (Kd.heap_int .u32) HR0_1.out) (tb HB))); rintro e w51 ⟨v240, rfl, ho0, hb⟩; refine ⟨_, rfl, ?_⟩; have HO241 := Aside0.mk (Kd.V_lower (Kd.V_mono (ok' := fun k_ => k_ ≠ gb221 ∧ k_ ≠ gb222 ∧ k_ ≠ gb223) ho0 (fun k_ hk_ => ⟨Or.elim hk_ (fun hs_ => Or.elim hs_ (fun hs_ => fun e_ => Nat.not_le.2 hs_ (by rw [e_]; exact GW221.out)) (fun hs_ => fun e_ => Nat.not_le.2 hs_ (by rw [e_]; exact GW221.out))) (fun hn_ => (Kd.freshB (g := gb221) (o := .cells #[.bool a0_0, .slice A0_1 l0_1.length c0_1] 24 (0, 0)) (tk BK221) k_ hn_)), Or.elim hk_ (fun hs_ => Or.elim hs_ (fun hs_ => fun e_ => Nat.not_le.2 hs_ (by rw [e_]; exact GW222.out)) (fun hs_ => fun e_ => Nat.not_le.2 hs_ (by rw [e_]; exact GW222.out))) (fun hn_ => (Kd.freshB (g := gb222) (o := .cells #[.bool a1_0, .slice A1_1 l1_1.length c1_1] 24 (0, 0)) (tk BK222) k_ hn_)), Or.elim hk_ (fun hs_ => Or.elim hs_ (fun hs_ => fun e_ => Nat.not_le.2 hs_ (by rw [e_]; exact GW223.out)) (fun hs_ => fun e_ => Nat.not_le.2 hs_ (by rw [e_]; exact GW223.out))) (fun hn_ => (Kd.freshB (g := gb223) (o := .cells #[.bool false, .slice none 0 0] 24 (0, 0)) (tk BK223) k_ hn_))⟩)) (below_size (tb HB))); replace BK222 := kb BK222 hb; replace BK223 := kb BK223 hb; replace HB := bs HB hb; (try clear hb); (try clear hb2); (try clear hk); (try clear hi); (try clear ho0); have hcz52_0 := bc BK222 0 (.bool a1_0); have hcz52_1 := bc BK222 1 (.slice A1_1 l1_1.length c1_1); have hfz52_0 := blk_frozen BK222.out 0; have hfz52_1 := blk_frozen BK222.out 1; obtain ⟨Ao53, co53, eo53⟩ := Kd.V_slice HO241.out; subst eo53) | ((with_reducible refine gate_callee (f := 15) rfl ?_); refine gL (N := some 47) Try.func15 #[.bool a1_0, .slice Ao53 t239.length co53] ?_; (with_reducible refine (big_norm.calls k a1_0 _ _ t239 t243 t244 _ ?side1 ?side2 A39.out).mono ?_); (case side1 => exact tc (Kd.V_reads' HO241.out).2.2); (case side2 => exact (Kd.V_reads' HO241.out).2.1); rintro e w54 ⟨v245, rfl, ho0, hb⟩; refine ⟨_, rfl, ?_⟩; have HO246 := rl ho0 HB; replace BK223 := kb BK223 hb; replace HB := bs HB hb; (try clear hb); (try clear hb2); (try clear hk); (try clear hi); (try clear ho0); have hcz55_0 := bc BK223 0 (.bool false); have hcz55_1 := bc BK223 1 (.slice none 0 0); have hfz55_0 := blk_frozen BK223.out 0; have hfz55_1 := blk_frozen BK223.out 1; obtain ⟨Ao56, co56, eo56⟩ := Kd.R_slice HO246.out; subst eo56))
   refine bodyPost_ret (results_cell_row rfl _ _ gb223 24 #[.bool t243, .slice Ao56 t244.length co56] (0, 0) _ rfl (tk BK223) Try.underlying24 rfl (by kernel_rfl)) rfl ?_
   exact ⟨_, by first | rfl | (simp [errW_none, errW_some] <;> rfl) | (simp [*, errW_none, errW_some] <;> rfl), by (with_reducible repeat first | apply qa | apply qn | apply qd); exact Kd.R_mono (Kd.R_far (p := ⟨gb223, 1, none⟩) (Kd.R_far (p := ⟨gb223, 0, none⟩) (Kd.R_types HO246.out BK223.out (by decide)) (fun _ hk => hk.2) (.bool t243)) (fun _ hk => hk.2) (.slice Ao56 t244.length co56)) (fun _ hk => trivial), tb HB⟩

/-! ### big_Mul: function 7 -/
def big_Mul.f (k : Nat) (a0_0 : Bool) (l0_1 : List Int) (a1_0 : Bool) (l1_1 : List Int) : Option (Bool × List Int) := (nat_Mul.f k l0_1 l1_1).bind fun t250 => ((big_norm.f k (a0_0 != a1_0) t250).bind fun bt253 => (some (bt253.1, bt253.2)))
theorem big_Mul.mono : ∀ a0 a1 a2 a3 k, LeO (big_Mul.f k a0 a1 a2 a3) (big_Mul.f (k + 1) a0 a1 a2 a3) := by
 intro a0 a1 a2 a3 k
 unfold big_Mul.f
 repeat' with_reducible first | exact big_norm.mono _ _ _ | exact nat_Mul.mono _ _ _ | exact LeO.refl _ | exact LeO.none _ | refine LeO.ite ?_ ?_ | refine LeO.bind ?_ (fun _ => ?_)
def big_Mul.T1 : Bool × List (List Nat × List Nat) := (true, [([], []), ([0], [0]), ([], []), ([2], [2]), ([1, 3], [1, 3]), ([], []), ([5], [5]), ([], []), ([7], [7]), ([6, 8], [6, 8]), ([4, 9, 9], [4, 9]), ([10, 10, 0, 1, 2, 3, 4, 5, 6, 7, 8, 9, 10], [10])])
def big_Mul.B1 : List Nat := [0, 1, 0, 4, 15, 0, 32, 0, 128, 480, 1023, 2047]
theorem big_Mul.tab1 : rtab .any (opsOf Try.f7 1) = big_Mul.T1 := by kernel_rfl
theorem big_Mul.bits1 : waitsOk big_Mul.T1.2 big_Mul.B1 = true := by kernel_rfl
set_option maxHeartbeats 8000000 in
set_option maxRecDepth 100000 in
theorem big_Mul.calls (k : Nat) (a0_0 : Bool) (A0_1 : Option Addr) (c0_1 : Nat) (l0_1 : List Int) (a1_0 : Bool) (A1_1 : Option Addr) (c1_1 : Nat) (l1_1 : List Int) (r1 : Bool) (r2 : List Int) (w : World) (hr0_1 : Kd.C (Kd.int .u32) w A0_1 l0_1.length l0_1) (hc0_1 : l0_1.length ≤ c0_1) (hr1_1 : Kd.C (Kd.int .u32) w A1_1 l1_1.length l1_1) (hc1_1 : l1_1.length ≤ c1_1) (h : big_Mul.f k a0_0 l0_1 a1_0 l1_1 = some (r1, r2)) :
  Calls Try.prog 7 #[.agg #[.bool a0_0, .slice A0_1 l0_1.length c0_1], .agg #[.bool a1_0, .slice A1_1 l1_1.length c1_1]] w fun e w' => ∃ v1_ : Value, e = .returned (.agg #[.bool r1, v1_]) ∧ Kd.R (Kd.int .u32) 42 w' w.heap.size (fun _ => True) v1_ r2 ∧ Below w.heap.size w w' := by
 have hu24 := Try.underlying24
 have HR0_1 := Aside0.mk hr0_1
 have HC0_1 := Aside0.mk hc0_1
 clear hr0_1 hc0_1
 have HR1_1 := Aside0.mk hr1_1
 have HC1_1 := Aside0.mk hc1_1
 clear hr1_1 hc1_1
 have HB := Aside0.mk (Below.refl w.heap.size w)
 have H : ((nat_Mul.f k l0_1 l1_1).bind fun t250 => ((big_norm.f k (a0_0 != a1_0) t250).bind fun bt253 => (some (bt253.1, bt253.2)))) = some (r1, r2) := h
 clear h
 replace H := bi H
 obtain ⟨t250, A30, H⟩ := H
 have A3 := Aside0.mk A30
 clear A30
 replace H := bi H
 obtain ⟨⟨t253, t254⟩, A40, H⟩ := H
 try dsimp only at H
 have A4 := Aside0.mk A40
 clear A40
 simp only [Option.some.injEq, Prod.mk.injEq] at H
 obtain ⟨rfl, rfl⟩ := H
 go_enter Try.func7, Try.ntmps7
 try go_wp2_with (first | ((with_reducible refine gate_dst (N := 2) rfl ?_); refine bx (N := 2) #[.bool a0_0, .slice A0_1 l0_1.length c0_1] 24 ?_; intro gb247 hg w5 hbox hb; have BK247 := Aside0.mk (hbox); have GW247 := bz hg HB; have GE247 := bz hg HB; replace HB := bs HB hb; clear hb hbox hg) | ((with_reducible refine gate_dst (N := 3) rfl ?_); refine bx (N := 3) #[.bool a1_0, .slice A1_1 l1_1.length c1_1] 24 ?_; intro gb248 hg w6 hbox hb; have BK248 := Aside0.mk (hbox); have GW248 := bz hg HB; have GE248 := bz hg HB; replace HB := bs HB hb; have NB247_248 := nl hg BK247; have NB248_247 := ng hg BK247; replace BK247 := kb BK247 hb; clear hb hbox hg) | ((with_reducible refine gate_dst (N := 4) rfl ?_); refine bx (N := 4) #[.bool false, .slice none 0 0] 24 ?_; intro gb249 hg w7 hbox hb; have BK249 := Aside0.mk (hbox); have GW249 := bz hg HB; have GE249 := bz hg HB; replace HB := bs HB hb; have NB247_249 := nl hg BK247; have NB249_247 := ng hg BK247; replace BK247 := kb BK247 hb; have NB248_249 := nl hg BK248; have NB249_248 := ng hg BK248; replace BK248 := kb BK248 hb; clear hb hbox hg))
 replace BK247 := Aside0.mk (blk_drew BK247.out)
 replace BK248 := Aside0.mk (blk_drew BK248.out)
 replace BK249 := Aside0.mk (blk_drew BK249.out)
 replace HB := Aside0.mk (below_drew1 HB.out)
 refine start_ (n := 12) (S := fun w' => w'.cell? ⟨gb247, 0, none⟩ = some (.bool a0_0) ∧ w'.cell? ⟨gb247, 1, none⟩ = some (.slice A0_1 l0_1.length c0_1) ∧ w'.cell? ⟨gb248, 0, none⟩ = some (.bool a1_0) ∧ w'.cell? ⟨gb248, 1, none⟩ = some (.slice A1_1 l1_1.length c1_1)) (ds := []) #[false, false, false, false, false, false, false, false, false, false, false, false] (by kernel_rfl) rfl rfl ⟨(blk_cell BK247.out 0).trans rfl, (blk_cell BK247.out 1).trans rfl, (blk_cell BK248.out 0).trans rfl, (blk_cell BK248.out 1).trans rfl⟩ (fun hHeld => ?_); refine with_tabW big_Mul.tab1 big_Mul.bits1 (fun HT_ HW_ => ?_)
 generalize w7.drew = w8 at BK247 BK248 BK249 HB hHeld ⊢
 refine pT (i := 0) (N := some 5) (bb 12 1) HT_ ?_
 refine pT (i := 2) (N := some 7) (bb 12 5) HT_ ?_
 refine pT (i := 5) (N := some 10) (bb 12 37) HT_ ?_
 refine pT (i := 7) (N := some 12) (bb 12 165) HT_ ?_
 refine tW (i := 1) (N := some 6) (bb 12 167) HT_ HW_ hHeld ?_
 refine tW (i := 3) (N := some 8) (bb 12 175) HT_ HW_ hHeld ?_
 refine pT (i := 4) (N := some 9) (bb 12 191) HT_ ?_
 refine tW (i := 6) (N := some 11) (bb 12 255) HT_ HW_ hHeld ?_
 refine tW (i := 8) (N := some 13) (bb 12 511) HT_ HW_ hHeld ?_
 refine oT (i := 9) (N := some 14) (bb 12 1023) HT_ fun K hK => ?_
 refine gS Try.func20 #[.slice A0_1 l0_1.length c0_1, .slice A1_1 l1_1.length c1_1] ?_
 with_reducible refine (nat_Mul.calls k (fun k_ => k_ < w.heap.size) _ _ l0_1 (fun k_ => k_ < w.heap.size) _ _ l1_1 t250 _ ?side1 ?side2 A3.out).mono ?_
 (case side1 => exact Kd.V_mk HC0_1.out (Kd.F_below (Kd.C_F (Kd.heap_int .u32) HR0_1.out) (tb HB)))
 (case side2 => exact Kd.V_mk HC1_1.out (Kd.F_below (Kd.C_F (Kd.heap_int .u32) HR1_1.out) (tb HB)))
 rintro e w9 ⟨v251, rfl, ho0, hb⟩
 refine ⟨_, rfl, ?_⟩
 have HO252 := Aside0.mk (Kd.V_lower (Kd.V_mono (ok' := fun k_ => k_ ≠ gb247 ∧ k_ ≠ gb248 ∧ k_ ≠ gb249) ho0 (fun k_ hk_ => ⟨Or.elim hk_ (fun hs_ => Or.elim hs_ (fun hs_ => fun e_ => Nat.not_le.2 hs_ (by rw [e_]; exact GW247.out)) (fun hs_ => fun e_ => Nat.not_le.2 hs_ (by rw [e_]; exact GW247.out))) (fun hn_ => (Kd.freshB (g := gb247) (o := .cells #[.bool a0_0, .slice A0_1 l0_1.length c0_1] 24 (0, 0)) (tk BK247) k_ hn_)), Or.elim hk_ (fun hs_ => Or.elim hs_ (fun hs_ => fun e_ => Nat.not_le.2 hs_ (by rw [e_]; exact GW248.out)) (fun hs_ => fun e_ => Nat.not_le.2 hs_ (by rw [e_]; exact GW248.out))) (fun hn_ => (Kd.freshB (g := gb248) (o := .cells #[.bool a1_0, .slice A1_1 l1_1.length c1_1] 24 (0, 0)) (tk BK248) k_ hn_)), Or.elim hk_ (fun hs_ => Or.elim hs_ (fun hs_ => fun e_ => Nat.not_le.2 hs_ (by rw [e_]; exact GW249.out)) (fun hs_ => fun e_ => Nat.not_le.2 hs_ (by rw [e_]; exact GW249.out))) (fun hn_ => (Kd.freshB (g := gb249) (o := .cells #[.bool false, .slice none 0 0] 24 (0, 0)) (tk BK249) k_ hn_))⟩)) (below_size (tb HB)))
 replace BK247 := kb BK247 hb
 replace BK248 := kb BK248 hb
 replace BK249 := kb BK249 hb
 replace HB := bs HB hb
 (try clear hb); (try clear hb2); (try clear hk); (try clear hi); (try clear ho0)
 obtain ⟨Ao10, co10, eo10⟩ := Kd.V_slice HO252.out
 (first | subst eo10 | (injection eo10 with f1_ f2_ f3_; have f4_ := f1_.symm; have f5_ := f3_.symm; clear f1_ f2_ f3_; subst f4_; subst f5_))
 refine hK.out _ _ ⟨(blk_cell BK247.out 0).trans rfl, (blk_cell BK247.out 1).trans rfl, (blk_cell BK248.out 0).trans rfl, (blk_cell BK248.out 1).trans rfl⟩ fun hHeld => nT (N := some 14) ?_
 clear hK K
 refine oT (i := 10) (N := some 15) (bb 12 2047) HT_ fun K hK => ?_
 refine gS Try.func15 #[.bool (a0_0 != a1_0), .slice Ao10 t250.length co10] ?_
 with_reducible refine (big_norm.calls k (a0_0 != a1_0) _ _ t250 t253 t254 _ ?side1 ?side2 A4.out).mono ?_
 (case side1 => exact tc (Kd.V_reads' HO252.out).2.2)
 (case side2 => exact (Kd.V_reads' HO252.out).2.1)
 rintro e w11 ⟨v255, rfl, ho0, hb⟩
 refine ⟨_, rfl, ?_⟩
 have HO256 := rl ho0 HB
 replace BK247 := kb BK247 hb
 replace BK248 := kb BK248 hb
 replace BK249 := kb BK249 hb
 replace HB := bs HB hb
 (try clear hb); (try clear hb2); (try clear hk); (try clear hi); (try clear ho0)
 obtain ⟨Ao13, co13, eo13⟩ := Kd.R_slice HO256.out
 (first | subst eo13 | (injection eo13 with f1_ f2_ f3_; have f4_ := f1_.symm; have f5_ := f3_.symm; clear f1_ f2_ f3_; subst f4_; subst f5_))
 refine hK.out _ _ ⟨(blk_cell BK247.out 0).trans rfl, (blk_cell BK247.out 1).trans rfl, (blk_cell BK248.out 0).trans rfl, (blk_cell BK248.out 1).trans rfl⟩ fun hHeld => nT (N := some 15) ?_
 clear hK K
 refine oT (i := 11) (N := none) (bb 12 4095) HT_ fun K hK => ?_
 have hs12 := bc BK249 0 (.bool false)
 have hfs12 := blk_frozen BK249.out 0
 have hns12_0 := NB247_249.out
 have hns12_1 := NB248_249.out
 have hms12_0 := NB249_247.out
 have hms12_1 := NB249_248.out
 have hs14 := bc BK249 1 (.slice none 0 0)
 have hfs14 := blk_frozen BK249.out 1
 have hns14_0 := NB247_249.out
 have hns14_1 := NB248_249.out
 have hms14_0 := NB249_247.out
 have hms14_1 := NB249_248.out
 refine skip_ (w1 := ?_) (by rfl) rfl ?_ ?_
 rotate_left
 ·go_simp
  rfl
 refine hK.out _ _ ⟨((cell_far (p := ⟨gb249, _, none⟩) NB247_249.out _).trans (((cell_far (p := ⟨gb249, _, none⟩) NB247_249.out _).trans (hHeld.1)))), ((cell_far (p := ⟨gb249, _, none⟩) NB247_249.out _).trans (((cell_far (p := ⟨gb249, _, none⟩) NB247_249.out _).trans (hHeld.2.1)))), ((cell_far (p := ⟨gb249, _, none⟩) NB248_249.out _).trans (((cell_far (p := ⟨gb249, _, none⟩) NB248_249.out _).trans (hHeld.2.2.1)))), ((cell_far (p := ⟨gb249, _, none⟩) NB248_249.out _).trans (((cell_far (p := ⟨gb249, _, none⟩) NB248_249.out _).trans (hHeld.2.2.2))))⟩ (fun hHeld => ?_)
 clear hK K
 refine done_ (done_of HT_.out (by kernel_rfl)) ?_
 try go_wp2
 refine bodyPost_ret (results_cell_row rfl _ _ gb249 24 #[.bool t253, .slice Ao13 t254.length co13] (0, 0) _ rfl (tk BK249) Try.underlying24 rfl (by kernel_rfl)) rfl ?_
 exact ⟨_, by first | rfl | (simp [errW_none, errW_some] <;> rfl) | (simp [*, errW_none, errW_some] <;> rfl), by (with_reducible repeat first | apply qa | apply qn | apply qd); exact Kd.R_mono (Kd.R_far (p := ⟨gb249, 1, none⟩) (Kd.R_far (p := ⟨gb249, 0, none⟩) (Kd.R_types HO256.out BK249.out (by decide)) (fun _ hk => hk.2) (.bool t253)) (fun _ hk => hk.2) (.slice Ao13 t254.length co13)) (fun _ hk => trivial), tb HB⟩

/-! ### nat_IsZero: function 24 -/
def nat_IsZero.f (k : Nat) (l0 : List Int) : Option (Bool) := (nat_trim.f k l0).bind fun t257 => (some ((t257.length : Int) == 0))
theorem nat_IsZero.mono : ∀ a0 k, LeO (nat_IsZero.f k a0) (nat_IsZero.f (k + 1) a0) := by
 intro a0 k
 unfold nat_IsZero.f
 repeat' with_reducible first | exact nat_trim.mono _ _ | exact LeO.refl _ | exact LeO.none _ | refine LeO.ite ?_ ?_ | refine LeO.bind ?_ (fun _ => ?_)
set_option maxHeartbeats 8000000 in
set_option maxRecDepth 100000 in
theorem nat_IsZero.calls (k : Nat) (A0 : Option Addr) (c0 : Nat) (l0 : List Int) (r : Bool) (w : World) (hr0 : Kd.C (Kd.int .u32) w A0 l0.length l0) (hc0 : l0.length ≤ c0) (h : nat_IsZero.f k l0 = some r) :
  Calls Try.prog 24 #[.slice A0 l0.length c0] w fun e w' => e = .returned (.bool r) ∧ Below w.heap.size w w' := by
 have HR0 := Aside0.mk hr0
 have HC0 := Aside0.mk hc0
 clear hr0 hc0
 have HB := Aside0.mk (Below.refl w.heap.size w)
 have H : ((nat_trim.f k l0).bind fun t257 => (some ((t257.length : Int) == 0))) = some r := h
 clear h
 replace H := bi H
 obtain ⟨t257, A20, H⟩ := H
 have A2 := Aside0.mk A20
 clear A20
 obtain rfl := Option.some.inj H
 go_enter Try.func24, Try.ntmps24
 go_wp2_with (first | ((with_reducible refine gate_callee (f := 21) rfl ?_); refine gL (N := some 4) Try.func21 #[.slice A0 l0.length c0] ?_; (with_reducible refine (nat_trim.calls k (fun k_ => k_ < w.heap.size) _ _ l0 t257 _ ?side1 A2.out).mono ?_); (case side1 => exact Kd.V_mk HC0.out (Kd.F_below (Kd.C_F (Kd.heap_int .u32) HR0.out) (tb HB))); rintro e w3 ⟨v258, rfl, ho0, hb⟩; refine ⟨_, rfl, ?_⟩; have HO259 := Aside0.mk (Kd.V_lower (Kd.V_mono (ok' := fun k_ => True) ho0 (fun k_ hk_ => trivial)) (below_size (tb HB))); replace HB := bs HB hb; (try clear hb); (try clear hb2); (try clear hk); (try clear hi); (try clear ho0); obtain ⟨Ao4, co4, eo4⟩ := Kd.V_slice HO259.out; subst eo4))
 go_ret
 exact ⟨by first | rfl | (simp [errW_none, errW_some] <;> rfl) | (simp [*, errW_none, errW_some] <;> rfl), tb HB⟩

/-! ### big_Sign: function 13 -/
def big_Sign.f (k : Nat) (a0_0 : Bool) (l0_1 : List Int) : Option (Int) := (nat_IsZero.f k l0_1).bind fun t261 => (if t261 = true then (some 0) else (if a0_0 = true then (some (-1)) else (some 1)))
theorem big_Sign.mono : ∀ a0 a1 k, LeO (big_Sign.f k a0 a1) (big_Sign.f (k + 1) a0 a1) := by
 intro a0 a1 k
 unfold big_Sign.f
 repeat' with_reducible first | exact nat_IsZero.mono _ _ | exact LeO.refl _ | exact LeO.none _ | refine LeO.ite ?_ ?_ | refine LeO.bind ?_ (fun _ => ?_)
set_option maxHeartbeats 8000000 in
set_option maxRecDepth 100000 in
theorem big_Sign.calls (k : Nat) (a0_0 : Bool) (A0_1 : Option Addr) (c0_1 : Nat) (l0_1 : List Int) (r : Int) (w : World) (hr0_1 : Kd.C (Kd.int .u32) w A0_1 l0_1.length l0_1) (hc0_1 : l0_1.length ≤ c0_1) (h : big_Sign.f k a0_0 l0_1 = some r) :
  Calls Try.prog 13 #[.agg #[.bool a0_0, .slice A0_1 l0_1.length c0_1]] w fun e w' => e = .returned (.int .i64 r) ∧ Below w.heap.size w w' := by
 have hu24 := Try.underlying24
 have HR0_1 := Aside0.mk hr0_1
 have HC0_1 := Aside0.mk hc0_1
 clear hr0_1 hc0_1
 have HB := Aside0.mk (Below.refl w.heap.size w)
 have H : ((nat_IsZero.f k l0_1).bind fun t261 => (if t261 = true then (some 0) else (if a0_0 = true then (some (-1)) else (some 1)))) = some r := h
 clear h
 replace H := bi H
 obtain ⟨t261, A20, H⟩ := H
 have A2 := Aside0.mk A20
 clear A20
 by_cases c3 : t261 = true
 ·subst c3
  have H1 : (some 0) = some r := by rw [if_pos rfl] at H; exact H
  clear H
  have H := H1
  clear H1
  obtain rfl := Option.some.inj H
  go_enter Try.func13, Try.ntmps13
  go_wp2_with (first | ((with_reducible refine gate_dst (N := 1) rfl ?_); refine bx (N := 1) #[.bool a0_0, .slice A0_1 l0_1.length c0_1] 24 ?_; intro gb260 hg w4 hbox hb; have BK260 := Aside0.mk (hbox); have GW260 := bz hg HB; have GE260 := bz hg HB; replace HB := bs HB hb; clear hb hbox hg; have hcz5_0 := bc BK260 0 (.bool a0_0); have hcz5_1 := bc BK260 1 (.slice A0_1 l0_1.length c0_1); have hfz5_0 := blk_frozen BK260.out 0; have hfz5_1 := blk_frozen BK260.out 1) | ((with_reducible refine gate_callee (f := 24) rfl ?_); refine gL (N := some 6) Try.func24 #[.slice A0_1 l0_1.length c0_1] ?_; (with_reducible refine (nat_IsZero.calls k _ _ l0_1 true _ ?side1 ?side2 A2.out).mono ?_); (case side1 => exact tc (Kd.C_below HR0_1.out HB.out)); (case side2 => exact HC0_1.out); rintro e w6 ⟨rfl, hb⟩; refine ⟨_, rfl, ?_⟩; replace HB := bs HB hb; (try clear hb); (try clear hb2); (try clear hk); (try clear hi)))
  go_ret
  exact ⟨by first | rfl | (simp [errW_none, errW_some] <;> rfl) | (simp [*, errW_none, errW_some] <;> rfl), tb HB⟩
 ·replace c3 := Bool.eq_false_iff.mpr c3
  subst c3
  have H1 : (if a0_0 = true then (some (-1)) else (some 1)) = some r := by rw [if_neg (show ¬ (false = true) by decide)] at H; exact H
  clear H
  have H := H1
  clear H1
  by_cases c7 : a0_0 = true
  ·subst c7
   have H1 : (some (-1)) = some r := by rw [if_pos rfl] at H; exact H
   clear H
   have H := H1
   clear H1
   obtain rfl := Option.some.inj H
   go_enter Try.func13, Try.ntmps13
   go_wp2_with (first | ((with_reducible refine gate_dst (N := 1) rfl ?_); refine bx (N := 1) #[.bool true, .slice A0_1 l0_1.length c0_1] 24 ?_; intro gb260 hg w8 hbox hb; have BK260 := Aside0.mk (hbox); have GW260 := bz hg HB; have GE260 := bz hg HB; replace HB := bs HB hb; clear hb hbox hg; have hcz9_0 := bc BK260 0 (.bool true); have hcz9_1 := bc BK260 1 (.slice A0_1 l0_1.length c0_1); have hfz9_0 := blk_frozen BK260.out 0; have hfz9_1 := blk_frozen BK260.out 1) | ((with_reducible refine gate_callee (f := 24) rfl ?_); refine gL (N := some 6) Try.func24 #[.slice A0_1 l0_1.length c0_1] ?_; (with_reducible refine (nat_IsZero.calls k _ _ l0_1 false _ ?side1 ?side2 A2.out).mono ?_); (case side1 => exact tc (Kd.C_below HR0_1.out HB.out)); (case side2 => exact HC0_1.out); rintro e w10 ⟨rfl, hb⟩; refine ⟨_, rfl, ?_⟩; replace BK260 := kb BK260 hb; replace HB := bs HB hb; (try clear hb); (try clear hb2); (try clear hk); (try clear hi); have hcz11_0 := bc BK260 0 (.bool true); have hcz11_1 := bc BK260 1 (.slice A0_1 l0_1.length c0_1); have hfz11_0 := blk_frozen BK260.out 0; have hfz11_1 := blk_frozen BK260.out 1))
   go_ret
   exact ⟨by first | rfl | (simp [errW_none, errW_some] <;> rfl) | (simp [*, errW_none, errW_some] <;> rfl), tb HB⟩
  ·replace c7 := Bool.eq_false_iff.mpr c7
   subst c7
   have H1 : (some 1) = some r := by rw [if_neg (show ¬ (false = true) by decide)] at H; exact H
   clear H
   have H := H1
   clear H1
   obtain rfl := Option.some.inj H
   go_enter Try.func13, Try.ntmps13
   go_wp2_with (first | ((with_reducible refine gate_dst (N := 1) rfl ?_); refine bx (N := 1) #[.bool false, .slice A0_1 l0_1.length c0_1] 24 ?_; intro gb260 hg w12 hbox hb; have BK260 := Aside0.mk (hbox); have GW260 := bz hg HB; have GE260 := bz hg HB; replace HB := bs HB hb; clear hb hbox hg; have hcz13_0 := bc BK260 0 (.bool false); have hcz13_1 := bc BK260 1 (.slice A0_1 l0_1.length c0_1); have hfz13_0 := blk_frozen BK260.out 0; have hfz13_1 := blk_frozen BK260.out 1) | ((with_reducible refine gate_callee (f := 24) rfl ?_); refine gL (N := some 6) Try.func24 #[.slice A0_1 l0_1.length c0_1] ?_; (with_reducible refine (nat_IsZero.calls k _ _ l0_1 false _ ?side1 ?side2 A2.out).mono ?_); (case side1 => exact tc (Kd.C_below HR0_1.out HB.out)); (case side2 => exact HC0_1.out); rintro e w14 ⟨rfl, hb⟩; refine ⟨_, rfl, ?_⟩; replace BK260 := kb BK260 hb; replace HB := bs HB hb; (try clear hb); (try clear hb2); (try clear hk); (try clear hi); have hcz15_0 := bc BK260 0 (.bool false); have hcz15_1 := bc BK260 1 (.slice A0_1 l0_1.length c0_1); have hfz15_0 := blk_frozen BK260.out 0; have hfz15_1 := blk_frozen BK260.out 1))
   go_ret
   exact ⟨by first | rfl | (simp [errW_none, errW_some] <;> rfl) | (simp [*, errW_none, errW_some] <;> rfl), tb HB⟩

end Go.Proofs.Ytfcnmgeokjemmaa.QTopNumbers
