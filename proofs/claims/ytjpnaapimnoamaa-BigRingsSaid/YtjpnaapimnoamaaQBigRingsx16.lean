-- written by wip/wprint, a program of this session
import Derived.Test.YtjpnaapimnoamaaQBigRingsx0
import Derived.Test.YtjpnaapimnoamaaQBigRingsx1
import Derived.Test.YtjpnaapimnoamaaQBigRingsx4
import Derived.Test.YtjpnaapimnoamaaQBigRingsx10
import Derived.Test.YtjpnaapimnoamaaQBigRingsx14
import Derived.Test.YtjpnaapimnoamaaQBigRingsx15
namespace Go.Proofs.Ytjpnaapimnoamaa.QBigRings
open Go.RowKit Go.Proofs.YtjpnaapimnoamaaW.PrintWords Go.Proofs.YtjpnaapimnoamaaW.PrintLast Go.Proofs.YtjpnaapimnoamaaW.PrintMore
open Go.Proofs.YtjpnaapimnoamaaW.PrintWords.Kd renaming R_alloc → qa, R_drewN → qn, R_drew → qd
open Go.Proofs.YtjpnaapimnoamaaW.PrintWords renaming below_alloc → ba, pw_below_drewN → bn, below_drew1 → bd
attribute [local go_sem] max2_int min2_int max_two min_two max_three min_three max_four min_four   -- for this text's walks alone
set_option linter.unusedVariables false
set_option linter.unusedSimpArgs false

/-! ### whetstonelaw02_BigRings: function 6 -/
def whetstonelaw02_BigRings.j0 : Nat → Bool → Bool → List Int → Bool → List Int → Bool → List Int → Option (Bool)
 | 0, _, _, _, _, _, _, _ => none
 | k + 1, x23, x625000, x625001, x626000, x626001, x627000, x627001 => if x23 = true then ((whetstonelaw02_signed.f k).bind fun t631 => (some t631)) else ((big_Add.f k x626000 x626001 x627000 x627001).bind fun bt632 => ((big_Mul.f k x625000 x625001 bt632.1 bt632.2).bind fun bt636 => ((big_Mul.f k x625000 x625001 x626000 x626001).bind fun bt640 => ((big_Mul.f k x625000 x625001 x627000 x627001).bind fun bt644 => ((big_Add.f k bt640.1 bt640.2 bt644.1 bt644.2).bind fun bt648 => ((big_Cmp.f k bt636.1 bt636.2 bt648.1 bt648.2).bind fun t652 => (if t652 = 0 then ((big_Add.f k x625000 x625001 x626000 x626001).bind fun bt653 => ((big_Sub.f k bt653.1 bt653.2 x626000 x626001).bind fun bt657 => ((big_Cmp.f k bt657.1 bt657.2 x625000 x625001).bind fun t661 => (if t661 = 0 then ((big_Neg.f k x625000 x625001).bind fun bt662 => ((big_Mul.f k bt662.1 bt662.2 x626000 x626001).bind fun bt666 => ((big_Mul.f k x626000 x626001 x625000 x625001).bind fun bt670 => ((big_Neg.f k bt670.1 bt670.2).bind fun bt674 => ((big_Cmp.f k bt666.1 bt666.2 bt674.1 bt674.2).bind fun t678 => (if t678 = 0 then ((big_Sub.f k x625000 x625001 x625000 x625001).bind fun bt679 => ((big_Sign.f k bt679.1 bt679.2).bind fun t683 => (if t683 = 0 then ((big_Mul.f k x625000 x625001 x625000 x625001).bind fun bt684 => ((big_Mul.f k x626000 x626001 x626000 x626001).bind fun bt688 => ((big_Add.f k bt684.1 bt684.2 bt688.1 bt688.2).bind fun bt692 => ((big_Of.f k 0).bind fun bt696 => ((big_Cmp.f k bt692.1 bt692.2 bt696.1 bt696.2).bind fun t700 => (some (decide (t700 ≥ 0)))))))) else (none)))) else (none))))))) else (none))))) else (none))))))))
def whetstonelaw02_BigRings.f (k : Nat) (a0_0 : Bool) (l0_1 : List Int) (a1_0 : Bool) (l1_1 : List Int) (a2_0 : Bool) (l2_1 : List Int) : Option (Bool) := (whetstonelaw02_signed.f k).bind fun t627 => (if t627 = true then ((whetstonelaw02_small.f a0_0 l0_1).bind fun t628 => (if t628 = true then ((whetstonelaw02_small.f a1_0 l1_1).bind fun t629 => (if t629 = true then ((whetstonelaw02_small.f a2_0 l2_1).bind fun t630 => (whetstonelaw02_BigRings.j0 k (!t630) a0_0 l0_1 a1_0 l1_1 a2_0 l2_1)) else (whetstonelaw02_BigRings.j0 k true a0_0 l0_1 a1_0 l1_1 a2_0 l2_1))) else (whetstonelaw02_BigRings.j0 k true a0_0 l0_1 a1_0 l1_1 a2_0 l2_1))) else (whetstonelaw02_BigRings.j0 k true a0_0 l0_1 a1_0 l1_1 a2_0 l2_1))
theorem whetstonelaw02_BigRings.mono_l : ∀ k, (∀ y0 y1 y2 y3 y4 y5 y6, LeO (whetstonelaw02_BigRings.j0 k y0 y1 y2 y3 y4 y5 y6) (whetstonelaw02_BigRings.j0 (k + 1) y0 y1 y2 y3 y4 y5 y6))
 | 0 => fun _ _ _ _ _ _ _ r h => by simp [whetstonelaw02_BigRings.j0] at h
 | k + 1 => by
  have ih0 := whetstonelaw02_BigRings.mono_l k
  ·intro y0 y1 y2 y3 y4 y5 y6
   unfold whetstonelaw02_BigRings.j0
   repeat' first
   | (with_reducible exact ih0 _ _ _ _ _ _ _)
   | (with_reducible exact big_Add.mono _ _ _ _ _)
   | (with_reducible exact big_Cmp.mono _ _ _ _ _)
   | (with_reducible exact big_Mul.mono _ _ _ _ _)
   | (with_reducible exact big_Neg.mono _ _ _)
   | (with_reducible exact big_Of.mono _ _)
   | (with_reducible exact big_Sign.mono _ _ _)
   | (with_reducible exact big_Sub.mono _ _ _ _ _)
   | (with_reducible exact whetstonelaw02_signed.mono _)
   | (with_reducible exact LeO.refl _)
   | (with_reducible exact LeO.none _)
   | (with_reducible refine LeO.ite ?_ ?_)
   | (with_reducible refine LeO.bind ?_ (fun _ => ?_))
   | exact ih0 _ _ _ _ _ _ _
   | exact big_Add.mono _ _ _ _ _
   | exact big_Cmp.mono _ _ _ _ _
   | exact big_Mul.mono _ _ _ _ _
   | exact big_Neg.mono _ _ _
   | exact big_Of.mono _ _
   | exact big_Sign.mono _ _ _
   | exact big_Sub.mono _ _ _ _ _
   | exact whetstonelaw02_signed.mono _
   | exact LeO.none _
   | refine LeO.ite ?_ ?_
   | refine LeO.bind ?_ (fun _ => ?_)
theorem whetstonelaw02_BigRings.mono : ∀ a0 a1 a2 a3 a4 a5 k, LeO (whetstonelaw02_BigRings.f k a0 a1 a2 a3 a4 a5) (whetstonelaw02_BigRings.f (k + 1) a0 a1 a2 a3 a4 a5) := by
 intro a0 a1 a2 a3 a4 a5 k
 have ih0 := whetstonelaw02_BigRings.mono_l k
 unfold whetstonelaw02_BigRings.f
 repeat' first
   | (with_reducible exact ih0 _ _ _ _ _ _ _)
   | (with_reducible exact big_Add.mono _ _ _ _ _)
   | (with_reducible exact big_Cmp.mono _ _ _ _ _)
   | (with_reducible exact big_Mul.mono _ _ _ _ _)
   | (with_reducible exact big_Neg.mono _ _ _)
   | (with_reducible exact big_Of.mono _ _)
   | (with_reducible exact big_Sign.mono _ _ _)
   | (with_reducible exact big_Sub.mono _ _ _ _ _)
   | (with_reducible exact whetstonelaw02_signed.mono _)
   | (with_reducible exact LeO.refl _)
   | (with_reducible exact LeO.none _)
   | (with_reducible refine LeO.ite ?_ ?_)
   | (with_reducible refine LeO.bind ?_ (fun _ => ?_))
   | exact ih0 _ _ _ _ _ _ _
   | exact big_Add.mono _ _ _ _ _
   | exact big_Cmp.mono _ _ _ _ _
   | exact big_Mul.mono _ _ _ _ _
   | exact big_Neg.mono _ _ _
   | exact big_Of.mono _ _
   | exact big_Sign.mono _ _ _
   | exact big_Sub.mono _ _ _ _ _
   | exact whetstonelaw02_signed.mono _
   | exact LeO.none _
   | refine LeO.ite ?_ ?_
   | refine LeO.bind ?_ (fun _ => ?_)
def whetstonelaw02_BigRings.T3 : Bool × List (List Nat × List Nat) := (true, [([], []), ([], []), ([], []), ([1, 2], [1, 2]), ([0, 3, 3], [0, 3]), ([], []), ([], []), ([5, 6, 4], [5, 6]), ([], []), ([], []), ([8, 9, 7], [8, 9]), ([7, 10, 10], [7, 10]), ([4, 11, 11], [4, 11]), ([12], [12]), ([13, 12], [13]), ([14], [14]), ([14], [14]), ([15, 16, 14, 14], [14, 15, 16]), ([14], [14]), ([17, 18, 17, 14], [14, 17, 18]), ([14], [14]), ([19, 20, 19, 14], [14, 19, 20]), ([21, 14], [14, 21]), ([14, 22], [14, 22]), ([23, 21], [23]), ([24], [24]), ([25, 24, 24], [24, 25]), ([24], [24]), ([26, 27, 26, 24], [24, 26, 27]), ([24], [24]), ([24], [24]), ([29, 30, 28, 24], [24, 29, 30]), ([31, 31, 24], [24, 31]), ([28, 32, 32, 24], [24, 28, 32]), ([33, 24], [24, 33]), ([24, 34], [24, 34]), ([35, 33], [35]), ([36], [36]), ([36], [36]), ([37, 38, 36, 36], [36, 37, 38]), ([39, 39, 36], [36, 39]), ([40, 36], [36, 40]), ([36, 41], [36, 41]), ([42, 40], [42]), ([43], [43]), ([43], [43]), ([44, 45, 43, 43], [43, 44, 45]), ([43], [43]), ([43], [43]), ([47, 48, 46, 43], [43, 47, 48]), ([46, 49, 49, 43], [43, 46, 49]), ([50, 43], [43]), ([50, 51, 51, 43], [43, 50, 51]), ([52, 43], [43, 52]), ([43, 53], [43, 53]), ([54, 52, 0, 1, 2, 3, 4, 5, 6, 7, 8, 9, 10, 11, 12, 13, 14, 15, 16, 17, 18, 19, 20, 21, 22, 23, 24, 25, 26, 27, 28, 29, 30, 31, 32, 33, 34, 35, 36, 37, 38, 39, 40, 41, 42, 43, 44, 45, 46, 47, 48, 49, 50, 51, 52, 53, 54], [54])])
def whetstonelaw02_BigRings.B3 : List Nat := [0, 0, 0, 6, 15, 0, 0, 127, 0, 0, 1023, 2047, 4095, 8191, 16383, 32767, 32767, 131071, 32767, 524287, 32767, 2097151, 4194303, 8388607, 16777215, 33554431, 67108863, 33554431, 268435455, 33554431, 33554431, 2147483647, 4294967295, 8589934591, 17179869183, 34359738367, 68719476735, 137438953471, 137438953471, 549755813887, 1099511627775, 2199023255551, 4398046511103, 8796093022207, 17592186044415, 17592186044415, 70368744177663, 17592186044415, 17592186044415, 562949953421311, 1125899906842623, 2251799813685247, 4503599627370495, 9007199254740991, 18014398509481983, 36028797018963967]
theorem whetstonelaw02_BigRings.tab3 : rtab .any (opsOf Try.f6 3) = whetstonelaw02_BigRings.T3 := by kernel_rfl
theorem whetstonelaw02_BigRings.bits3 : waitsOk whetstonelaw02_BigRings.T3.2 whetstonelaw02_BigRings.B3 = true := by kernel_rfl
set_option maxHeartbeats 8000000 in
set_option maxRecDepth 100000 in
theorem whetstonelaw02_BigRings.calls (k : Nat) (a0_0 : Bool) (A0_1 : Option Addr) (c0_1 : Nat) (l0_1 : List Int) (a1_0 : Bool) (A1_1 : Option Addr) (c1_1 : Nat) (l1_1 : List Int) (a2_0 : Bool) (A2_1 : Option Addr) (c2_1 : Nat) (l2_1 : List Int) (r : Bool) (w : World) (hr0_1 : Kd.C (Kd.int .u32) w A0_1 l0_1.length l0_1) (hc0_1 : l0_1.length ≤ c0_1) (hr1_1 : Kd.C (Kd.int .u32) w A1_1 l1_1.length l1_1) (hc1_1 : l1_1.length ≤ c1_1) (hr2_1 : Kd.C (Kd.int .u32) w A2_1 l2_1.length l2_1) (hc2_1 : l2_1.length ≤ c2_1) (h : whetstonelaw02_BigRings.f k a0_0 l0_1 a1_0 l1_1 a2_0 l2_1 = some r) :
  Calls Try.prog 6 #[.agg #[.bool a0_0, .slice A0_1 l0_1.length c0_1], .agg #[.bool a1_0, .slice A1_1 l1_1.length c1_1], .agg #[.bool a2_0, .slice A2_1 l2_1.length c2_1]] w fun e w' => e = .returned (.bool r) ∧ Below w.heap.size w w' := by
 have hu24 := Try.underlying24
 have HR0_1 := Aside0.mk hr0_1
 have HC0_1 := Aside0.mk hc0_1
 clear hr0_1 hc0_1
 have HR1_1 := Aside0.mk hr1_1
 have HC1_1 := Aside0.mk hc1_1
 clear hr1_1 hc1_1
 have HR2_1 := Aside0.mk hr2_1
 have HC2_1 := Aside0.mk hc2_1
 clear hr2_1 hc2_1
 have HB := Aside0.mk (Below.refl w.heap.size w)
 have H : ((whetstonelaw02_signed.f k).bind fun t627 => (if t627 = true then ((whetstonelaw02_small.f a0_0 l0_1).bind fun t628 => (if t628 = true then ((whetstonelaw02_small.f a1_0 l1_1).bind fun t629 => (if t629 = true then ((whetstonelaw02_small.f a2_0 l2_1).bind fun t630 => (whetstonelaw02_BigRings.j0 k (!t630) a0_0 l0_1 a1_0 l1_1 a2_0 l2_1)) else (whetstonelaw02_BigRings.j0 k true a0_0 l0_1 a1_0 l1_1 a2_0 l2_1))) else (whetstonelaw02_BigRings.j0 k true a0_0 l0_1 a1_0 l1_1 a2_0 l2_1))) else (whetstonelaw02_BigRings.j0 k true a0_0 l0_1 a1_0 l1_1 a2_0 l2_1))) = some r := h
 clear h
 have HC4 := Aside0.mk H
 clear H
 go_enter Try.func6, Try.ntmps6
 go_upto_region 1 with (first | ((with_reducible refine gate_dst (N := 3) rfl ?_); refine bx (N := 3) #[.bool a0_0, .slice A0_1 l0_1.length c0_1] 24 ?_; intro gb624 hg w5 hbox hb; have BK624 := Aside0.mk (hbox); have GW624 := bz hg HB; have GE624 := bz hg HB; replace HB := bs HB hb; clear hb hbox hg) | ((with_reducible refine gate_dst (N := 4) rfl ?_); refine bx (N := 4) #[.bool a1_0, .slice A1_1 l1_1.length c1_1] 24 ?_; intro gb625 hg w6 hbox hb; have BK625 := Aside0.mk (hbox); have GW625 := bz hg HB; have GE625 := bz hg HB; replace HB := bs HB hb; have NB624_625 := nl hg BK624; have NB625_624 := ng hg BK624; replace BK624 := kb BK624 hb; clear hb hbox hg) | ((with_reducible refine gate_dst (N := 5) rfl ?_); refine bx (N := 5) #[.bool a2_0, .slice A2_1 l2_1.length c2_1] 24 ?_; intro gb626 hg w7 hbox hb; have BK626 := Aside0.mk (hbox); have GW626 := bz hg HB; have GE626 := bz hg HB; replace HB := bs HB hb; have NB624_626 := nl hg BK624; have NB626_624 := ng hg BK624; replace BK624 := kb BK624 hb; have NB625_626 := nl hg BK625; have NB626_625 := ng hg BK625; replace BK625 := kb BK625 hb; clear hb hbox hg))
 (try simp only [Act.put, List.setIfInBounds_toArray, List.set_cons_zero, List.set_cons_succ])
 go_cut [23] from 1 to 0 (fun v23 wc => ∃ (kq : Nat) (x23_3 : Bool), v23 = .bool x23_3 ∧ Aside0 (whetstonelaw02_BigRings.j0 kq x23_3 a0_0 l0_1 a1_0 l1_1 a2_0 l2_1 = some r) ∧ Aside0 (kq ≤ k) ∧ Aside0 (wc.heap[gb624]? = some (.cells #[.bool a0_0, (.slice A0_1 l0_1.length c0_1)] 24 (0, 0))) ∧ Aside0 (wc.heap[gb625]? = some (.cells #[.bool a1_0, (.slice A1_1 l1_1.length c1_1)] 24 (0, 0))) ∧ Aside0 (wc.heap[gb626]? = some (.cells #[.bool a2_0, (.slice A2_1 l2_1.length c2_1)] 24 (0, 0))) ∧ Aside0 (Below w.heap.size w wc))
 case first =>
  have H := HC4.out
  clear HC4
  replace H := Option.bind_eq_some_iff.mp H
  obtain ⟨t627, A80, H⟩ := H
  have A8 := Aside0.mk A80
  clear A80
  by_cases c9 : t627 = true
  ·subst c9
   have H1 : ((whetstonelaw02_small.f a0_0 l0_1).bind fun t628 => (if t628 = true then ((whetstonelaw02_small.f a1_0 l1_1).bind fun t629 => (if t629 = true then ((whetstonelaw02_small.f a2_0 l2_1).bind fun t630 => (whetstonelaw02_BigRings.j0 k (!t630) a0_0 l0_1 a1_0 l1_1 a2_0 l2_1)) else (whetstonelaw02_BigRings.j0 k true a0_0 l0_1 a1_0 l1_1 a2_0 l2_1))) else (whetstonelaw02_BigRings.j0 k true a0_0 l0_1 a1_0 l1_1 a2_0 l2_1))) = some r := by rw [if_pos rfl] at H; exact H
   clear H
   have H := H1
   clear H1
   replace H := Option.bind_eq_some_iff.mp H
   obtain ⟨t628, A100, H⟩ := H
   have A10 := Aside0.mk A100
   clear A100
   by_cases c11 : t628 = true
   ·subst c11
    have H1 : ((whetstonelaw02_small.f a1_0 l1_1).bind fun t629 => (if t629 = true then ((whetstonelaw02_small.f a2_0 l2_1).bind fun t630 => (whetstonelaw02_BigRings.j0 k (!t630) a0_0 l0_1 a1_0 l1_1 a2_0 l2_1)) else (whetstonelaw02_BigRings.j0 k true a0_0 l0_1 a1_0 l1_1 a2_0 l2_1))) = some r := by rw [if_pos rfl] at H; exact H
    clear H
    have H := H1
    clear H1
    replace H := Option.bind_eq_some_iff.mp H
    obtain ⟨t629, A120, H⟩ := H
    have A12 := Aside0.mk A120
    clear A120
    by_cases c13 : t629 = true
    ·subst c13
     have H1 : ((whetstonelaw02_small.f a2_0 l2_1).bind fun t630 => (whetstonelaw02_BigRings.j0 k (!t630) a0_0 l0_1 a1_0 l1_1 a2_0 l2_1)) = some r := by rw [if_pos rfl] at H; exact H
     clear H
     have H := H1
     clear H1
     replace H := Option.bind_eq_some_iff.mp H
     obtain ⟨t630, A140, H⟩ := H
     have A14 := Aside0.mk A140
     clear A140
     have H' := Aside0.mk H
     clear H
     go_wp2_with (first | ((with_reducible refine gate_callee (f := 13) rfl ?_); refine gL (N := some 7) Try.func13 #[] ?_; (with_reducible refine (whetstonelaw02_signed.calls k  true _ A8.out).mono ?_); rintro e w15 ⟨rfl, hb⟩; refine ⟨_, rfl, ?_⟩; replace BK624 := kb BK624 hb; replace BK625 := kb BK625 hb; replace BK626 := kb BK626 hb; replace HB := bs HB hb; (try clear hb); (try clear hb2); (try clear hk); (try clear hi); have hnb16 := NB624_625.out; have hnc16 := NB625_624.out; have hnb17 := NB624_626.out; have hnc17 := NB626_624.out; have hcz18_0 := bc BK624 0 (.bool a0_0); have hcz18_1 := bc BK624 1 (.slice A0_1 l0_1.length c0_1); have hfz18_0 := blk_frozen BK624.out 0; have hfz18_1 := blk_frozen BK624.out 1) | (go_at_call 12; (with_reducible refine (whetstonelaw02_small.calls a0_0 _ _ l0_1 true _ ?side1 ?side2 A10.out).mono ?_); (case side1 => exact tc (Kd.C_below HR0_1.out HB.out)); (case side2 => exact HC0_1.out); rintro e w19 ⟨rfl, hb⟩; replace BK624 := kb BK624 hb; replace BK625 := kb BK625 hb; replace BK626 := kb BK626 hb; replace HB := bs HB hb; (try clear hb); (try clear hb2); (try clear hk); (try clear hi); have hnb20 := NB625_626.out; have hnc20 := NB626_625.out; have hcz21_0 := bc BK625 0 (.bool a1_0); have hcz21_1 := bc BK625 1 (.slice A1_1 l1_1.length c1_1); have hfz21_0 := blk_frozen BK625.out 0; have hfz21_1 := blk_frozen BK625.out 1) | (go_at_call 12; (with_reducible refine (whetstonelaw02_small.calls a1_0 _ _ l1_1 true _ ?side1 ?side2 A12.out).mono ?_); (case side1 => exact tc (Kd.C_below HR1_1.out HB.out)); (case side2 => exact HC1_1.out); rintro e w22 ⟨rfl, hb⟩; replace BK624 := kb BK624 hb; replace BK625 := kb BK625 hb; replace BK626 := kb BK626 hb; replace HB := bs HB hb; (try clear hb); (try clear hb2); (try clear hk); (try clear hi); have hcz23_0 := bc BK626 0 (.bool a2_0); have hcz23_1 := bc BK626 1 (.slice A2_1 l2_1.length c2_1); have hfz23_0 := blk_frozen BK626.out 0; have hfz23_1 := blk_frozen BK626.out 1) | (go_at_call 12; (with_reducible refine (whetstonelaw02_small.calls a2_0 _ _ l2_1 t630 _ ?side1 ?side2 A14.out).mono ?_); (case side1 => exact tc (Kd.C_below HR2_1.out HB.out)); (case side2 => exact HC2_1.out); rintro e w24 ⟨rfl, hb⟩; replace BK624 := kb BK624 hb; replace BK625 := kb BK625 hb; replace BK626 := kb BK626 hb; replace HB := bs HB hb; (try clear hb); (try clear hb2); (try clear hk); (try clear hi)))
     go_meet
     case rel => exact ⟨_, (!t630), (by first | rfl | (simp; done) | (simp [*]; done)), H', ⟨by first | omega | exact Nat.le_refl _⟩, ⟨tk BK624⟩, ⟨tk BK625⟩, ⟨tk BK626⟩, ⟨tb HB⟩⟩
    ·replace c13 := Bool.eq_false_iff.mpr c13
     subst c13
     have H1 : (whetstonelaw02_BigRings.j0 k true a0_0 l0_1 a1_0 l1_1 a2_0 l2_1) = some r := by rw [if_neg (show ¬ (false = true) by decide)] at H; exact H
     clear H
     have H := H1
     clear H1
     have H' := Aside0.mk H
     clear H
     go_wp2_with (first | ((with_reducible refine gate_callee (f := 13) rfl ?_); refine gL (N := some 7) Try.func13 #[] ?_; (with_reducible refine (whetstonelaw02_signed.calls k  true _ A8.out).mono ?_); rintro e w25 ⟨rfl, hb⟩; refine ⟨_, rfl, ?_⟩; replace BK624 := kb BK624 hb; replace BK625 := kb BK625 hb; replace BK626 := kb BK626 hb; replace HB := bs HB hb; (try clear hb); (try clear hb2); (try clear hk); (try clear hi); have hnb26 := NB624_625.out; have hnc26 := NB625_624.out; have hnb27 := NB624_626.out; have hnc27 := NB626_624.out; have hcz28_0 := bc BK624 0 (.bool a0_0); have hcz28_1 := bc BK624 1 (.slice A0_1 l0_1.length c0_1); have hfz28_0 := blk_frozen BK624.out 0; have hfz28_1 := blk_frozen BK624.out 1) | (go_at_call 12; (with_reducible refine (whetstonelaw02_small.calls a0_0 _ _ l0_1 true _ ?side1 ?side2 A10.out).mono ?_); (case side1 => exact tc (Kd.C_below HR0_1.out HB.out)); (case side2 => exact HC0_1.out); rintro e w29 ⟨rfl, hb⟩; replace BK624 := kb BK624 hb; replace BK625 := kb BK625 hb; replace BK626 := kb BK626 hb; replace HB := bs HB hb; (try clear hb); (try clear hb2); (try clear hk); (try clear hi); have hnb30 := NB625_626.out; have hnc30 := NB626_625.out; have hcz31_0 := bc BK625 0 (.bool a1_0); have hcz31_1 := bc BK625 1 (.slice A1_1 l1_1.length c1_1); have hfz31_0 := blk_frozen BK625.out 0; have hfz31_1 := blk_frozen BK625.out 1) | (go_at_call 12; (with_reducible refine (whetstonelaw02_small.calls a1_0 _ _ l1_1 false _ ?side1 ?side2 A12.out).mono ?_); (case side1 => exact tc (Kd.C_below HR1_1.out HB.out)); (case side2 => exact HC1_1.out); rintro e w32 ⟨rfl, hb⟩; replace BK624 := kb BK624 hb; replace BK625 := kb BK625 hb; replace BK626 := kb BK626 hb; replace HB := bs HB hb; (try clear hb); (try clear hb2); (try clear hk); (try clear hi)))
     go_meet
     case rel => exact ⟨_, (true), (by first | rfl | (simp; done) | (simp [*]; done)), H', ⟨by first | omega | exact Nat.le_refl _⟩, ⟨tk BK624⟩, ⟨tk BK625⟩, ⟨tk BK626⟩, ⟨tb HB⟩⟩
   ·replace c11 := Bool.eq_false_iff.mpr c11
    subst c11
    have H1 : (whetstonelaw02_BigRings.j0 k true a0_0 l0_1 a1_0 l1_1 a2_0 l2_1) = some r := by rw [if_neg (show ¬ (false = true) by decide)] at H; exact H
    clear H
    have H := H1
    clear H1
    have H' := Aside0.mk H
    clear H
    go_wp2_with (first | ((with_reducible refine gate_callee (f := 13) rfl ?_); refine gL (N := some 7) Try.func13 #[] ?_; (with_reducible refine (whetstonelaw02_signed.calls k  true _ A8.out).mono ?_); rintro e w33 ⟨rfl, hb⟩; refine ⟨_, rfl, ?_⟩; replace BK624 := kb BK624 hb; replace BK625 := kb BK625 hb; replace BK626 := kb BK626 hb; replace HB := bs HB hb; (try clear hb); (try clear hb2); (try clear hk); (try clear hi); have hnb34 := NB624_625.out; have hnc34 := NB625_624.out; have hnb35 := NB624_626.out; have hnc35 := NB626_624.out; have hcz36_0 := bc BK624 0 (.bool a0_0); have hcz36_1 := bc BK624 1 (.slice A0_1 l0_1.length c0_1); have hfz36_0 := blk_frozen BK624.out 0; have hfz36_1 := blk_frozen BK624.out 1) | (go_at_call 12; (with_reducible refine (whetstonelaw02_small.calls a0_0 _ _ l0_1 false _ ?side1 ?side2 A10.out).mono ?_); (case side1 => exact tc (Kd.C_below HR0_1.out HB.out)); (case side2 => exact HC0_1.out); rintro e w37 ⟨rfl, hb⟩; replace BK624 := kb BK624 hb; replace BK625 := kb BK625 hb; replace BK626 := kb BK626 hb; replace HB := bs HB hb; (try clear hb); (try clear hb2); (try clear hk); (try clear hi)))
    go_meet
    case rel => exact ⟨_, (true), (by first | rfl | (simp; done) | (simp [*]; done)), H', ⟨by first | omega | exact Nat.le_refl _⟩, ⟨tk BK624⟩, ⟨tk BK625⟩, ⟨tk BK626⟩, ⟨tb HB⟩⟩
  ·replace c9 := Bool.eq_false_iff.mpr c9
   subst c9
   have H1 : (whetstonelaw02_BigRings.j0 k true a0_0 l0_1 a1_0 l1_1 a2_0 l2_1) = some r := by rw [if_neg (show ¬ (false = true) by decide)] at H; exact H
   clear H
   have H := H1
   clear H1
   have H' := Aside0.mk H
   clear H
   go_wp2_with (first | ((with_reducible refine gate_callee (f := 13) rfl ?_); refine gL (N := some 7) Try.func13 #[] ?_; (with_reducible refine (whetstonelaw02_signed.calls k  false _ A8.out).mono ?_); rintro e w38 ⟨rfl, hb⟩; refine ⟨_, rfl, ?_⟩; replace BK624 := kb BK624 hb; replace BK625 := kb BK625 hb; replace BK626 := kb BK626 hb; replace HB := bs HB hb; (try clear hb); (try clear hb2); (try clear hk); (try clear hi)))
   go_meet
   case rel => exact ⟨_, (true), (by first | rfl | (simp; done) | (simp [*]; done)), H', ⟨by first | omega | exact Nat.le_refl _⟩, ⟨tk BK624⟩, ⟨tk BK625⟩, ⟨tk BK626⟩, ⟨tb HB⟩⟩
 case rest =>
  clear HC4
  (try clear c1); (try clear c2); (try clear p2); (try clear c3); (try clear c6); (try clear c9); (try clear c11); (try clear c13); (try clear c16); (try clear c17); (try clear c20); (try clear c26); (try clear c27); (try clear c30); (try clear c34); (try clear c35); (try clear hcz18_0); (try clear hcz18_1); (try clear hcz21_0); (try clear hcz21_1); (try clear hcz23_0); (try clear hcz23_1); (try clear hcz28_0); (try clear hcz28_1); (try clear hcz31_0); (try clear hcz31_1); (try clear hcz36_0); (try clear hcz36_1); (try clear hfz18_0); (try clear hfz18_1); (try clear hfz21_0); (try clear hfz21_1); (try clear hfz23_0); (try clear hfz23_1); (try clear hfz28_0); (try clear hfz28_1); (try clear hfz31_0); (try clear hfz31_1); (try clear hfz36_0); (try clear hfz36_1)
  obtain ⟨kq, x23_3, rfl, HA, HJ3, BK624, BK625, BK626, HB⟩ := hcut
  cases kq with
  | zero => exact absurd HA.out (by simp [whetstonelaw02_BigRings.j0])
  | succ kj3 =>
   have H := HA.out
   clear HA
   simp only [whetstonelaw02_BigRings.j0] at H
   by_cases c39 : x23_3 = true
   ·subst c39
    have H1 : ((whetstonelaw02_signed.f kj3).bind fun t631 => (some t631)) = some r := by rw [if_pos rfl] at H; exact H
    clear H
    have H := H1
    clear H1
    replace H := Option.bind_eq_some_iff.mp H
    obtain ⟨t631, A400, H⟩ := H
    have A40 := Aside0.mk A400
    clear A400
    obtain rfl := Option.some.inj H
    go_wp2_with (first | ((with_reducible refine gate_callee (f := 13) rfl ?_); refine gL (N := some 24) Try.func13 #[] ?_; (with_reducible refine (whetstonelaw02_signed.calls kj3  t631 _ A40.out).mono ?_); rintro e w41 ⟨rfl, hb⟩; refine ⟨_, rfl, ?_⟩; replace HB := bs HB hb; (try clear hb); (try clear hb2); (try clear hk); (try clear hi)))
    go_ret
    exact ⟨by first | rfl | (simp [errW_none, errW_some] <;> rfl) | (simp [*, errW_none, errW_some] <;> rfl), tb HB⟩
   ·replace c39 := Bool.eq_false_iff.mpr c39
    subst c39
    have H1 : ((big_Add.f kj3 a1_0 l1_1 a2_0 l2_1).bind fun bt632 => ((big_Mul.f kj3 a0_0 l0_1 bt632.1 bt632.2).bind fun bt636 => ((big_Mul.f kj3 a0_0 l0_1 a1_0 l1_1).bind fun bt640 => ((big_Mul.f kj3 a0_0 l0_1 a2_0 l2_1).bind fun bt644 => ((big_Add.f kj3 bt640.1 bt640.2 bt644.1 bt644.2).bind fun bt648 => ((big_Cmp.f kj3 bt636.1 bt636.2 bt648.1 bt648.2).bind fun t652 => (if t652 = 0 then ((big_Add.f kj3 a0_0 l0_1 a1_0 l1_1).bind fun bt653 => ((big_Sub.f kj3 bt653.1 bt653.2 a1_0 l1_1).bind fun bt657 => ((big_Cmp.f kj3 bt657.1 bt657.2 a0_0 l0_1).bind fun t661 => (if t661 = 0 then ((big_Neg.f kj3 a0_0 l0_1).bind fun bt662 => ((big_Mul.f kj3 bt662.1 bt662.2 a1_0 l1_1).bind fun bt666 => ((big_Mul.f kj3 a1_0 l1_1 a0_0 l0_1).bind fun bt670 => ((big_Neg.f kj3 bt670.1 bt670.2).bind fun bt674 => ((big_Cmp.f kj3 bt666.1 bt666.2 bt674.1 bt674.2).bind fun t678 => (if t678 = 0 then ((big_Sub.f kj3 a0_0 l0_1 a0_0 l0_1).bind fun bt679 => ((big_Sign.f kj3 bt679.1 bt679.2).bind fun t683 => (if t683 = 0 then ((big_Mul.f kj3 a0_0 l0_1 a0_0 l0_1).bind fun bt684 => ((big_Mul.f kj3 a1_0 l1_1 a1_0 l1_1).bind fun bt688 => ((big_Add.f kj3 bt684.1 bt684.2 bt688.1 bt688.2).bind fun bt692 => ((big_Of.f kj3 0).bind fun bt696 => ((big_Cmp.f kj3 bt692.1 bt692.2 bt696.1 bt696.2).bind fun t700 => (some (decide (t700 ≥ 0)))))))) else (none)))) else (none))))))) else (none))))) else (none)))))))) = some r := by rw [if_neg (show ¬ (false = true) by decide)] at H; exact H
    clear H
    have H := H1
    clear H1
    replace H := Option.bind_eq_some_iff.mp H
    obtain ⟨⟨t632, t633⟩, A420, H⟩ := H
    try dsimp only at H
    have A42 := Aside0.mk A420
    clear A420
    replace H := Option.bind_eq_some_iff.mp H
    obtain ⟨⟨t636, t637⟩, A430, H⟩ := H
    try dsimp only at H
    have A43 := Aside0.mk A430
    clear A430
    replace H := Option.bind_eq_some_iff.mp H
    obtain ⟨⟨t640, t641⟩, A440, H⟩ := H
    try dsimp only at H
    have A44 := Aside0.mk A440
    clear A440
    replace H := Option.bind_eq_some_iff.mp H
    obtain ⟨⟨t644, t645⟩, A450, H⟩ := H
    try dsimp only at H
    have A45 := Aside0.mk A450
    clear A450
    replace H := Option.bind_eq_some_iff.mp H
    obtain ⟨⟨t648, t649⟩, A460, H⟩ := H
    try dsimp only at H
    have A46 := Aside0.mk A460
    clear A460
    replace H := Option.bind_eq_some_iff.mp H
    obtain ⟨t652, A470, H⟩ := H
    have A47 := Aside0.mk A470
    clear A470
    by_cases c48 : t652 = 0
    ·rw [if_pos c48] at H
     have c48b0 : (t652 == 0) = true := beq_iff_eq.mpr c48
     have c48b1 : (t652 != 0) = false := bne_eq_false_iff_eq.mpr c48
     clear c48
     replace H := Option.bind_eq_some_iff.mp H
     obtain ⟨⟨t653, t654⟩, A490, H⟩ := H
     try dsimp only at H
     have A49 := Aside0.mk A490
     clear A490
     replace H := Option.bind_eq_some_iff.mp H
     obtain ⟨⟨t657, t658⟩, A500, H⟩ := H
     try dsimp only at H
     have A50 := Aside0.mk A500
     clear A500
     replace H := Option.bind_eq_some_iff.mp H
     obtain ⟨t661, A510, H⟩ := H
     have A51 := Aside0.mk A510
     clear A510
     by_cases c52 : t661 = 0
     ·rw [if_pos c52] at H
      have c52b0 : (t661 == 0) = true := beq_iff_eq.mpr c52
      have c52b1 : (t661 != 0) = false := bne_eq_false_iff_eq.mpr c52
      clear c52
      replace H := Option.bind_eq_some_iff.mp H
      obtain ⟨⟨t662, t663⟩, A530, H⟩ := H
      try dsimp only at H
      have A53 := Aside0.mk A530
      clear A530
      replace H := Option.bind_eq_some_iff.mp H
      obtain ⟨⟨t666, t667⟩, A540, H⟩ := H
      try dsimp only at H
      have A54 := Aside0.mk A540
      clear A540
      replace H := Option.bind_eq_some_iff.mp H
      obtain ⟨⟨t670, t671⟩, A550, H⟩ := H
      try dsimp only at H
      have A55 := Aside0.mk A550
      clear A550
      replace H := Option.bind_eq_some_iff.mp H
      obtain ⟨⟨t674, t675⟩, A560, H⟩ := H
      try dsimp only at H
      have A56 := Aside0.mk A560
      clear A560
      replace H := Option.bind_eq_some_iff.mp H
      obtain ⟨t678, A570, H⟩ := H
      have A57 := Aside0.mk A570
      clear A570
      by_cases c58 : t678 = 0
      ·rw [if_pos c58] at H
       have c58b0 : (t678 == 0) = true := beq_iff_eq.mpr c58
       have c58b1 : (t678 != 0) = false := bne_eq_false_iff_eq.mpr c58
       clear c58
       replace H := Option.bind_eq_some_iff.mp H
       obtain ⟨⟨t679, t680⟩, A590, H⟩ := H
       try dsimp only at H
       have A59 := Aside0.mk A590
       clear A590
       replace H := Option.bind_eq_some_iff.mp H
       obtain ⟨t683, A600, H⟩ := H
       have A60 := Aside0.mk A600
       clear A600
       by_cases c61 : t683 = 0
       ·rw [if_pos c61] at H
        have c61b0 : (t683 == 0) = true := beq_iff_eq.mpr c61
        have c61b1 : (t683 != 0) = false := bne_eq_false_iff_eq.mpr c61
        clear c61
        replace H := Option.bind_eq_some_iff.mp H
        obtain ⟨⟨t684, t685⟩, A620, H⟩ := H
        try dsimp only at H
        have A62 := Aside0.mk A620
        clear A620
        replace H := Option.bind_eq_some_iff.mp H
        obtain ⟨⟨t688, t689⟩, A630, H⟩ := H
        try dsimp only at H
        have A63 := Aside0.mk A630
        clear A630
        replace H := Option.bind_eq_some_iff.mp H
        obtain ⟨⟨t692, t693⟩, A640, H⟩ := H
        try dsimp only at H
        have A64 := Aside0.mk A640
        clear A640
        replace H := Option.bind_eq_some_iff.mp H
        obtain ⟨⟨t696, t697⟩, A650, H⟩ := H
        try dsimp only at H
        have A65 := Aside0.mk A650
        clear A650
        replace H := Option.bind_eq_some_iff.mp H
        obtain ⟨t700, A660, H⟩ := H
        have A66 := Aside0.mk A660
        clear A660
        obtain rfl := Option.some.inj H
        try go_wp2
        replace BK624 := Aside0.mk (blk_drew BK624.out)
        replace BK625 := Aside0.mk (blk_drew BK625.out)
        replace BK626 := Aside0.mk (blk_drew BK626.out)
        replace HB := Aside0.mk (below_drew1 HB.out)
        refine start_ (n := 56) (S := fun w' => w'.cell? ⟨gb624, 0, none⟩ = some (.bool a0_0) ∧ w'.cell? ⟨gb624, 1, none⟩ = some (.slice A0_1 l0_1.length c0_1) ∧ w'.cell? ⟨gb625, 0, none⟩ = some (.bool a1_0) ∧ w'.cell? ⟨gb625, 1, none⟩ = some (.slice A1_1 l1_1.length c1_1) ∧ w'.cell? ⟨gb626, 0, none⟩ = some (.bool a2_0) ∧ w'.cell? ⟨gb626, 1, none⟩ = some (.slice A2_1 l2_1.length c2_1)) (ds := []) #[false, false, false, false, false, false, false, false, false, false, false, false, false, false, false, false, false, false, false, false, false, false, false, false, false, false, false, false, false, false, false, false, false, false, false, false, false, false, false, false, false, false, false, false, false, false, false, false, false, false, false, false, false, false, false, false] (by kernel_rfl) rfl rfl ⟨(blk_cell BK624.out 0).trans rfl, (blk_cell BK624.out 1).trans rfl, (blk_cell BK625.out 0).trans rfl, (blk_cell BK625.out 1).trans rfl, (blk_cell BK626.out 0).trans rfl, (blk_cell BK626.out 1).trans rfl⟩ (fun hHeld => ?_); refine with_tabW whetstonelaw02_BigRings.tab3 whetstonelaw02_BigRings.bits3 (fun HT_ HW_ => ?_)
        generalize wc.drew = w67 at BK624 BK625 BK626 HB hHeld ⊢
        refine tW (i := 0) (N := some 25) (bb 56 1) HT_ HW_ hHeld ?_
        refine tW (i := 1) (N := some 26) (bb 56 3) HT_ HW_ hHeld ?_
        refine tW (i := 2) (N := some 27) (bb 56 7) HT_ HW_ hHeld ?_
        refine tW (i := 5) (N := some 30) (bb 56 39) HT_ HW_ hHeld ?_
        refine tW (i := 6) (N := some 31) (bb 56 103) HT_ HW_ hHeld ?_
        refine tW (i := 8) (N := some 33) (bb 56 359) HT_ HW_ hHeld ?_
        refine tW (i := 9) (N := some 34) (bb 56 871) HT_ HW_ hHeld ?_
        refine oT (i := 3) (N := some 28) (bb 56 879) HT_ fun K hK => ?_
        refine gS Try.func20 #[.agg #[.bool a1_0, .slice A1_1 l1_1.length c1_1], .agg #[.bool a2_0, .slice A2_1 l2_1.length c2_1]] ?_
        with_reducible refine (big_Add.calls kj3 a1_0 _ _ l1_1 a2_0 _ _ l2_1 t632 t633 _ ?side1 ?side2 ?side3 ?side4 A42.out).mono ?_
        (case side1 => exact tc (Kd.C_below HR1_1.out HB.out))
        (case side2 => exact HC1_1.out)
        (case side3 => exact tc (Kd.C_below HR2_1.out HB.out))
        (case side4 => exact HC2_1.out)
        rintro e w68 ⟨v634, rfl, ho0, hb⟩
        refine ⟨_, rfl, ?_⟩
        have HO635 := rl ho0 HB
        replace BK624 := kb BK624 hb
        replace BK625 := kb BK625 hb
        replace BK626 := kb BK626 hb
        replace HB := bs HB hb
        (try clear hb); (try clear hb2); (try clear hk); (try clear hi); (try clear ho0)
        obtain ⟨Ao69, co69, eo69⟩ := Kd.R_slice HO635.out
        (first | subst eo69 | (injection eo69 with f1_ f2_ f3_; have f4_ := f1_.symm; have f5_ := f3_.symm; clear f1_ f2_ f3_; subst f4_; subst f5_))
        refine hK.out _ _ ⟨(blk_cell BK624.out 0).trans rfl, (blk_cell BK624.out 1).trans rfl, (blk_cell BK625.out 0).trans rfl, (blk_cell BK625.out 1).trans rfl, (blk_cell BK626.out 0).trans rfl, (blk_cell BK626.out 1).trans rfl⟩ fun hHeld => nT (N := some 28) ?_
        clear hK K
        refine oT (i := 4) (N := some 29) (bb 56 895) HT_ fun K hK => ?_
        refine gS Try.func39 #[.agg #[.bool a0_0, .slice A0_1 l0_1.length c0_1], .agg #[.bool t632, .slice Ao69 t633.length co69]] ?_
        with_reducible refine (big_Mul.calls kj3 a0_0 _ _ l0_1 t632 _ _ t633 t636 t637 _ ?side1 ?side2 ?side3 ?side4 A43.out).mono ?_
        (case side1 => exact tc (Kd.C_below HR0_1.out HB.out))
        (case side2 => exact HC0_1.out)
        (case side3 => exact tc (Kd.R_reads' HO635.out).2.2)
        (case side4 => exact (Kd.R_reads' HO635.out).2.1)
        rintro e w70 ⟨v638, rfl, ho0, hb⟩
        refine ⟨_, rfl, ?_⟩
        have HO639 := Aside0.mk (Kd.R_lower (Kd.R_new' ho0 (Kd.R_lt (tq HO635))) (below_size (tb HB)))
        replace HO635 := re HO635 (Kd.R_base ho0) hb
        replace BK624 := kb BK624 hb
        replace BK625 := kb BK625 hb
        replace BK626 := kb BK626 hb
        replace HB := bs HB hb
        (try clear hb); (try clear hb2); (try clear hk); (try clear hi); (try clear ho0)
        refine hK.out _ _ ⟨(blk_cell BK624.out 0).trans rfl, (blk_cell BK624.out 1).trans rfl, (blk_cell BK625.out 0).trans rfl, (blk_cell BK625.out 1).trans rfl, (blk_cell BK626.out 0).trans rfl, (blk_cell BK626.out 1).trans rfl⟩ fun hHeld => nT (N := some 29) ?_
        clear hK K
        refine oT (i := 7) (N := some 32) (bb 56 1023) HT_ fun K hK => ?_
        refine gS Try.func39 #[.agg #[.bool a0_0, .slice A0_1 l0_1.length c0_1], .agg #[.bool a1_0, .slice A1_1 l1_1.length c1_1]] ?_
        with_reducible refine (big_Mul.calls kj3 a0_0 _ _ l0_1 a1_0 _ _ l1_1 t640 t641 _ ?side1 ?side2 ?side3 ?side4 A44.out).mono ?_
        (case side1 => exact tc (Kd.C_below HR0_1.out HB.out))
        (case side2 => exact HC0_1.out)
        (case side3 => exact tc (Kd.C_below HR1_1.out HB.out))
        (case side4 => exact HC1_1.out)
        rintro e w71 ⟨v642, rfl, ho0, hb⟩
        refine ⟨_, rfl, ?_⟩
        have HO643 := Aside0.mk (Kd.R_lower (Kd.R_new' (Kd.R_new' ho0 (Kd.R_lt (tq HO635))) (Kd.R_lt (tq HO639))) (below_size (tb HB)))
        replace HO635 := re HO635 (Kd.R_base ho0) hb
        replace HO639 := re HO639 (Kd.R_base ho0) hb
        replace BK624 := kb BK624 hb
        replace BK625 := kb BK625 hb
        replace BK626 := kb BK626 hb
        replace HB := bs HB hb
        (try clear hb); (try clear hb2); (try clear hk); (try clear hi); (try clear ho0)
        refine hK.out _ _ ⟨(blk_cell BK624.out 0).trans rfl, (blk_cell BK624.out 1).trans rfl, (blk_cell BK625.out 0).trans rfl, (blk_cell BK625.out 1).trans rfl, (blk_cell BK626.out 0).trans rfl, (blk_cell BK626.out 1).trans rfl⟩ fun hHeld => nT (N := some 32) ?_
        clear hK K
        refine oT (i := 10) (N := some 35) (bb 56 2047) HT_ fun K hK => ?_
        refine gS Try.func39 #[.agg #[.bool a0_0, .slice A0_1 l0_1.length c0_1], .agg #[.bool a2_0, .slice A2_1 l2_1.length c2_1]] ?_
        with_reducible refine (big_Mul.calls kj3 a0_0 _ _ l0_1 a2_0 _ _ l2_1 t644 t645 _ ?side1 ?side2 ?side3 ?side4 A45.out).mono ?_
        (case side1 => exact tc (Kd.C_below HR0_1.out HB.out))
        (case side2 => exact HC0_1.out)
        (case side3 => exact tc (Kd.C_below HR2_1.out HB.out))
        (case side4 => exact HC2_1.out)
        rintro e w72 ⟨v646, rfl, ho0, hb⟩
        refine ⟨_, rfl, ?_⟩
        have HO647 := Aside0.mk (Kd.R_lower (Kd.R_new' (Kd.R_new' (Kd.R_new' ho0 (Kd.R_lt (tq HO635))) (Kd.R_lt (tq HO639))) (Kd.R_lt (tq HO643))) (below_size (tb HB)))
        replace HO635 := re HO635 (Kd.R_base ho0) hb
        replace HO639 := re HO639 (Kd.R_base ho0) hb
        replace HO643 := re HO643 (Kd.R_base ho0) hb
        replace BK624 := kb BK624 hb
        replace BK625 := kb BK625 hb
        replace BK626 := kb BK626 hb
        replace HB := bs HB hb
        (try clear hb); (try clear hb2); (try clear hk); (try clear hi); (try clear ho0)
        obtain ⟨Ao73, co73, eo73⟩ := Kd.R_slice HO643.out
        (first | subst eo73 | (injection eo73 with f1_ f2_ f3_; have f4_ := f1_.symm; have f5_ := f3_.symm; clear f1_ f2_ f3_; subst f4_; subst f5_))
        obtain ⟨Ao74, co74, eo74⟩ := Kd.R_slice HO647.out
        (first | subst eo74 | (injection eo74 with f1_ f2_ f3_; have f4_ := f1_.symm; have f5_ := f3_.symm; clear f1_ f2_ f3_; subst f4_; subst f5_))
        refine hK.out _ _ ⟨(blk_cell BK624.out 0).trans rfl, (blk_cell BK624.out 1).trans rfl, (blk_cell BK625.out 0).trans rfl, (blk_cell BK625.out 1).trans rfl, (blk_cell BK626.out 0).trans rfl, (blk_cell BK626.out 1).trans rfl⟩ fun hHeld => nT (N := some 35) ?_
        clear hK K
        refine oT (i := 11) (N := some 36) (bb 56 4095) HT_ fun K hK => ?_
        refine gS Try.func20 #[.agg #[.bool t640, .slice Ao73 t641.length co73], .agg #[.bool t644, .slice Ao74 t645.length co74]] ?_
        with_reducible refine (big_Add.calls kj3 t640 _ _ t641 t644 _ _ t645 t648 t649 _ ?side1 ?side2 ?side3 ?side4 A46.out).mono ?_
        (case side1 => exact tc (Kd.R_reads' HO643.out).2.2)
        (case side2 => exact (Kd.R_reads' HO643.out).2.1)
        (case side3 => exact tc (Kd.R_reads' HO647.out).2.2)
        (case side4 => exact (Kd.R_reads' HO647.out).2.1)
        rintro e w75 ⟨v650, rfl, ho0, hb⟩
        refine ⟨_, rfl, ?_⟩
        have HO651 := Aside0.mk (Kd.R_lower (Kd.R_new' (Kd.R_new' (Kd.R_new' (Kd.R_new' ho0 (Kd.R_lt (tq HO635))) (Kd.R_lt (tq HO639))) (Kd.R_lt (tq HO643))) (Kd.R_lt (tq HO647))) (below_size (tb HB)))
        replace HO635 := re HO635 (Kd.R_base ho0) hb
        replace HO639 := re HO639 (Kd.R_base ho0) hb
        replace HO643 := re HO643 (Kd.R_base ho0) hb
        replace HO647 := re HO647 (Kd.R_base ho0) hb
        replace BK624 := kb BK624 hb
        replace BK625 := kb BK625 hb
        replace BK626 := kb BK626 hb
        replace HB := bs HB hb
        (try clear hb); (try clear hb2); (try clear hk); (try clear hi); (try clear ho0)
        obtain ⟨Ao76, co76, eo76⟩ := Kd.R_slice HO639.out
        (first | subst eo76 | (injection eo76 with f1_ f2_ f3_; have f4_ := f1_.symm; have f5_ := f3_.symm; clear f1_ f2_ f3_; subst f4_; subst f5_))
        obtain ⟨Ao77, co77, eo77⟩ := Kd.R_slice HO651.out
        (first | subst eo77 | (injection eo77 with f1_ f2_ f3_; have f4_ := f1_.symm; have f5_ := f3_.symm; clear f1_ f2_ f3_; subst f4_; subst f5_))
        refine hK.out _ _ ⟨(blk_cell BK624.out 0).trans rfl, (blk_cell BK624.out 1).trans rfl, (blk_cell BK625.out 0).trans rfl, (blk_cell BK625.out 1).trans rfl, (blk_cell BK626.out 0).trans rfl, (blk_cell BK626.out 1).trans rfl⟩ fun hHeld => nT (N := some 36) ?_
        clear hK K
        refine oT (i := 12) (N := some 37) (bb 56 8191) HT_ fun K hK => ?_
        refine gS Try.func24 #[.agg #[.bool t636, .slice Ao76 t637.length co76], .agg #[.bool t648, .slice Ao77 t649.length co77]] ?_
        with_reducible refine (big_Cmp.calls kj3 t636 _ _ t637 t648 _ _ t649 t652 _ ?side1 ?side2 ?side3 ?side4 A47.out).mono ?_
        (case side1 => exact tc (Kd.R_reads' HO639.out).2.2)
        (case side2 => exact (Kd.R_reads' HO639.out).2.1)
        (case side3 => exact tc (Kd.R_reads' HO651.out).2.2)
        (case side4 => exact (Kd.R_reads' HO651.out).2.1)
        rintro e w78 ⟨rfl, hb⟩
        refine ⟨_, rfl, ?_⟩
        replace HO635 := rb HO635 hb
        replace HO639 := rb HO639 hb
        replace HO643 := rb HO643 hb
        replace HO647 := rb HO647 hb
        replace HO651 := rb HO651 hb
        replace BK624 := kb BK624 hb
        replace BK625 := kb BK625 hb
        replace BK626 := kb BK626 hb
        replace HB := bs HB hb
        (try clear hb); (try clear hb2); (try clear hk); (try clear hi)
        refine hK.out _ _ ⟨(blk_cell BK624.out 0).trans rfl, (blk_cell BK624.out 1).trans rfl, (blk_cell BK625.out 0).trans rfl, (blk_cell BK625.out 1).trans rfl, (blk_cell BK626.out 0).trans rfl, (blk_cell BK626.out 1).trans rfl⟩ fun hHeld => nT (N := some 37) ?_
        clear hK K
        refine pT (i := 13) (N := some 38) (bb 56 16383) HT_ ?_
        refine pT (i := 14) (N := some 39) (bb 56 32767) HT_ ?_
        refine tW (i := 15) (N := some 40) (bb 56 65535) HT_ HW_ hHeld ?_
        refine tW (i := 16) (N := some 41) (bb 56 131071) HT_ HW_ hHeld ?_
        refine tW (i := 18) (N := some 43) (bb 56 393215) HT_ HW_ hHeld ?_
        refine tW (i := 20) (N := some 45) (bb 56 1441791) HT_ HW_ hHeld ?_
        refine oT (i := 17) (N := some 42) (bb 56 1572863) HT_ fun K hK => ?_
        refine gS Try.func20 #[.agg #[.bool a0_0, .slice A0_1 l0_1.length c0_1], .agg #[.bool a1_0, .slice A1_1 l1_1.length c1_1]] ?_
        with_reducible refine (big_Add.calls kj3 a0_0 _ _ l0_1 a1_0 _ _ l1_1 t653 t654 _ ?side1 ?side2 ?side3 ?side4 A49.out).mono ?_
        (case side1 => exact tc (Kd.C_below HR0_1.out HB.out))
        (case side2 => exact HC0_1.out)
        (case side3 => exact tc (Kd.C_below HR1_1.out HB.out))
        (case side4 => exact HC1_1.out)
        rintro e w79 ⟨v655, rfl, ho0, hb⟩
        refine ⟨_, rfl, ?_⟩
        have HO656 := Aside0.mk (Kd.R_lower (Kd.R_new' (Kd.R_new' (Kd.R_new' (Kd.R_new' (Kd.R_new' ho0 (Kd.R_lt (tq HO635))) (Kd.R_lt (tq HO639))) (Kd.R_lt (tq HO643))) (Kd.R_lt (tq HO647))) (Kd.R_lt (tq HO651))) (below_size (tb HB)))
        replace HO635 := re HO635 (Kd.R_base ho0) hb
        replace HO639 := re HO639 (Kd.R_base ho0) hb
        replace HO643 := re HO643 (Kd.R_base ho0) hb
        replace HO647 := re HO647 (Kd.R_base ho0) hb
        replace HO651 := re HO651 (Kd.R_base ho0) hb
        replace BK624 := kb BK624 hb
        replace BK625 := kb BK625 hb
        replace BK626 := kb BK626 hb
        replace HB := bs HB hb
        (try clear hb); (try clear hb2); (try clear hk); (try clear hi); (try clear ho0)
        obtain ⟨Ao80, co80, eo80⟩ := Kd.R_slice HO656.out
        (first | subst eo80 | (injection eo80 with f1_ f2_ f3_; have f4_ := f1_.symm; have f5_ := f3_.symm; clear f1_ f2_ f3_; subst f4_; subst f5_))
        refine hK.out _ _ ⟨(blk_cell BK624.out 0).trans rfl, (blk_cell BK624.out 1).trans rfl, (blk_cell BK625.out 0).trans rfl, (blk_cell BK625.out 1).trans rfl, (blk_cell BK626.out 0).trans rfl, (blk_cell BK626.out 1).trans rfl⟩ fun hHeld => nT (N := some 42) ?_
        clear hK K
        refine oT (i := 19) (N := some 44) (bb 56 2097151) HT_ fun K hK => ?_
        refine gS Try.func22 #[.agg #[.bool t653, .slice Ao80 t654.length co80], .agg #[.bool a1_0, .slice A1_1 l1_1.length c1_1]] ?_
        with_reducible refine (big_Sub.calls kj3 t653 _ _ t654 a1_0 _ _ l1_1 t657 t658 _ ?side1 ?side2 ?side3 ?side4 A50.out).mono ?_
        (case side1 => exact tc (Kd.R_reads' HO656.out).2.2)
        (case side2 => exact (Kd.R_reads' HO656.out).2.1)
        (case side3 => exact tc (Kd.C_below HR1_1.out HB.out))
        (case side4 => exact HC1_1.out)
        rintro e w81 ⟨v659, rfl, ho0, hb⟩
        refine ⟨_, rfl, ?_⟩
        have HO660 := Aside0.mk (Kd.R_lower (Kd.R_new' (Kd.R_new' (Kd.R_new' (Kd.R_new' (Kd.R_new' (Kd.R_new' ho0 (Kd.R_lt (tq HO635))) (Kd.R_lt (tq HO639))) (Kd.R_lt (tq HO643))) (Kd.R_lt (tq HO647))) (Kd.R_lt (tq HO651))) (Kd.R_lt (tq HO656))) (below_size (tb HB)))
        replace HO635 := re HO635 (Kd.R_base ho0) hb
        replace HO639 := re HO639 (Kd.R_base ho0) hb
        replace HO643 := re HO643 (Kd.R_base ho0) hb
        replace HO647 := re HO647 (Kd.R_base ho0) hb
        replace HO651 := re HO651 (Kd.R_base ho0) hb
        replace HO656 := re HO656 (Kd.R_base ho0) hb
        replace BK624 := kb BK624 hb
        replace BK625 := kb BK625 hb
        replace BK626 := kb BK626 hb
        replace HB := bs HB hb
        (try clear hb); (try clear hb2); (try clear hk); (try clear hi); (try clear ho0)
        obtain ⟨Ao82, co82, eo82⟩ := Kd.R_slice HO660.out
        (first | subst eo82 | (injection eo82 with f1_ f2_ f3_; have f4_ := f1_.symm; have f5_ := f3_.symm; clear f1_ f2_ f3_; subst f4_; subst f5_))
        refine hK.out _ _ ⟨(blk_cell BK624.out 0).trans rfl, (blk_cell BK624.out 1).trans rfl, (blk_cell BK625.out 0).trans rfl, (blk_cell BK625.out 1).trans rfl, (blk_cell BK626.out 0).trans rfl, (blk_cell BK626.out 1).trans rfl⟩ fun hHeld => nT (N := some 44) ?_
        clear hK K
        refine oT (i := 21) (N := some 46) (bb 56 4194303) HT_ fun K hK => ?_
        refine gS Try.func24 #[.agg #[.bool t657, .slice Ao82 t658.length co82], .agg #[.bool a0_0, .slice A0_1 l0_1.length c0_1]] ?_
        with_reducible refine (big_Cmp.calls kj3 t657 _ _ t658 a0_0 _ _ l0_1 t661 _ ?side1 ?side2 ?side3 ?side4 A51.out).mono ?_
        (case side1 => exact tc (Kd.R_reads' HO660.out).2.2)
        (case side2 => exact (Kd.R_reads' HO660.out).2.1)
        (case side3 => exact tc (Kd.C_below HR0_1.out HB.out))
        (case side4 => exact HC0_1.out)
        rintro e w83 ⟨rfl, hb⟩
        refine ⟨_, rfl, ?_⟩
        replace HO635 := rb HO635 hb
        replace HO639 := rb HO639 hb
        replace HO643 := rb HO643 hb
        replace HO647 := rb HO647 hb
        replace HO651 := rb HO651 hb
        replace HO656 := rb HO656 hb
        replace HO660 := rb HO660 hb
        replace BK624 := kb BK624 hb
        replace BK625 := kb BK625 hb
        replace BK626 := kb BK626 hb
        replace HB := bs HB hb
        (try clear hb); (try clear hb2); (try clear hk); (try clear hi)
        refine hK.out _ _ ⟨(blk_cell BK624.out 0).trans rfl, (blk_cell BK624.out 1).trans rfl, (blk_cell BK625.out 0).trans rfl, (blk_cell BK625.out 1).trans rfl, (blk_cell BK626.out 0).trans rfl, (blk_cell BK626.out 1).trans rfl⟩ fun hHeld => nT (N := some 46) ?_
        clear hK K
        refine pT (i := 22) (N := some 47) (bb 56 8388607) HT_ ?_
        refine pT (i := 23) (N := some 48) (bb 56 16777215) HT_ ?_
        refine pT (i := 24) (N := some 49) (bb 56 33554431) HT_ ?_
        refine tW (i := 25) (N := some 50) (bb 56 67108863) HT_ HW_ hHeld ?_
        refine tW (i := 27) (N := some 52) (bb 56 201326591) HT_ HW_ hHeld ?_
        refine tW (i := 29) (N := some 54) (bb 56 738197503) HT_ HW_ hHeld ?_
        refine tW (i := 30) (N := some 55) (bb 56 1811939327) HT_ HW_ hHeld ?_
        refine oT (i := 26) (N := some 51) (bb 56 1879048191) HT_ fun K hK => ?_
        refine gS Try.func28 #[.agg #[.bool a0_0, .slice A0_1 l0_1.length c0_1]] ?_
        with_reducible refine (big_Neg.calls kj3 a0_0 _ _ l0_1 t662 t663 _ ?side1 ?side2 A53.out).mono ?_
        (case side1 => exact tc (Kd.C_below HR0_1.out HB.out))
        (case side2 => exact HC0_1.out)
        rintro e w84 ⟨v664, rfl, ho0, hb⟩
        refine ⟨_, rfl, ?_⟩
        have HO665 := Aside0.mk (Kd.R_lower (Kd.R_new' (Kd.R_new' (Kd.R_new' (Kd.R_new' (Kd.R_new' (Kd.R_new' (Kd.R_new' ho0 (Kd.R_lt (tq HO635))) (Kd.R_lt (tq HO639))) (Kd.R_lt (tq HO643))) (Kd.R_lt (tq HO647))) (Kd.R_lt (tq HO651))) (Kd.R_lt (tq HO656))) (Kd.R_lt (tq HO660))) (below_size (tb HB)))
        replace HO635 := re HO635 (Kd.R_base ho0) hb
        replace HO639 := re HO639 (Kd.R_base ho0) hb
        replace HO643 := re HO643 (Kd.R_base ho0) hb
        replace HO647 := re HO647 (Kd.R_base ho0) hb
        replace HO651 := re HO651 (Kd.R_base ho0) hb
        replace HO656 := re HO656 (Kd.R_base ho0) hb
        replace HO660 := re HO660 (Kd.R_base ho0) hb
        replace BK624 := kb BK624 hb
        replace BK625 := kb BK625 hb
        replace BK626 := kb BK626 hb
        replace HB := bs HB hb
        (try clear hb); (try clear hb2); (try clear hk); (try clear hi); (try clear ho0)
        obtain ⟨Ao85, co85, eo85⟩ := Kd.R_slice HO665.out
        (first | subst eo85 | (injection eo85 with f1_ f2_ f3_; have f4_ := f1_.symm; have f5_ := f3_.symm; clear f1_ f2_ f3_; subst f4_; subst f5_))
        refine hK.out _ _ ⟨(blk_cell BK624.out 0).trans rfl, (blk_cell BK624.out 1).trans rfl, (blk_cell BK625.out 0).trans rfl, (blk_cell BK625.out 1).trans rfl, (blk_cell BK626.out 0).trans rfl, (blk_cell BK626.out 1).trans rfl⟩ fun hHeld => nT (N := some 51) ?_
        clear hK K
        refine oT (i := 28) (N := some 53) (bb 56 2147483647) HT_ fun K hK => ?_
        refine gS Try.func39 #[.agg #[.bool t662, .slice Ao85 t663.length co85], .agg #[.bool a1_0, .slice A1_1 l1_1.length c1_1]] ?_
        with_reducible refine (big_Mul.calls kj3 t662 _ _ t663 a1_0 _ _ l1_1 t666 t667 _ ?side1 ?side2 ?side3 ?side4 A54.out).mono ?_
        (case side1 => exact tc (Kd.R_reads' HO665.out).2.2)
        (case side2 => exact (Kd.R_reads' HO665.out).2.1)
        (case side3 => exact tc (Kd.C_below HR1_1.out HB.out))
        (case side4 => exact HC1_1.out)
        rintro e w86 ⟨v668, rfl, ho0, hb⟩
        refine ⟨_, rfl, ?_⟩
        have HO669 := Aside0.mk (Kd.R_lower (Kd.R_new' (Kd.R_new' (Kd.R_new' (Kd.R_new' (Kd.R_new' (Kd.R_new' (Kd.R_new' (Kd.R_new' ho0 (Kd.R_lt (tq HO635))) (Kd.R_lt (tq HO639))) (Kd.R_lt (tq HO643))) (Kd.R_lt (tq HO647))) (Kd.R_lt (tq HO651))) (Kd.R_lt (tq HO656))) (Kd.R_lt (tq HO660))) (Kd.R_lt (tq HO665))) (below_size (tb HB)))
        replace HO635 := re HO635 (Kd.R_base ho0) hb
        replace HO639 := re HO639 (Kd.R_base ho0) hb
        replace HO643 := re HO643 (Kd.R_base ho0) hb
        replace HO647 := re HO647 (Kd.R_base ho0) hb
        replace HO651 := re HO651 (Kd.R_base ho0) hb
        replace HO656 := re HO656 (Kd.R_base ho0) hb
        replace HO660 := re HO660 (Kd.R_base ho0) hb
        replace HO665 := re HO665 (Kd.R_base ho0) hb
        replace BK624 := kb BK624 hb
        replace BK625 := kb BK625 hb
        replace BK626 := kb BK626 hb
        replace HB := bs HB hb
        (try clear hb); (try clear hb2); (try clear hk); (try clear hi); (try clear ho0)
        refine hK.out _ _ ⟨(blk_cell BK624.out 0).trans rfl, (blk_cell BK624.out 1).trans rfl, (blk_cell BK625.out 0).trans rfl, (blk_cell BK625.out 1).trans rfl, (blk_cell BK626.out 0).trans rfl, (blk_cell BK626.out 1).trans rfl⟩ fun hHeld => nT (N := some 53) ?_
        clear hK K
        refine oT (i := 31) (N := some 56) (bb 56 4294967295) HT_ fun K hK => ?_
        refine gS Try.func39 #[.agg #[.bool a1_0, .slice A1_1 l1_1.length c1_1], .agg #[.bool a0_0, .slice A0_1 l0_1.length c0_1]] ?_
        with_reducible refine (big_Mul.calls kj3 a1_0 _ _ l1_1 a0_0 _ _ l0_1 t670 t671 _ ?side1 ?side2 ?side3 ?side4 A55.out).mono ?_
        (case side1 => exact tc (Kd.C_below HR1_1.out HB.out))
        (case side2 => exact HC1_1.out)
        (case side3 => exact tc (Kd.C_below HR0_1.out HB.out))
        (case side4 => exact HC0_1.out)
        rintro e w87 ⟨v672, rfl, ho0, hb⟩
        refine ⟨_, rfl, ?_⟩
        have HO673 := Aside0.mk (Kd.R_lower (Kd.R_new' (Kd.R_new' (Kd.R_new' (Kd.R_new' (Kd.R_new' (Kd.R_new' (Kd.R_new' (Kd.R_new' (Kd.R_new' ho0 (Kd.R_lt (tq HO635))) (Kd.R_lt (tq HO639))) (Kd.R_lt (tq HO643))) (Kd.R_lt (tq HO647))) (Kd.R_lt (tq HO651))) (Kd.R_lt (tq HO656))) (Kd.R_lt (tq HO660))) (Kd.R_lt (tq HO665))) (Kd.R_lt (tq HO669))) (below_size (tb HB)))
        replace HO635 := re HO635 (Kd.R_base ho0) hb
        replace HO639 := re HO639 (Kd.R_base ho0) hb
        replace HO643 := re HO643 (Kd.R_base ho0) hb
        replace HO647 := re HO647 (Kd.R_base ho0) hb
        replace HO651 := re HO651 (Kd.R_base ho0) hb
        replace HO656 := re HO656 (Kd.R_base ho0) hb
        replace HO660 := re HO660 (Kd.R_base ho0) hb
        replace HO665 := re HO665 (Kd.R_base ho0) hb
        replace HO669 := re HO669 (Kd.R_base ho0) hb
        replace BK624 := kb BK624 hb
        replace BK625 := kb BK625 hb
        replace BK626 := kb BK626 hb
        replace HB := bs HB hb
        (try clear hb); (try clear hb2); (try clear hk); (try clear hi); (try clear ho0)
        obtain ⟨Ao88, co88, eo88⟩ := Kd.R_slice HO673.out
        (first | subst eo88 | (injection eo88 with f1_ f2_ f3_; have f4_ := f1_.symm; have f5_ := f3_.symm; clear f1_ f2_ f3_; subst f4_; subst f5_))
        refine hK.out _ _ ⟨(blk_cell BK624.out 0).trans rfl, (blk_cell BK624.out 1).trans rfl, (blk_cell BK625.out 0).trans rfl, (blk_cell BK625.out 1).trans rfl, (blk_cell BK626.out 0).trans rfl, (blk_cell BK626.out 1).trans rfl⟩ fun hHeld => nT (N := some 56) ?_
        clear hK K
        refine oT (i := 32) (N := some 57) (bb 56 8589934591) HT_ fun K hK => ?_
        refine gS Try.func28 #[.agg #[.bool t670, .slice Ao88 t671.length co88]] ?_
        with_reducible refine (big_Neg.calls kj3 t670 _ _ t671 t674 t675 _ ?side1 ?side2 A56.out).mono ?_
        (case side1 => exact tc (Kd.R_reads' HO673.out).2.2)
        (case side2 => exact (Kd.R_reads' HO673.out).2.1)
        rintro e w89 ⟨v676, rfl, ho0, hb⟩
        refine ⟨_, rfl, ?_⟩
        have HO677 := Aside0.mk (Kd.R_lower (Kd.R_new' (Kd.R_new' (Kd.R_new' (Kd.R_new' (Kd.R_new' (Kd.R_new' (Kd.R_new' (Kd.R_new' (Kd.R_new' (Kd.R_new' ho0 (Kd.R_lt (tq HO635))) (Kd.R_lt (tq HO639))) (Kd.R_lt (tq HO643))) (Kd.R_lt (tq HO647))) (Kd.R_lt (tq HO651))) (Kd.R_lt (tq HO656))) (Kd.R_lt (tq HO660))) (Kd.R_lt (tq HO665))) (Kd.R_lt (tq HO669))) (Kd.R_lt (tq HO673))) (below_size (tb HB)))
        replace HO635 := re HO635 (Kd.R_base ho0) hb
        replace HO639 := re HO639 (Kd.R_base ho0) hb
        replace HO643 := re HO643 (Kd.R_base ho0) hb
        replace HO647 := re HO647 (Kd.R_base ho0) hb
        replace HO651 := re HO651 (Kd.R_base ho0) hb
        replace HO656 := re HO656 (Kd.R_base ho0) hb
        replace HO660 := re HO660 (Kd.R_base ho0) hb
        replace HO665 := re HO665 (Kd.R_base ho0) hb
        replace HO669 := re HO669 (Kd.R_base ho0) hb
        replace HO673 := re HO673 (Kd.R_base ho0) hb
        replace BK624 := kb BK624 hb
        replace BK625 := kb BK625 hb
        replace BK626 := kb BK626 hb
        replace HB := bs HB hb
        (try clear hb); (try clear hb2); (try clear hk); (try clear hi); (try clear ho0)
        obtain ⟨Ao90, co90, eo90⟩ := Kd.R_slice HO669.out
        (first | subst eo90 | (injection eo90 with f1_ f2_ f3_; have f4_ := f1_.symm; have f5_ := f3_.symm; clear f1_ f2_ f3_; subst f4_; subst f5_))
        obtain ⟨Ao91, co91, eo91⟩ := Kd.R_slice HO677.out
        (first | subst eo91 | (injection eo91 with f1_ f2_ f3_; have f4_ := f1_.symm; have f5_ := f3_.symm; clear f1_ f2_ f3_; subst f4_; subst f5_))
        refine hK.out _ _ ⟨(blk_cell BK624.out 0).trans rfl, (blk_cell BK624.out 1).trans rfl, (blk_cell BK625.out 0).trans rfl, (blk_cell BK625.out 1).trans rfl, (blk_cell BK626.out 0).trans rfl, (blk_cell BK626.out 1).trans rfl⟩ fun hHeld => nT (N := some 57) ?_
        clear hK K
        refine oT (i := 33) (N := some 58) (bb 56 17179869183) HT_ fun K hK => ?_
        refine gS Try.func24 #[.agg #[.bool t666, .slice Ao90 t667.length co90], .agg #[.bool t674, .slice Ao91 t675.length co91]] ?_
        with_reducible refine (big_Cmp.calls kj3 t666 _ _ t667 t674 _ _ t675 t678 _ ?side1 ?side2 ?side3 ?side4 A57.out).mono ?_
        (case side1 => exact tc (Kd.R_reads' HO669.out).2.2)
        (case side2 => exact (Kd.R_reads' HO669.out).2.1)
        (case side3 => exact tc (Kd.R_reads' HO677.out).2.2)
        (case side4 => exact (Kd.R_reads' HO677.out).2.1)
        rintro e w92 ⟨rfl, hb⟩
        refine ⟨_, rfl, ?_⟩
        replace HO635 := rb HO635 hb
        replace HO639 := rb HO639 hb
        replace HO643 := rb HO643 hb
        replace HO647 := rb HO647 hb
        replace HO651 := rb HO651 hb
        replace HO656 := rb HO656 hb
        replace HO660 := rb HO660 hb
        replace HO665 := rb HO665 hb
        replace HO669 := rb HO669 hb
        replace HO673 := rb HO673 hb
        replace HO677 := rb HO677 hb
        replace BK624 := kb BK624 hb
        replace BK625 := kb BK625 hb
        replace BK626 := kb BK626 hb
        replace HB := bs HB hb
        (try clear hb); (try clear hb2); (try clear hk); (try clear hi)
        refine hK.out _ _ ⟨(blk_cell BK624.out 0).trans rfl, (blk_cell BK624.out 1).trans rfl, (blk_cell BK625.out 0).trans rfl, (blk_cell BK625.out 1).trans rfl, (blk_cell BK626.out 0).trans rfl, (blk_cell BK626.out 1).trans rfl⟩ fun hHeld => nT (N := some 58) ?_
        clear hK K
        refine pT (i := 34) (N := some 59) (bb 56 34359738367) HT_ ?_
        refine pT (i := 35) (N := some 60) (bb 56 68719476735) HT_ ?_
        refine pT (i := 36) (N := some 61) (bb 56 137438953471) HT_ ?_
        refine tW (i := 37) (N := some 62) (bb 56 274877906943) HT_ HW_ hHeld ?_
        refine tW (i := 38) (N := some 63) (bb 56 549755813887) HT_ HW_ hHeld ?_
        refine oT (i := 39) (N := some 64) (bb 56 1099511627775) HT_ fun K hK => ?_
        refine gS Try.func22 #[.agg #[.bool a0_0, .slice A0_1 l0_1.length c0_1], .agg #[.bool a0_0, .slice A0_1 l0_1.length c0_1]] ?_
        with_reducible refine (big_Sub.calls kj3 a0_0 _ _ l0_1 a0_0 _ _ l0_1 t679 t680 _ ?side1 ?side2 ?side3 ?side4 A59.out).mono ?_
        (case side1 => exact tc (Kd.C_below HR0_1.out HB.out))
        (case side2 => exact HC0_1.out)
        (case side3 => exact tc (Kd.C_below HR0_1.out HB.out))
        (case side4 => exact HC0_1.out)
        rintro e w93 ⟨v681, rfl, ho0, hb⟩
        refine ⟨_, rfl, ?_⟩
        have HO682 := Aside0.mk (Kd.R_lower (Kd.R_new' (Kd.R_new' (Kd.R_new' (Kd.R_new' (Kd.R_new' (Kd.R_new' (Kd.R_new' (Kd.R_new' (Kd.R_new' (Kd.R_new' (Kd.R_new' ho0 (Kd.R_lt (tq HO635))) (Kd.R_lt (tq HO639))) (Kd.R_lt (tq HO643))) (Kd.R_lt (tq HO647))) (Kd.R_lt (tq HO651))) (Kd.R_lt (tq HO656))) (Kd.R_lt (tq HO660))) (Kd.R_lt (tq HO665))) (Kd.R_lt (tq HO669))) (Kd.R_lt (tq HO673))) (Kd.R_lt (tq HO677))) (below_size (tb HB)))
        replace HO635 := re HO635 (Kd.R_base ho0) hb
        replace HO639 := re HO639 (Kd.R_base ho0) hb
        replace HO643 := re HO643 (Kd.R_base ho0) hb
        replace HO647 := re HO647 (Kd.R_base ho0) hb
        replace HO651 := re HO651 (Kd.R_base ho0) hb
        replace HO656 := re HO656 (Kd.R_base ho0) hb
        replace HO660 := re HO660 (Kd.R_base ho0) hb
        replace HO665 := re HO665 (Kd.R_base ho0) hb
        replace HO669 := re HO669 (Kd.R_base ho0) hb
        replace HO673 := re HO673 (Kd.R_base ho0) hb
        replace HO677 := re HO677 (Kd.R_base ho0) hb
        replace BK624 := kb BK624 hb
        replace BK625 := kb BK625 hb
        replace BK626 := kb BK626 hb
        replace HB := bs HB hb
        (try clear hb); (try clear hb2); (try clear hk); (try clear hi); (try clear ho0)
        obtain ⟨Ao94, co94, eo94⟩ := Kd.R_slice HO682.out
        (first | subst eo94 | (injection eo94 with f1_ f2_ f3_; have f4_ := f1_.symm; have f5_ := f3_.symm; clear f1_ f2_ f3_; subst f4_; subst f5_))
        refine hK.out _ _ ⟨(blk_cell BK624.out 0).trans rfl, (blk_cell BK624.out 1).trans rfl, (blk_cell BK625.out 0).trans rfl, (blk_cell BK625.out 1).trans rfl, (blk_cell BK626.out 0).trans rfl, (blk_cell BK626.out 1).trans rfl⟩ fun hHeld => nT (N := some 64) ?_
        clear hK K
        refine oT (i := 40) (N := some 65) (bb 56 2199023255551) HT_ fun K hK => ?_
        refine gS Try.func26 #[.agg #[.bool t679, .slice Ao94 t680.length co94]] ?_
        with_reducible refine (big_Sign.calls kj3 t679 _ _ t680 t683 _ ?side1 ?side2 A60.out).mono ?_
        (case side1 => exact tc (Kd.R_reads' HO682.out).2.2)
        (case side2 => exact (Kd.R_reads' HO682.out).2.1)
        rintro e w95 ⟨rfl, hb⟩
        refine ⟨_, rfl, ?_⟩
        replace HO635 := rb HO635 hb
        replace HO639 := rb HO639 hb
        replace HO643 := rb HO643 hb
        replace HO647 := rb HO647 hb
        replace HO651 := rb HO651 hb
        replace HO656 := rb HO656 hb
        replace HO660 := rb HO660 hb
        replace HO665 := rb HO665 hb
        replace HO669 := rb HO669 hb
        replace HO673 := rb HO673 hb
        replace HO677 := rb HO677 hb
        replace HO682 := rb HO682 hb
        replace BK624 := kb BK624 hb
        replace BK625 := kb BK625 hb
        replace BK626 := kb BK626 hb
        replace HB := bs HB hb
        (try clear hb); (try clear hb2); (try clear hk); (try clear hi)
        refine hK.out _ _ ⟨(blk_cell BK624.out 0).trans rfl, (blk_cell BK624.out 1).trans rfl, (blk_cell BK625.out 0).trans rfl, (blk_cell BK625.out 1).trans rfl, (blk_cell BK626.out 0).trans rfl, (blk_cell BK626.out 1).trans rfl⟩ fun hHeld => nT (N := some 65) ?_
        clear hK K
        refine pT (i := 41) (N := some 66) (bb 56 4398046511103) HT_ ?_
        refine pT (i := 42) (N := some 67) (bb 56 8796093022207) HT_ ?_
        refine pT (i := 43) (N := some 68) (bb 56 17592186044415) HT_ ?_
        refine tW (i := 44) (N := some 69) (bb 56 35184372088831) HT_ HW_ hHeld ?_
        refine tW (i := 45) (N := some 70) (bb 56 70368744177663) HT_ HW_ hHeld ?_
        refine tW (i := 47) (N := some 72) (bb 56 211106232532991) HT_ HW_ hHeld ?_
        refine tW (i := 48) (N := some 73) (bb 56 492581209243647) HT_ HW_ hHeld ?_
        refine oT (i := 46) (N := some 71) (bb 56 562949953421311) HT_ fun K hK => ?_
        refine gS Try.func39 #[.agg #[.bool a0_0, .slice A0_1 l0_1.length c0_1], .agg #[.bool a0_0, .slice A0_1 l0_1.length c0_1]] ?_
        with_reducible refine (big_Mul.calls kj3 a0_0 _ _ l0_1 a0_0 _ _ l0_1 t684 t685 _ ?side1 ?side2 ?side3 ?side4 A62.out).mono ?_
        (case side1 => exact tc (Kd.C_below HR0_1.out HB.out))
        (case side2 => exact HC0_1.out)
        (case side3 => exact tc (Kd.C_below HR0_1.out HB.out))
        (case side4 => exact HC0_1.out)
        rintro e w96 ⟨v686, rfl, ho0, hb⟩
        refine ⟨_, rfl, ?_⟩
        have HO687 := Aside0.mk (Kd.R_lower (Kd.R_new' (Kd.R_new' (Kd.R_new' (Kd.R_new' (Kd.R_new' (Kd.R_new' (Kd.R_new' (Kd.R_new' (Kd.R_new' (Kd.R_new' (Kd.R_new' (Kd.R_new' ho0 (Kd.R_lt (tq HO635))) (Kd.R_lt (tq HO639))) (Kd.R_lt (tq HO643))) (Kd.R_lt (tq HO647))) (Kd.R_lt (tq HO651))) (Kd.R_lt (tq HO656))) (Kd.R_lt (tq HO660))) (Kd.R_lt (tq HO665))) (Kd.R_lt (tq HO669))) (Kd.R_lt (tq HO673))) (Kd.R_lt (tq HO677))) (Kd.R_lt (tq HO682))) (below_size (tb HB)))
        replace HO635 := re HO635 (Kd.R_base ho0) hb
        replace HO639 := re HO639 (Kd.R_base ho0) hb
        replace HO643 := re HO643 (Kd.R_base ho0) hb
        replace HO647 := re HO647 (Kd.R_base ho0) hb
        replace HO651 := re HO651 (Kd.R_base ho0) hb
        replace HO656 := re HO656 (Kd.R_base ho0) hb
        replace HO660 := re HO660 (Kd.R_base ho0) hb
        replace HO665 := re HO665 (Kd.R_base ho0) hb
        replace HO669 := re HO669 (Kd.R_base ho0) hb
        replace HO673 := re HO673 (Kd.R_base ho0) hb
        replace HO677 := re HO677 (Kd.R_base ho0) hb
        replace HO682 := re HO682 (Kd.R_base ho0) hb
        replace BK624 := kb BK624 hb
        replace BK625 := kb BK625 hb
        replace BK626 := kb BK626 hb
        replace HB := bs HB hb
        (try clear hb); (try clear hb2); (try clear hk); (try clear hi); (try clear ho0)
        refine hK.out _ _ ⟨(blk_cell BK624.out 0).trans rfl, (blk_cell BK624.out 1).trans rfl, (blk_cell BK625.out 0).trans rfl, (blk_cell BK625.out 1).trans rfl, (blk_cell BK626.out 0).trans rfl, (blk_cell BK626.out 1).trans rfl⟩ fun hHeld => nT (N := some 71) ?_
        clear hK K
        refine oT (i := 49) (N := some 74) (bb 56 1125899906842623) HT_ fun K hK => ?_
        refine gS Try.func39 #[.agg #[.bool a1_0, .slice A1_1 l1_1.length c1_1], .agg #[.bool a1_0, .slice A1_1 l1_1.length c1_1]] ?_
        with_reducible refine (big_Mul.calls kj3 a1_0 _ _ l1_1 a1_0 _ _ l1_1 t688 t689 _ ?side1 ?side2 ?side3 ?side4 A63.out).mono ?_
        (case side1 => exact tc (Kd.C_below HR1_1.out HB.out))
        (case side2 => exact HC1_1.out)
        (case side3 => exact tc (Kd.C_below HR1_1.out HB.out))
        (case side4 => exact HC1_1.out)
        rintro e w97 ⟨v690, rfl, ho0, hb⟩
        refine ⟨_, rfl, ?_⟩
        have HO691 := Aside0.mk (Kd.R_lower (Kd.R_new' (Kd.R_new' (Kd.R_new' (Kd.R_new' (Kd.R_new' (Kd.R_new' (Kd.R_new' (Kd.R_new' (Kd.R_new' (Kd.R_new' (Kd.R_new' (Kd.R_new' (Kd.R_new' ho0 (Kd.R_lt (tq HO635))) (Kd.R_lt (tq HO639))) (Kd.R_lt (tq HO643))) (Kd.R_lt (tq HO647))) (Kd.R_lt (tq HO651))) (Kd.R_lt (tq HO656))) (Kd.R_lt (tq HO660))) (Kd.R_lt (tq HO665))) (Kd.R_lt (tq HO669))) (Kd.R_lt (tq HO673))) (Kd.R_lt (tq HO677))) (Kd.R_lt (tq HO682))) (Kd.R_lt (tq HO687))) (below_size (tb HB)))
        replace HO635 := re HO635 (Kd.R_base ho0) hb
        replace HO639 := re HO639 (Kd.R_base ho0) hb
        replace HO643 := re HO643 (Kd.R_base ho0) hb
        replace HO647 := re HO647 (Kd.R_base ho0) hb
        replace HO651 := re HO651 (Kd.R_base ho0) hb
        replace HO656 := re HO656 (Kd.R_base ho0) hb
        replace HO660 := re HO660 (Kd.R_base ho0) hb
        replace HO665 := re HO665 (Kd.R_base ho0) hb
        replace HO669 := re HO669 (Kd.R_base ho0) hb
        replace HO673 := re HO673 (Kd.R_base ho0) hb
        replace HO677 := re HO677 (Kd.R_base ho0) hb
        replace HO682 := re HO682 (Kd.R_base ho0) hb
        replace HO687 := re HO687 (Kd.R_base ho0) hb
        replace BK624 := kb BK624 hb
        replace BK625 := kb BK625 hb
        replace BK626 := kb BK626 hb
        replace HB := bs HB hb
        (try clear hb); (try clear hb2); (try clear hk); (try clear hi); (try clear ho0)
        obtain ⟨Ao98, co98, eo98⟩ := Kd.R_slice HO687.out
        (first | subst eo98 | (injection eo98 with f1_ f2_ f3_; have f4_ := f1_.symm; have f5_ := f3_.symm; clear f1_ f2_ f3_; subst f4_; subst f5_))
        obtain ⟨Ao99, co99, eo99⟩ := Kd.R_slice HO691.out
        (first | subst eo99 | (injection eo99 with f1_ f2_ f3_; have f4_ := f1_.symm; have f5_ := f3_.symm; clear f1_ f2_ f3_; subst f4_; subst f5_))
        refine hK.out _ _ ⟨(blk_cell BK624.out 0).trans rfl, (blk_cell BK624.out 1).trans rfl, (blk_cell BK625.out 0).trans rfl, (blk_cell BK625.out 1).trans rfl, (blk_cell BK626.out 0).trans rfl, (blk_cell BK626.out 1).trans rfl⟩ fun hHeld => nT (N := some 74) ?_
        clear hK K
        refine oT (i := 50) (N := some 75) (bb 56 2251799813685247) HT_ fun K hK => ?_
        refine gS Try.func20 #[.agg #[.bool t684, .slice Ao98 t685.length co98], .agg #[.bool t688, .slice Ao99 t689.length co99]] ?_
        with_reducible refine (big_Add.calls kj3 t684 _ _ t685 t688 _ _ t689 t692 t693 _ ?side1 ?side2 ?side3 ?side4 A64.out).mono ?_
        (case side1 => exact tc (Kd.R_reads' HO687.out).2.2)
        (case side2 => exact (Kd.R_reads' HO687.out).2.1)
        (case side3 => exact tc (Kd.R_reads' HO691.out).2.2)
        (case side4 => exact (Kd.R_reads' HO691.out).2.1)
        rintro e w100 ⟨v694, rfl, ho0, hb⟩
        refine ⟨_, rfl, ?_⟩
        have HO695 := Aside0.mk (Kd.R_lower (Kd.R_new' (Kd.R_new' (Kd.R_new' (Kd.R_new' (Kd.R_new' (Kd.R_new' (Kd.R_new' (Kd.R_new' (Kd.R_new' (Kd.R_new' (Kd.R_new' (Kd.R_new' (Kd.R_new' (Kd.R_new' ho0 (Kd.R_lt (tq HO635))) (Kd.R_lt (tq HO639))) (Kd.R_lt (tq HO643))) (Kd.R_lt (tq HO647))) (Kd.R_lt (tq HO651))) (Kd.R_lt (tq HO656))) (Kd.R_lt (tq HO660))) (Kd.R_lt (tq HO665))) (Kd.R_lt (tq HO669))) (Kd.R_lt (tq HO673))) (Kd.R_lt (tq HO677))) (Kd.R_lt (tq HO682))) (Kd.R_lt (tq HO687))) (Kd.R_lt (tq HO691))) (below_size (tb HB)))
        replace HO635 := re HO635 (Kd.R_base ho0) hb
        replace HO639 := re HO639 (Kd.R_base ho0) hb
        replace HO643 := re HO643 (Kd.R_base ho0) hb
        replace HO647 := re HO647 (Kd.R_base ho0) hb
        replace HO651 := re HO651 (Kd.R_base ho0) hb
        replace HO656 := re HO656 (Kd.R_base ho0) hb
        replace HO660 := re HO660 (Kd.R_base ho0) hb
        replace HO665 := re HO665 (Kd.R_base ho0) hb
        replace HO669 := re HO669 (Kd.R_base ho0) hb
        replace HO673 := re HO673 (Kd.R_base ho0) hb
        replace HO677 := re HO677 (Kd.R_base ho0) hb
        replace HO682 := re HO682 (Kd.R_base ho0) hb
        replace HO687 := re HO687 (Kd.R_base ho0) hb
        replace HO691 := re HO691 (Kd.R_base ho0) hb
        replace BK624 := kb BK624 hb
        replace BK625 := kb BK625 hb
        replace BK626 := kb BK626 hb
        replace HB := bs HB hb
        (try clear hb); (try clear hb2); (try clear hk); (try clear hi); (try clear ho0)
        refine hK.out _ _ ⟨(blk_cell BK624.out 0).trans rfl, (blk_cell BK624.out 1).trans rfl, (blk_cell BK625.out 0).trans rfl, (blk_cell BK625.out 1).trans rfl, (blk_cell BK626.out 0).trans rfl, (blk_cell BK626.out 1).trans rfl⟩ fun hHeld => nT (N := some 75) ?_
        clear hK K
        refine oT (i := 51) (N := some 76) (bb 56 4503599627370495) HT_ fun K hK => ?_
        refine gS Try.func40 #[.int .i64 0] ?_
        with_reducible refine (big_Of.calls kj3 0 t696 t697 _ A65.out).mono ?_
        rintro e w101 ⟨v698, rfl, ho0, hb⟩
        refine ⟨_, rfl, ?_⟩
        have HO699 := Aside0.mk (Kd.R_lower (Kd.R_new' (Kd.R_new' (Kd.R_new' (Kd.R_new' (Kd.R_new' (Kd.R_new' (Kd.R_new' (Kd.R_new' (Kd.R_new' (Kd.R_new' (Kd.R_new' (Kd.R_new' (Kd.R_new' (Kd.R_new' (Kd.R_new' ho0 (Kd.R_lt (tq HO635))) (Kd.R_lt (tq HO639))) (Kd.R_lt (tq HO643))) (Kd.R_lt (tq HO647))) (Kd.R_lt (tq HO651))) (Kd.R_lt (tq HO656))) (Kd.R_lt (tq HO660))) (Kd.R_lt (tq HO665))) (Kd.R_lt (tq HO669))) (Kd.R_lt (tq HO673))) (Kd.R_lt (tq HO677))) (Kd.R_lt (tq HO682))) (Kd.R_lt (tq HO687))) (Kd.R_lt (tq HO691))) (Kd.R_lt (tq HO695))) (below_size (tb HB)))
        replace HO695 := re HO695 (Kd.R_base ho0) hb
        replace BK624 := kb BK624 hb
        replace BK625 := kb BK625 hb
        replace BK626 := kb BK626 hb
        replace HB := bs HB hb
        (try clear hb); (try clear hb2); (try clear hk); (try clear hi); (try clear ho0)
        obtain ⟨Ao102, co102, eo102⟩ := Kd.R_slice HO695.out
        (first | subst eo102 | (injection eo102 with f1_ f2_ f3_; have f4_ := f1_.symm; have f5_ := f3_.symm; clear f1_ f2_ f3_; subst f4_; subst f5_))
        obtain ⟨Ao103, co103, eo103⟩ := Kd.R_slice HO699.out
        (first | subst eo103 | (injection eo103 with f1_ f2_ f3_; have f4_ := f1_.symm; have f5_ := f3_.symm; clear f1_ f2_ f3_; subst f4_; subst f5_))
        refine hK.out _ _ ⟨(blk_cell BK624.out 0).trans rfl, (blk_cell BK624.out 1).trans rfl, (blk_cell BK625.out 0).trans rfl, (blk_cell BK625.out 1).trans rfl, (blk_cell BK626.out 0).trans rfl, (blk_cell BK626.out 1).trans rfl⟩ fun hHeld => nT (N := some 76) ?_
        clear hK K
        refine oT (i := 52) (N := some 77) (bb 56 9007199254740991) HT_ fun K hK => ?_
        refine gS Try.func24 #[.agg #[.bool t692, .slice Ao102 t693.length co102], .agg #[.bool t696, .slice Ao103 t697.length co103]] ?_
        with_reducible refine (big_Cmp.calls kj3 t692 _ _ t693 t696 _ _ t697 t700 _ ?side1 ?side2 ?side3 ?side4 A66.out).mono ?_
        (case side1 => exact tc (Kd.R_reads' HO695.out).2.2)
        (case side2 => exact (Kd.R_reads' HO695.out).2.1)
        (case side3 => exact tc (Kd.R_reads' HO699.out).2.2)
        (case side4 => exact (Kd.R_reads' HO699.out).2.1)
        rintro e w104 ⟨rfl, hb⟩
        refine ⟨_, rfl, ?_⟩
        replace BK624 := kb BK624 hb
        replace BK625 := kb BK625 hb
        replace BK626 := kb BK626 hb
        replace HB := bs HB hb
        (try clear hb); (try clear hb2); (try clear hk); (try clear hi)
        refine hK.out _ _ ⟨(blk_cell BK624.out 0).trans rfl, (blk_cell BK624.out 1).trans rfl, (blk_cell BK625.out 0).trans rfl, (blk_cell BK625.out 1).trans rfl, (blk_cell BK626.out 0).trans rfl, (blk_cell BK626.out 1).trans rfl⟩ fun hHeld => nT (N := some 77) ?_
        clear hK K
        refine pT (i := 53) (N := some 78) (bb 56 18014398509481983) HT_ ?_
        refine pT (i := 54) (N := some 79) (bb 56 36028797018963967) HT_ ?_
        refine pT (i := 55) (N := some 6) (bb 56 72057594037927935) HT_ ?_
        refine done_ (done_of HT_.out (by kernel_rfl)) ?_
        try go_wp2
        go_ret
        exact ⟨by first | rfl | (simp [errW_none, errW_some] <;> rfl) | (simp [*, errW_none, errW_some] <;> rfl), tb HB⟩
       ·rw [if_neg c61] at H
        exact absurd H (by simp)
      ·rw [if_neg c58] at H
       exact absurd H (by simp)
     ·rw [if_neg c52] at H
      exact absurd H (by simp)
    ·rw [if_neg c48] at H
     exact absurd H (by simp)

/-- THE ONE PURE STATEMENT of whetstonelaw02_BigRings: yours. -/
def whetstonelaw02_BigRings.Pure : Prop := ∀ (a0_0 : Bool) (l0_1 : List Int) (a1_0 : Bool) (l1_1 : List Int) (a2_0 : Bool) (l2_1 : List Int), l0_1.length ≤ maxLen → (∀ x ∈ l0_1, (Lit.int .u32 x).wf = true) → l1_1.length ≤ maxLen → (∀ x ∈ l1_1, (Lit.int .u32 x).wf = true) → l2_1.length ≤ maxLen → (∀ x ∈ l2_1, (Lit.int .u32 x).wf = true) → ∃ k, whetstonelaw02_BigRings.f k a0_0 l0_1 a1_0 l1_1 a2_0 l2_1 = some true
theorem whetstonelaw02_BigRings.walk (P : whetstonelaw02_BigRings.Pure) (a0_0 : Bool) (A0_1 : Option Addr) (n0_1 c0_1 : Nat) (z0_1 : List Int) (a1_0 : Bool) (A1_1 : Option Addr) (n1_1 c1_1 : Nat) (z1_1 : List Int) (a2_0 : Bool) (A2_1 : Option Addr) (n2_1 c2_1 : Nat) (z2_1 : List Int) (w : World) (w0_1 : (A0_1 = none ∧ n0_1 = 0 ∧ c0_1 = 0 ∧ z0_1 = []) ∨ ∃ x, A0_1 = some x ∧ n0_1 ≤ c0_1 ∧ c0_1 ≤ maxLen ∧ z0_1.length = c0_1 ∧ (∀ i, i < z0_1.length → w.cell? (x.add i) = some (.int .u32 (z0_1.getD i 0))) ∧ ∀ n ∈ z0_1, (Lit.int .u32 n).wf = true) (w1_1 : (A1_1 = none ∧ n1_1 = 0 ∧ c1_1 = 0 ∧ z1_1 = []) ∨ ∃ x, A1_1 = some x ∧ n1_1 ≤ c1_1 ∧ c1_1 ≤ maxLen ∧ z1_1.length = c1_1 ∧ (∀ i, i < z1_1.length → w.cell? (x.add i) = some (.int .u32 (z1_1.getD i 0))) ∧ ∀ n ∈ z1_1, (Lit.int .u32 n).wf = true) (w2_1 : (A2_1 = none ∧ n2_1 = 0 ∧ c2_1 = 0 ∧ z2_1 = []) ∨ ∃ x, A2_1 = some x ∧ n2_1 ≤ c2_1 ∧ c2_1 ≤ maxLen ∧ z2_1.length = c2_1 ∧ (∀ i, i < z2_1.length → w.cell? (x.add i) = some (.int .u32 (z2_1.getD i 0))) ∧ ∀ n ∈ z2_1, (Lit.int .u32 n).wf = true) :
  Calls Try.prog 6 #[.agg #[.bool a0_0, .slice A0_1 n0_1 c0_1], .agg #[.bool a1_0, .slice A1_1 n1_1 c1_1], .agg #[.bool a2_0, .slice A2_1 n2_1 c2_1]] w fun e w' => e = .returned (.bool true) ∧ Below w.heap.size w w' := by
 obtain ⟨l0_1, rfl, hr0_1, hm0_1, hw0_1, hc0_1⟩ := ReadsInt.ofRowC w0_1
 obtain ⟨l1_1, rfl, hr1_1, hm1_1, hw1_1, hc1_1⟩ := ReadsInt.ofRowC w1_1
 obtain ⟨l2_1, rfl, hr2_1, hm2_1, hw2_1, hc2_1⟩ := ReadsInt.ofRowC w2_1
 obtain ⟨k, h⟩ := P a0_0 l0_1 a1_0 l1_1 a2_0 l2_1 hm0_1 hw0_1 hm1_1 hw1_1 hm2_1 hw2_1
 refine (whetstonelaw02_BigRings.calls k a0_0 _ _ l0_1 a1_0 _ _ l1_1 a2_0 _ _ l2_1 true w (Kd.C_of_reads (d := (0 : Int)) (h1 := fun _ => rfl) hr0_1) hc0_1 (Kd.C_of_reads (d := (0 : Int)) (h1 := fun _ => rfl) hr1_1) hc1_1 (Kd.C_of_reads (d := (0 : Int)) (h1 := fun _ => rfl) hr2_1) hc2_1 h).mono ?_
 rintro e w' ⟨rfl, hd⟩
 exact ⟨rfl, hd⟩

end Go.Proofs.Ytjpnaapimnoamaa.QBigRings
