-- written by wip/wprint, a program of this session
import Derived.Test.YtjpnaapimnoamaaQBigChoicesx0
import Derived.Test.YtjpnaapimnoamaaQBigChoicesx1
import Derived.Test.YtjpnaapimnoamaaQBigChoicesx9
import Derived.Test.YtjpnaapimnoamaaQBigChoicesx14
import Derived.Test.YtjpnaapimnoamaaQBigChoicesx15
import Derived.Test.YtjpnaapimnoamaaQBigChoicesx16
namespace Go.Proofs.Ytjpnaapimnoamaa.QBigChoices
open Go.RowKit Go.Proofs.YtjpnaapimnoamaaW.PrintWords Go.Proofs.YtjpnaapimnoamaaW.PrintLast Go.Proofs.YtjpnaapimnoamaaW.PrintMore
open Go.Proofs.YtjpnaapimnoamaaW.PrintWords.Kd renaming R_alloc → qa, R_drewN → qn, R_drew → qd
open Go.Proofs.YtjpnaapimnoamaaW.PrintWords renaming below_alloc → ba, pw_below_drewN → bn, below_drew1 → bd
attribute [local go_sem] max2_int min2_int max_two min_two max_three min_three max_four min_four   -- for this text's walks alone
set_option linter.unusedVariables false
set_option linter.unusedSimpArgs false

/-! ### whetstonelaw02_BigChoices: function 10 -/
mutual
def whetstonelaw02_BigChoices.j0 : Nat → Bool → Bool → List Int → Bool → List Int → Option (Bool)
 | 0, _, _, _, _, _ => none
 | k + 1, x14, x696000, x696001, x697000, x697001 => if x14 = true then ((whetstonelaw02_signed.f k).bind fun t699 => (some t699)) else ((whetstonelaw02_of.f k x696000 x696001).bind fun bt700 => ((whetstonelaw02_of.f k x697000 x697001).bind fun bt704 => ((whetstoneref02_Cmp.f k bt700.1 bt700.2 bt704.1 bt704.2).bind fun t710 => (if t710 > 0 then (whetstonelaw02_BigChoices.j1 k x696000 x696001 x697000 x697001 bt704.1 bt704.2 bt700.1 bt700.2) else (whetstonelaw02_BigChoices.j1 k x696000 x696001 x697000 x697001 bt700.1 bt700.2 bt704.1 bt704.2)))))
def whetstonelaw02_BigChoices.j1 : Nat → Bool → List Int → Bool → List Int → Bool → List Int → Bool → List Int → Option (Bool)
 | 0, _, _, _, _, _, _, _, _ => none
 | k + 1, x696000, x696001, x697000, x697001, x709000, x709001, x710000, x710001 => (whetstonelaw02_signed.f k).bind fun t711 => (if t711 = true then ((big_Min.f k x696000 x696001 x697000 x697001).bind fun bt712 => ((whetstonelaw02_same.f k bt712.1 bt712.2 x709000 x709001).bind fun t716 => (if t716 = true then ((big_Max.f k x696000 x696001 x697000 x697001).bind fun bt717 => ((whetstonelaw02_same.f k bt717.1 bt717.2 x710000 x710001).bind fun t721 => (some t721))) else (none)))) else (none))
end
def whetstonelaw02_BigChoices.f (k : Nat) (a0_0 : Bool) (l0_1 : List Int) (a1_0 : Bool) (l1_1 : List Int) : Option (Bool) := (whetstonelaw02_small.f a0_0 l0_1).bind fun t697 => (if t697 = true then ((whetstonelaw02_small.f a1_0 l1_1).bind fun t698 => (whetstonelaw02_BigChoices.j0 k (!t698) a0_0 l0_1 a1_0 l1_1)) else (whetstonelaw02_BigChoices.j0 k true a0_0 l0_1 a1_0 l1_1))
theorem whetstonelaw02_BigChoices.mono_l : ∀ k, (∀ y0 y1 y2 y3 y4, LeO (whetstonelaw02_BigChoices.j0 k y0 y1 y2 y3 y4) (whetstonelaw02_BigChoices.j0 (k + 1) y0 y1 y2 y3 y4)) ∧ (∀ y0 y1 y2 y3 y4 y5 y6 y7, LeO (whetstonelaw02_BigChoices.j1 k y0 y1 y2 y3 y4 y5 y6 y7) (whetstonelaw02_BigChoices.j1 (k + 1) y0 y1 y2 y3 y4 y5 y6 y7))
 | 0 => ⟨fun _ _ _ _ _ r h => by simp [whetstonelaw02_BigChoices.j0] at h, fun _ _ _ _ _ _ _ _ r h => by simp [whetstonelaw02_BigChoices.j1] at h⟩
 | k + 1 => by
  obtain ⟨ih0, ih1⟩ := whetstonelaw02_BigChoices.mono_l k
  refine ⟨?_, ?_⟩
  ·intro y0 y1 y2 y3 y4
   unfold whetstonelaw02_BigChoices.j0
   repeat' with_reducible first | exact ih0 _ _ _ _ _ | exact ih1 _ _ _ _ _ _ _ _ | exact big_Max.mono _ _ _ _ _ | exact big_Min.mono _ _ _ _ _ | exact whetstonelaw02_of.mono _ _ _ | exact whetstonelaw02_same.mono _ _ _ _ _ | exact whetstonelaw02_signed.mono _ | exact whetstoneref02_Cmp.mono _ _ _ _ _ | exact LeO.refl _ | exact LeO.none _ | refine LeO.ite ?_ ?_ | refine LeO.bind ?_ (fun _ => ?_)
  ·intro y0 y1 y2 y3 y4 y5 y6 y7
   unfold whetstonelaw02_BigChoices.j1
   repeat' with_reducible first | exact ih0 _ _ _ _ _ | exact ih1 _ _ _ _ _ _ _ _ | exact big_Max.mono _ _ _ _ _ | exact big_Min.mono _ _ _ _ _ | exact whetstonelaw02_of.mono _ _ _ | exact whetstonelaw02_same.mono _ _ _ _ _ | exact whetstonelaw02_signed.mono _ | exact whetstoneref02_Cmp.mono _ _ _ _ _ | exact LeO.refl _ | exact LeO.none _ | refine LeO.ite ?_ ?_ | refine LeO.bind ?_ (fun _ => ?_)
theorem whetstonelaw02_BigChoices.mono : ∀ a0 a1 a2 a3 k, LeO (whetstonelaw02_BigChoices.f k a0 a1 a2 a3) (whetstonelaw02_BigChoices.f (k + 1) a0 a1 a2 a3) := by
 intro a0 a1 a2 a3 k
 obtain ⟨ih0, ih1⟩ := whetstonelaw02_BigChoices.mono_l k
 unfold whetstonelaw02_BigChoices.f
 repeat' with_reducible first | exact ih0 _ _ _ _ _ | exact ih1 _ _ _ _ _ _ _ _ | exact big_Max.mono _ _ _ _ _ | exact big_Min.mono _ _ _ _ _ | exact whetstonelaw02_of.mono _ _ _ | exact whetstonelaw02_same.mono _ _ _ _ _ | exact whetstonelaw02_signed.mono _ | exact whetstoneref02_Cmp.mono _ _ _ _ _ | exact LeO.refl _ | exact LeO.none _ | refine LeO.ite ?_ ?_ | refine LeO.bind ?_ (fun _ => ?_)
def whetstonelaw02_BigChoices.T3 : Bool × List (List Nat × List Nat) := (true, [([], []), ([0], [0]), ([], []), ([2, 1], [2]), ([], []), ([], []), ([4, 1, 3, 0, 1, 4, 5], [1, 4]), ([5, 3, 6, 0, 1, 2, 3, 4, 5, 6], [3, 5])])
def whetstonelaw02_BigChoices.B3 : List Nat := [0, 1, 0, 7, 0, 0, 63, 127]
theorem whetstonelaw02_BigChoices.tab3 : rtab .any (opsOf Try.f10 3) = whetstonelaw02_BigChoices.T3 := by kernel_rfl
theorem whetstonelaw02_BigChoices.bits3 : waitsOk whetstonelaw02_BigChoices.T3.2 whetstonelaw02_BigChoices.B3 = true := by kernel_rfl
def whetstonelaw02_BigChoices.T6 : Bool × List (List Nat × List Nat) := (true, [([], []), ([0, 0], [0]), ([1], [1]), ([1], [1]), ([2, 3, 1, 1], [1, 2, 3]), ([1], [1]), ([4, 5, 4, 1], [1, 4, 5]), ([1, 6], [1, 6]), ([7, 6], [7]), ([8], [8]), ([8], [8]), ([9, 10, 8, 8], [8, 9, 10]), ([8], [8]), ([11, 12, 11, 8], [8, 11, 12]), ([8, 13], [8, 13]), ([14, 13, 0, 1, 2, 3, 4, 5, 6, 7, 8, 9, 10, 11, 12, 13, 14], [14])])
def whetstonelaw02_BigChoices.B6 : List Nat := [0, 1, 3, 3, 15, 3, 63, 127, 255, 511, 511, 2047, 511, 8191, 16383, 32767]
theorem whetstonelaw02_BigChoices.tab6 : rtab .any (opsOf Try.f10 6) = whetstonelaw02_BigChoices.T6 := by kernel_rfl
theorem whetstonelaw02_BigChoices.bits6 : waitsOk whetstonelaw02_BigChoices.T6.2 whetstonelaw02_BigChoices.B6 = true := by kernel_rfl
set_option maxHeartbeats 8000000 in
set_option maxRecDepth 100000 in
theorem whetstonelaw02_BigChoices.calls (k : Nat) (a0_0 : Bool) (A0_1 : Option Addr) (c0_1 : Nat) (l0_1 : List Int) (a1_0 : Bool) (A1_1 : Option Addr) (c1_1 : Nat) (l1_1 : List Int) (r : Bool) (w : World) (hr0_1 : Kd.C (Kd.int .u32) w A0_1 l0_1.length l0_1) (hc0_1 : l0_1.length ≤ c0_1) (hr1_1 : Kd.C (Kd.int .u32) w A1_1 l1_1.length l1_1) (hc1_1 : l1_1.length ≤ c1_1) (h : whetstonelaw02_BigChoices.f k a0_0 l0_1 a1_0 l1_1 = some r) :
  Calls Try.prog 10 #[.agg #[.bool a0_0, .slice A0_1 l0_1.length c0_1], .agg #[.bool a1_0, .slice A1_1 l1_1.length c1_1]] w fun e w' => e = .returned (.bool r) ∧ Below w.heap.size w w' := by
 have hu24 := Try.underlying24
 have hu32 := Try.underlying32
 have HR0_1 := Aside0.mk hr0_1
 have HC0_1 := Aside0.mk hc0_1
 clear hr0_1 hc0_1
 have HR1_1 := Aside0.mk hr1_1
 have HC1_1 := Aside0.mk hc1_1
 clear hr1_1 hc1_1
 have HB := Aside0.mk (Below.refl w.heap.size w)
 have H : ((whetstonelaw02_small.f a0_0 l0_1).bind fun t697 => (if t697 = true then ((whetstonelaw02_small.f a1_0 l1_1).bind fun t698 => (whetstonelaw02_BigChoices.j0 k (!t698) a0_0 l0_1 a1_0 l1_1)) else (whetstonelaw02_BigChoices.j0 k true a0_0 l0_1 a1_0 l1_1))) = some r := h
 clear h
 have HC3 := Aside0.mk H
 clear H
 go_enter Try.func10, Try.ntmps10
 go_upto_region 1 with (first | ((with_reducible refine gate_dst (N := 2) rfl ?_); refine bx (N := 2) #[.bool a0_0, .slice A0_1 l0_1.length c0_1] 24 ?_; intro gb695 hg w4 hbox hb; have BK695 := Aside0.mk (hbox); have GW695 := bz hg HB; have GE695 := bz hg HB; replace HB := bs HB hb; clear hb hbox hg) | ((with_reducible refine gate_dst (N := 3) rfl ?_); refine bx (N := 3) #[.bool a1_0, .slice A1_1 l1_1.length c1_1] 24 ?_; intro gb696 hg w5 hbox hb; have BK696 := Aside0.mk (hbox); have GW696 := bz hg HB; have GE696 := bz hg HB; replace HB := bs HB hb; have NB695_696 := nl hg BK695; have NB696_695 := ng hg BK695; replace BK695 := kb BK695 hb; clear hb hbox hg))
 (try simp only [Act.put, List.setIfInBounds_toArray, List.set_cons_zero, List.set_cons_succ])
 go_cut [14] from 1 to 0 (fun v14 wc => ∃ (kq : Nat) (x14_2 : Bool), v14 = .bool x14_2 ∧ Aside0 (whetstonelaw02_BigChoices.j0 kq x14_2 a0_0 l0_1 a1_0 l1_1 = some r) ∧ Aside0 (kq ≤ k) ∧ Aside0 (wc.heap[gb695]? = some (.cells #[.bool a0_0, (.slice A0_1 l0_1.length c0_1)] 24 (0, 0))) ∧ Aside0 (wc.heap[gb696]? = some (.cells #[.bool a1_0, (.slice A1_1 l1_1.length c1_1)] 24 (0, 0))) ∧ Aside0 (Below w.heap.size w wc))
 case first =>
  have H := HC3.out
  clear HC3
  replace H := bi H
  obtain ⟨t697, A60, H⟩ := H
  have A6 := Aside0.mk A60
  clear A60
  by_cases c7 : t697 = true
  ·subst c7
   have H1 : ((whetstonelaw02_small.f a1_0 l1_1).bind fun t698 => (whetstonelaw02_BigChoices.j0 k (!t698) a0_0 l0_1 a1_0 l1_1)) = some r := by rw [if_pos rfl] at H; exact H
   clear H
   have H := H1
   clear H1
   replace H := bi H
   obtain ⟨t698, A80, H⟩ := H
   have A8 := Aside0.mk A80
   clear A80
   have H' := Aside0.mk H
   clear H
   have hnb9 := NB695_696.out
   have hnc9 := NB696_695.out
   have hcz10_0 := bc BK695 0 (.bool a0_0)
   have hcz10_1 := bc BK695 1 (.slice A0_1 l0_1.length c0_1)
   have hfz10_0 := blk_frozen BK695.out 0
   have hfz10_1 := blk_frozen BK695.out 1
   go_wp2_with (first | ((with_reducible refine gate_callee (f := 12) rfl ?_); refine gL (N := some 8) Try.func12 #[.agg #[.bool a0_0, .slice A0_1 l0_1.length c0_1]] ?_; (with_reducible refine (whetstonelaw02_small.calls a0_0 _ _ l0_1 true _ ?side1 ?side2 A6.out).mono ?_); (case side1 => exact tc (Kd.C_below HR0_1.out HB.out)); (case side2 => exact HC0_1.out); rintro e w11 ⟨rfl, hb⟩; refine ⟨_, rfl, ?_⟩; replace BK695 := kb BK695 hb; replace BK696 := kb BK696 hb; replace HB := bs HB hb; (try clear hb); (try clear hb2); (try clear hk); (try clear hi); have hcz12_0 := bc BK696 0 (.bool a1_0); have hcz12_1 := bc BK696 1 (.slice A1_1 l1_1.length c1_1); have hfz12_0 := blk_frozen BK696.out 0; have hfz12_1 := blk_frozen BK696.out 1) | (go_at_call 12; (with_reducible refine (whetstonelaw02_small.calls a1_0 _ _ l1_1 t698 _ ?side1 ?side2 A8.out).mono ?_); (case side1 => exact tc (Kd.C_below HR1_1.out HB.out)); (case side2 => exact HC1_1.out); rintro e w13 ⟨rfl, hb⟩; replace BK695 := kb BK695 hb; replace BK696 := kb BK696 hb; replace HB := bs HB hb; (try clear hb); (try clear hb2); (try clear hk); (try clear hi)))
   go_meet
   case rel => exact ⟨_, (!t698), (by first | rfl | (simp; done) | (simp [*]; done)), H', ⟨by first | omega | exact Nat.le_refl _⟩, ⟨tk BK695⟩, ⟨tk BK696⟩, ⟨tb HB⟩⟩
  ·replace c7 := Bool.eq_false_iff.mpr c7
   subst c7
   have H1 : (whetstonelaw02_BigChoices.j0 k true a0_0 l0_1 a1_0 l1_1) = some r := by rw [if_neg (show ¬ (false = true) by decide)] at H; exact H
   clear H
   have H := H1
   clear H1
   have H' := Aside0.mk H
   clear H
   have hnb14 := NB695_696.out
   have hnc14 := NB696_695.out
   have hcz15_0 := bc BK695 0 (.bool a0_0)
   have hcz15_1 := bc BK695 1 (.slice A0_1 l0_1.length c0_1)
   have hfz15_0 := blk_frozen BK695.out 0
   have hfz15_1 := blk_frozen BK695.out 1
   go_wp2_with (first | ((with_reducible refine gate_callee (f := 12) rfl ?_); refine gL (N := some 8) Try.func12 #[.agg #[.bool a0_0, .slice A0_1 l0_1.length c0_1]] ?_; (with_reducible refine (whetstonelaw02_small.calls a0_0 _ _ l0_1 false _ ?side1 ?side2 A6.out).mono ?_); (case side1 => exact tc (Kd.C_below HR0_1.out HB.out)); (case side2 => exact HC0_1.out); rintro e w16 ⟨rfl, hb⟩; refine ⟨_, rfl, ?_⟩; replace BK695 := kb BK695 hb; replace BK696 := kb BK696 hb; replace HB := bs HB hb; (try clear hb); (try clear hb2); (try clear hk); (try clear hi)))
   go_meet
   case rel => exact ⟨_, (true), (by first | rfl | (simp; done) | (simp [*]; done)), H', ⟨by first | omega | exact Nat.le_refl _⟩, ⟨tk BK695⟩, ⟨tk BK696⟩, ⟨tb HB⟩⟩
 case rest =>
  clear HC3
  (try clear c1); (try clear p2); (try clear c7); (try clear c9); (try clear c10); (try clear c12); (try clear c14); (try clear hcz10_0); (try clear hcz10_1); (try clear hcz12_0); (try clear hcz12_1); (try clear hcz15_0); (try clear hcz15_1); (try clear hfz10_0); (try clear hfz10_1); (try clear hfz12_0); (try clear hfz12_1); (try clear hfz15_0); (try clear hfz15_1)
  obtain ⟨kq, x14_2, rfl, HA, HJ2, BK695, BK696, HB⟩ := hcut
  cases kq with
  | zero => exact absurd HA.out (by simp [whetstonelaw02_BigChoices.j0])
  | succ kj2 =>
   have H := HA.out
   clear HA
   simp only [whetstonelaw02_BigChoices.j0] at H
   by_cases c17 : x14_2 = true
   ·subst c17
    have H1 : ((whetstonelaw02_signed.f kj2).bind fun t699 => (some t699)) = some r := by rw [if_pos rfl] at H; exact H
    clear H
    have H := H1
    clear H1
    replace H := bi H
    obtain ⟨t699, A180, H⟩ := H
    have A18 := Aside0.mk A180
    clear A180
    obtain rfl := Option.some.inj H
    go_wp2_with (first | ((with_reducible refine gate_callee (f := 13) rfl ?_); refine gL (N := some 15) Try.func13 #[] ?_; (with_reducible refine (whetstonelaw02_signed.calls kj2  t699 _ A18.out).mono ?_); rintro e w19 ⟨rfl, hb⟩; refine ⟨_, rfl, ?_⟩; replace HB := bs HB hb; (try clear hb); (try clear hb2); (try clear hk); (try clear hi)))
    go_ret
    exact ⟨by first | rfl | (simp [errW_none, errW_some] <;> rfl) | (simp [*, errW_none, errW_some] <;> rfl), tb HB⟩
   ·replace c17 := Bool.eq_false_iff.mpr c17
    subst c17
    have H1 : ((whetstonelaw02_of.f kj2 a0_0 l0_1).bind fun bt700 => ((whetstonelaw02_of.f kj2 a1_0 l1_1).bind fun bt704 => ((whetstoneref02_Cmp.f kj2 bt700.1 bt700.2 bt704.1 bt704.2).bind fun t710 => (if t710 > 0 then (whetstonelaw02_BigChoices.j1 kj2 a0_0 l0_1 a1_0 l1_1 bt704.1 bt704.2 bt700.1 bt700.2) else (whetstonelaw02_BigChoices.j1 kj2 a0_0 l0_1 a1_0 l1_1 bt700.1 bt700.2 bt704.1 bt704.2))))) = some r := by rw [if_neg (show ¬ (false = true) by decide)] at H; exact H
    clear H
    have H := H1
    clear H1
    replace H := bi H
    obtain ⟨⟨t700, t701⟩, A200, H⟩ := H
    try dsimp only at H
    have A20 := Aside0.mk A200
    clear A200
    replace H := bi H
    obtain ⟨⟨t704, t705⟩, A210, H⟩ := H
    try dsimp only at H
    have A21 := Aside0.mk A210
    clear A210
    replace H := bi H
    obtain ⟨t710, A220, H⟩ := H
    have A22 := Aside0.mk A220
    clear A220
    have HC23 := Aside0.mk H
    clear H
    try go_wp2
    replace BK695 := Aside0.mk (blk_drew BK695.out)
    replace BK696 := Aside0.mk (blk_drew BK696.out)
    replace HB := Aside0.mk (below_drew1 HB.out)
    refine start_ (n := 8) (S := fun w' => w'.cell? ⟨gb695, 0, none⟩ = some (.bool a0_0) ∧ w'.cell? ⟨gb695, 1, none⟩ = some (.slice A0_1 l0_1.length c0_1) ∧ w'.cell? ⟨gb696, 0, none⟩ = some (.bool a1_0) ∧ w'.cell? ⟨gb696, 1, none⟩ = some (.slice A1_1 l1_1.length c1_1)) (ds := []) #[false, false, false, false, false, false, false, false] (by kernel_rfl) rfl rfl ⟨(blk_cell BK695.out 0).trans rfl, (blk_cell BK695.out 1).trans rfl, (blk_cell BK696.out 0).trans rfl, (blk_cell BK696.out 1).trans rfl⟩ (fun hHeld => ?_); refine with_tabW whetstonelaw02_BigChoices.tab3 whetstonelaw02_BigChoices.bits3 (fun HT_ HW_ => ?_)
    generalize wc.drew = w24 at BK695 BK696 HB hHeld ⊢
    refine tW (i := 0) (N := some 16) (bb 8 1) HT_ HW_ hHeld ?_
    refine tW (i := 2) (N := some 18) (bb 8 5) HT_ HW_ hHeld ?_
    refine join_ (σ := Value × Value × Nat × Nat) 2 #[true, true, true, true, true, true, false, false] (fun s_ => [(17, .agg #[.bool t700, s_.1]), (19, .agg #[.bool t704, s_.2.1]), (5, .pointer (some ⟨s_.2.2.1, 0, none⟩)), (6, .pointer (some ⟨s_.2.2.2, 0, none⟩))]) (fun s_ w' => (w'.cell? ⟨gb695, 0, none⟩ = some (.bool a0_0) ∧ w'.cell? ⟨gb695, 1, none⟩ = some (.slice A0_1 l0_1.length c0_1) ∧ w'.cell? ⟨gb696, 0, none⟩ = some (.bool a1_0) ∧ w'.cell? ⟨gb696, 1, none⟩ = some (.slice A1_1 l1_1.length c1_1)) ∧ (Kd.R (Kd.int .i64) 3 w' w.heap.size (fun k_ => some k_ ≠ (s_.2.1 : Value).ownBlock) s_.1 t701) ∧ (Kd.R (Kd.int .i64) 3 w' w.heap.size (fun k_ => some k_ ≠ (s_.1 : Value).ownBlock) s_.2.1 t705) ∧ (w'.heap[gb695]? = some (.cells #[.bool a0_0, .slice A0_1 l0_1.length c0_1] 24 (0, 0))) ∧ (w'.heap[gb696]? = some (.cells #[.bool a1_0, .slice A1_1 l1_1.length c1_1] 24 (0, 0))) ∧ (w'.heap[s_.2.2.1]? = some (.cells #[.bool false, .slice none 0 0] 32 (0, 0))) ∧ (w'.heap[s_.2.2.2]? = some (.cells #[.bool false, .slice none 0 0] 32 (0, 0))) ∧ (w.heap.size ≤ s_.2.2.1) ∧ (w.heap.size ≤ s_.2.2.1) ∧ (gb695 ≠ s_.2.2.1) ∧ (s_.2.2.1 ≠ gb695) ∧ (gb696 ≠ s_.2.2.1) ∧ (s_.2.2.1 ≠ gb696) ∧ (s_.2.2.2 ≠ s_.2.2.1) ∧ (s_.2.2.1 ≠ s_.2.2.2) ∧ (w.heap.size ≤ s_.2.2.2) ∧ (w.heap.size ≤ s_.2.2.2) ∧ (gb695 ≠ s_.2.2.2) ∧ (s_.2.2.2 ≠ gb695) ∧ (gb696 ≠ s_.2.2.2) ∧ (s_.2.2.2 ≠ gb696) ∧ (Below w.heap.size w w')) ?_ ?_
    rotate_left
    ·intro hJ1_3_4_5
     refine join_ (σ := Value × Value × Nat) 3 #[true, true, true, true, true, false, false, false] (fun s_ => [(17, .agg #[.bool t700, s_.1]), (19, .agg #[.bool t704, s_.2.1]), (5, .pointer (some ⟨s_.2.2, 0, none⟩))]) (fun s_ w' => (w'.cell? ⟨gb695, 0, none⟩ = some (.bool a0_0) ∧ w'.cell? ⟨gb695, 1, none⟩ = some (.slice A0_1 l0_1.length c0_1) ∧ w'.cell? ⟨gb696, 0, none⟩ = some (.bool a1_0) ∧ w'.cell? ⟨gb696, 1, none⟩ = some (.slice A1_1 l1_1.length c1_1)) ∧ (Kd.R (Kd.int .i64) 3 w' w.heap.size (fun k_ => some k_ ≠ (s_.2.1 : Value).ownBlock) s_.1 t701) ∧ (Kd.R (Kd.int .i64) 3 w' w.heap.size (fun k_ => some k_ ≠ (s_.1 : Value).ownBlock) s_.2.1 t705) ∧ (w'.heap[gb695]? = some (.cells #[.bool a0_0, .slice A0_1 l0_1.length c0_1] 24 (0, 0))) ∧ (w'.heap[gb696]? = some (.cells #[.bool a1_0, .slice A1_1 l1_1.length c1_1] 24 (0, 0))) ∧ (w'.heap[s_.2.2]? = some (.cells #[.bool false, .slice none 0 0] 32 (0, 0))) ∧ (w.heap.size ≤ s_.2.2) ∧ (w.heap.size ≤ s_.2.2) ∧ (gb695 ≠ s_.2.2) ∧ (s_.2.2 ≠ gb695) ∧ (gb696 ≠ s_.2.2) ∧ (s_.2.2 ≠ gb696) ∧ (Below w.heap.size w w')) ?_ ?_
     rotate_left
     ·intro hJ1_3_4
      refine join_ (σ := Value × Value × Nat) 3 #[true, true, true, true, false, true, false, false] (fun s_ => [(17, .agg #[.bool t700, s_.1]), (19, .agg #[.bool t704, s_.2.1]), (6, .pointer (some ⟨s_.2.2, 0, none⟩))]) (fun s_ w' => (w'.cell? ⟨gb695, 0, none⟩ = some (.bool a0_0) ∧ w'.cell? ⟨gb695, 1, none⟩ = some (.slice A0_1 l0_1.length c0_1) ∧ w'.cell? ⟨gb696, 0, none⟩ = some (.bool a1_0) ∧ w'.cell? ⟨gb696, 1, none⟩ = some (.slice A1_1 l1_1.length c1_1)) ∧ (Kd.R (Kd.int .i64) 3 w' w.heap.size (fun k_ => some k_ ≠ (s_.2.1 : Value).ownBlock) s_.1 t701) ∧ (Kd.R (Kd.int .i64) 3 w' w.heap.size (fun k_ => some k_ ≠ (s_.1 : Value).ownBlock) s_.2.1 t705) ∧ (w'.heap[gb695]? = some (.cells #[.bool a0_0, .slice A0_1 l0_1.length c0_1] 24 (0, 0))) ∧ (w'.heap[gb696]? = some (.cells #[.bool a1_0, .slice A1_1 l1_1.length c1_1] 24 (0, 0))) ∧ (w'.heap[s_.2.2]? = some (.cells #[.bool false, .slice none 0 0] 32 (0, 0))) ∧ (w.heap.size ≤ s_.2.2) ∧ (w.heap.size ≤ s_.2.2) ∧ (gb695 ≠ s_.2.2) ∧ (s_.2.2 ≠ gb695) ∧ (gb696 ≠ s_.2.2) ∧ (s_.2.2 ≠ gb696) ∧ (Below w.heap.size w w')) ?_ ?_
      rotate_left
      ·intro hJ1_3_5
       refine join_ (σ := Value × Nat × Nat) 3 #[true, true, true, false, true, true, false, false] (fun s_ => [(17, .agg #[.bool t700, s_.1]), (5, .pointer (some ⟨s_.2.1, 0, none⟩)), (6, .pointer (some ⟨s_.2.2, 0, none⟩))]) (fun s_ w' => (w'.cell? ⟨gb695, 0, none⟩ = some (.bool a0_0) ∧ w'.cell? ⟨gb695, 1, none⟩ = some (.slice A0_1 l0_1.length c0_1) ∧ w'.cell? ⟨gb696, 0, none⟩ = some (.bool a1_0) ∧ w'.cell? ⟨gb696, 1, none⟩ = some (.slice A1_1 l1_1.length c1_1)) ∧ (Kd.R (Kd.int .i64) 3 w' w.heap.size (fun _ => True) s_.1 t701) ∧ (w'.heap[gb695]? = some (.cells #[.bool a0_0, .slice A0_1 l0_1.length c0_1] 24 (0, 0))) ∧ (w'.heap[gb696]? = some (.cells #[.bool a1_0, .slice A1_1 l1_1.length c1_1] 24 (0, 0))) ∧ (w'.heap[s_.2.1]? = some (.cells #[.bool false, .slice none 0 0] 32 (0, 0))) ∧ (w'.heap[s_.2.2]? = some (.cells #[.bool false, .slice none 0 0] 32 (0, 0))) ∧ (w.heap.size ≤ s_.2.1) ∧ (w.heap.size ≤ s_.2.1) ∧ (gb695 ≠ s_.2.1) ∧ (s_.2.1 ≠ gb695) ∧ (gb696 ≠ s_.2.1) ∧ (s_.2.1 ≠ gb696) ∧ (s_.2.2 ≠ s_.2.1) ∧ (s_.2.1 ≠ s_.2.2) ∧ (w.heap.size ≤ s_.2.2) ∧ (w.heap.size ≤ s_.2.2) ∧ (gb695 ≠ s_.2.2) ∧ (s_.2.2 ≠ gb695) ∧ (gb696 ≠ s_.2.2) ∧ (s_.2.2 ≠ gb696) ∧ (Below w.heap.size w w')) ?_ ?_
       rotate_left
       ·intro hJ1_4_5
        refine join_ (σ := Value × Value) 4 #[true, true, true, true, false, false, false, false] (fun s_ => [(17, .agg #[.bool t700, s_.1]), (19, .agg #[.bool t704, s_.2])]) (fun s_ w' => (w'.cell? ⟨gb695, 0, none⟩ = some (.bool a0_0) ∧ w'.cell? ⟨gb695, 1, none⟩ = some (.slice A0_1 l0_1.length c0_1) ∧ w'.cell? ⟨gb696, 0, none⟩ = some (.bool a1_0) ∧ w'.cell? ⟨gb696, 1, none⟩ = some (.slice A1_1 l1_1.length c1_1)) ∧ (Kd.R (Kd.int .i64) 3 w' w.heap.size (fun k_ => some k_ ≠ (s_.2 : Value).ownBlock) s_.1 t701) ∧ (Kd.R (Kd.int .i64) 3 w' w.heap.size (fun k_ => some k_ ≠ (s_.1 : Value).ownBlock) s_.2 t705) ∧ (w'.heap[gb695]? = some (.cells #[.bool a0_0, .slice A0_1 l0_1.length c0_1] 24 (0, 0))) ∧ (w'.heap[gb696]? = some (.cells #[.bool a1_0, .slice A1_1 l1_1.length c1_1] 24 (0, 0))) ∧ (Below w.heap.size w w')) ?_ ?_
        rotate_left
        ·intro hJ1_3
         refine join_ (σ := Value × Nat) 4 #[true, true, true, false, true, false, false, false] (fun s_ => [(17, .agg #[.bool t700, s_.1]), (5, .pointer (some ⟨s_.2, 0, none⟩))]) (fun s_ w' => (w'.cell? ⟨gb695, 0, none⟩ = some (.bool a0_0) ∧ w'.cell? ⟨gb695, 1, none⟩ = some (.slice A0_1 l0_1.length c0_1) ∧ w'.cell? ⟨gb696, 0, none⟩ = some (.bool a1_0) ∧ w'.cell? ⟨gb696, 1, none⟩ = some (.slice A1_1 l1_1.length c1_1)) ∧ (Kd.R (Kd.int .i64) 3 w' w.heap.size (fun _ => True) s_.1 t701) ∧ (w'.heap[gb695]? = some (.cells #[.bool a0_0, .slice A0_1 l0_1.length c0_1] 24 (0, 0))) ∧ (w'.heap[gb696]? = some (.cells #[.bool a1_0, .slice A1_1 l1_1.length c1_1] 24 (0, 0))) ∧ (w'.heap[s_.2]? = some (.cells #[.bool false, .slice none 0 0] 32 (0, 0))) ∧ (w.heap.size ≤ s_.2) ∧ (w.heap.size ≤ s_.2) ∧ (gb695 ≠ s_.2) ∧ (s_.2 ≠ gb695) ∧ (gb696 ≠ s_.2) ∧ (s_.2 ≠ gb696) ∧ (Below w.heap.size w w')) ?_ ?_
         rotate_left
         ·intro hJ1_4
          refine join_ (σ := Value × Nat) 4 #[true, true, true, false, false, true, false, false] (fun s_ => [(17, .agg #[.bool t700, s_.1]), (6, .pointer (some ⟨s_.2, 0, none⟩))]) (fun s_ w' => (w'.cell? ⟨gb695, 0, none⟩ = some (.bool a0_0) ∧ w'.cell? ⟨gb695, 1, none⟩ = some (.slice A0_1 l0_1.length c0_1) ∧ w'.cell? ⟨gb696, 0, none⟩ = some (.bool a1_0) ∧ w'.cell? ⟨gb696, 1, none⟩ = some (.slice A1_1 l1_1.length c1_1)) ∧ (Kd.R (Kd.int .i64) 3 w' w.heap.size (fun _ => True) s_.1 t701) ∧ (w'.heap[gb695]? = some (.cells #[.bool a0_0, .slice A0_1 l0_1.length c0_1] 24 (0, 0))) ∧ (w'.heap[gb696]? = some (.cells #[.bool a1_0, .slice A1_1 l1_1.length c1_1] 24 (0, 0))) ∧ (w'.heap[s_.2]? = some (.cells #[.bool false, .slice none 0 0] 32 (0, 0))) ∧ (w.heap.size ≤ s_.2) ∧ (w.heap.size ≤ s_.2) ∧ (gb695 ≠ s_.2) ∧ (s_.2 ≠ gb695) ∧ (gb696 ≠ s_.2) ∧ (s_.2 ≠ gb696) ∧ (Below w.heap.size w w')) ?_ ?_
          rotate_left
          ·intro hJ1_5
           refine join_ (σ := Nat × Nat) 4 #[true, false, true, false, true, true, false, false] (fun s_ => [(5, .pointer (some ⟨s_.1, 0, none⟩)), (6, .pointer (some ⟨s_.2, 0, none⟩))]) (fun s_ w' => (w'.cell? ⟨gb695, 0, none⟩ = some (.bool a0_0) ∧ w'.cell? ⟨gb695, 1, none⟩ = some (.slice A0_1 l0_1.length c0_1) ∧ w'.cell? ⟨gb696, 0, none⟩ = some (.bool a1_0) ∧ w'.cell? ⟨gb696, 1, none⟩ = some (.slice A1_1 l1_1.length c1_1)) ∧ (w'.heap[gb695]? = some (.cells #[.bool a0_0, .slice A0_1 l0_1.length c0_1] 24 (0, 0))) ∧ (w'.heap[gb696]? = some (.cells #[.bool a1_0, .slice A1_1 l1_1.length c1_1] 24 (0, 0))) ∧ (w'.heap[s_.1]? = some (.cells #[.bool false, .slice none 0 0] 32 (0, 0))) ∧ (w'.heap[s_.2]? = some (.cells #[.bool false, .slice none 0 0] 32 (0, 0))) ∧ (w.heap.size ≤ s_.1) ∧ (w.heap.size ≤ s_.1) ∧ (gb695 ≠ s_.1) ∧ (s_.1 ≠ gb695) ∧ (gb696 ≠ s_.1) ∧ (s_.1 ≠ gb696) ∧ (s_.2 ≠ s_.1) ∧ (s_.1 ≠ s_.2) ∧ (w.heap.size ≤ s_.2) ∧ (w.heap.size ≤ s_.2) ∧ (gb695 ≠ s_.2) ∧ (s_.2 ≠ gb695) ∧ (gb696 ≠ s_.2) ∧ (s_.2 ≠ gb696) ∧ (Below w.heap.size w w')) ?_ ?_
           rotate_left
           ·intro hJ4_5
            refine join_ (σ := Value) 5 #[true, true, true, false, false, false, false, false] (fun s_ => [(17, .agg #[.bool t700, s_])]) (fun s_ w' => (w'.cell? ⟨gb695, 0, none⟩ = some (.bool a0_0) ∧ w'.cell? ⟨gb695, 1, none⟩ = some (.slice A0_1 l0_1.length c0_1) ∧ w'.cell? ⟨gb696, 0, none⟩ = some (.bool a1_0) ∧ w'.cell? ⟨gb696, 1, none⟩ = some (.slice A1_1 l1_1.length c1_1)) ∧ (Kd.R (Kd.int .i64) 3 w' w.heap.size (fun _ => True) s_ t701) ∧ (w'.heap[gb695]? = some (.cells #[.bool a0_0, .slice A0_1 l0_1.length c0_1] 24 (0, 0))) ∧ (w'.heap[gb696]? = some (.cells #[.bool a1_0, .slice A1_1 l1_1.length c1_1] 24 (0, 0))) ∧ (Below w.heap.size w w')) ?_ ?_
            rotate_left
            ·intro hJ1
             refine join_ (σ := Nat) 5 #[true, false, true, false, true, false, false, false] (fun s_ => [(5, .pointer (some ⟨s_, 0, none⟩))]) (fun s_ w' => (w'.cell? ⟨gb695, 0, none⟩ = some (.bool a0_0) ∧ w'.cell? ⟨gb695, 1, none⟩ = some (.slice A0_1 l0_1.length c0_1) ∧ w'.cell? ⟨gb696, 0, none⟩ = some (.bool a1_0) ∧ w'.cell? ⟨gb696, 1, none⟩ = some (.slice A1_1 l1_1.length c1_1)) ∧ (w'.heap[gb695]? = some (.cells #[.bool a0_0, .slice A0_1 l0_1.length c0_1] 24 (0, 0))) ∧ (w'.heap[gb696]? = some (.cells #[.bool a1_0, .slice A1_1 l1_1.length c1_1] 24 (0, 0))) ∧ (w'.heap[s_]? = some (.cells #[.bool false, .slice none 0 0] 32 (0, 0))) ∧ (w.heap.size ≤ s_) ∧ (w.heap.size ≤ s_) ∧ (gb695 ≠ s_) ∧ (s_ ≠ gb695) ∧ (gb696 ≠ s_) ∧ (s_ ≠ gb696) ∧ (Below w.heap.size w w')) ?_ ?_
             rotate_left
             ·intro hJ4
              refine join_ (σ := Nat) 5 #[true, false, true, false, false, true, false, false] (fun s_ => [(6, .pointer (some ⟨s_, 0, none⟩))]) (fun s_ w' => (w'.cell? ⟨gb695, 0, none⟩ = some (.bool a0_0) ∧ w'.cell? ⟨gb695, 1, none⟩ = some (.slice A0_1 l0_1.length c0_1) ∧ w'.cell? ⟨gb696, 0, none⟩ = some (.bool a1_0) ∧ w'.cell? ⟨gb696, 1, none⟩ = some (.slice A1_1 l1_1.length c1_1)) ∧ (w'.heap[gb695]? = some (.cells #[.bool a0_0, .slice A0_1 l0_1.length c0_1] 24 (0, 0))) ∧ (w'.heap[gb696]? = some (.cells #[.bool a1_0, .slice A1_1 l1_1.length c1_1] 24 (0, 0))) ∧ (w'.heap[s_]? = some (.cells #[.bool false, .slice none 0 0] 32 (0, 0))) ∧ (w.heap.size ≤ s_) ∧ (w.heap.size ≤ s_) ∧ (gb695 ≠ s_) ∧ (s_ ≠ gb695) ∧ (gb696 ≠ s_) ∧ (s_ ≠ gb696) ∧ (Below w.heap.size w w')) ?_ ?_
              rotate_left
              ·intro hJ5
               refine three_ (i := 1) (j := 4) (k := 5) (Ni := some 17) (Nj := some 5) (Nk := some 6) #[true, true, true, false, false, false, false, false] #[true, false, true, false, true, false, false, false] #[true, false, true, false, false, true, false, false] rfl rfl rfl rfl rfl rfl (three_of HT_.out (by kernel_rfl)) (by decide) (by decide) (by decide) (fun K hK => ?_) (fun K hK => ?_) (fun K hK => ?_)
               ·skip
                refine gS Try.func18 #[.agg #[.bool a0_0, .slice A0_1 l0_1.length c0_1]] ?_
                with_reducible refine (whetstonelaw02_of.calls kj2 a0_0 _ _ l0_1 t700 t701 _ ?side1 ?side2 A20.out).mono ?_
                (case side1 => exact tc (Kd.C_below HR0_1.out HB.out))
                (case side2 => exact HC0_1.out)
                rintro e w25 ⟨v702, rfl, ho0, hb⟩
                refine ⟨_, rfl, ?_⟩
                have HO703 := rl ho0 HB
                replace BK695 := kb BK695 hb
                replace BK696 := kb BK696 hb
                replace HB := bs HB hb
                (try clear hb); (try clear hb2); (try clear hk); (try clear hi); (try clear ho0)
                refine hK.out _ _ ⟨(blk_cell BK695.out 0).trans rfl, (blk_cell BK695.out 1).trans rfl, (blk_cell BK696.out 0).trans rfl, (blk_cell BK696.out 1).trans rfl⟩ fun hHeld => nT (N := some 17) ?_
                clear hK K
                exact norm_ (by first | (simp only [putAll, Act.put, List.setIfInBounds_toArray, List.set_cons_zero, List.set_cons_succ]; done) | (simp only [putAll, Act.put, List.setIfInBounds_toArray, List.set_cons_zero, List.set_cons_succ]; rfl)) (hJ1 (v702) _ ⟨hHeld, (tq HO703), (tk BK695), (tk BK696), (tb HB)⟩)
               ·skip
                refine box_step ?hg (N := 5) ?hd (cs := #[.bool false, .slice none 0 0]) (t := 32) ?hr ?_; (case hd => rfl); (case hg => rfl); (case hr => first | (go_simp; done) | (go_simp; rfl))
                intro gb708 hg w25 hbox hb
                have n0_ := kb BK695 hb
                have n1_ := kb BK696 hb
                have n2_ := bs HB hb
                have n3_ := Aside0.mk (hbox)
                have n4_ := bz hg HB
                have n5_ := bz hg HB
                have n6_ := nl hg BK695
                have n7_ := ng hg BK695
                have n8_ := nl hg BK696
                have n9_ := ng hg BK696
                clear BK695 BK696 HB
                have BK695 := n0_
                have BK696 := n1_
                have HB := n2_
                have BK708 := n3_
                have GW708 := n4_
                have GE708 := n5_
                have NB695_708 := n6_
                have NB708_695 := n7_
                have NB696_708 := n8_
                have NB708_696 := n9_
                clear n0_ n1_ n2_ n3_ n4_ n5_ n6_ n7_ n8_ n9_ hb hbox hg
                refine hK.out _ _ ⟨(blk_cell BK695.out 0).trans rfl, (blk_cell BK695.out 1).trans rfl, (blk_cell BK696.out 0).trans rfl, (blk_cell BK696.out 1).trans rfl⟩ fun hHeld => nT (N := some 5) ?_
                clear hK K
                exact norm_ (by first | (simp only [putAll, Act.put, List.setIfInBounds_toArray, List.set_cons_zero, List.set_cons_succ]; done) | (simp only [putAll, Act.put, List.setIfInBounds_toArray, List.set_cons_zero, List.set_cons_succ]; rfl)) (hJ4 (gb708) _ ⟨hHeld, (tk BK695), (tk BK696), (tk BK708), GW708.out, GE708.out, NB695_708.out, NB708_695.out, NB696_708.out, NB708_696.out, (tb HB)⟩)
               ·skip
                refine box_step ?hg (N := 6) ?hd (cs := #[.bool false, .slice none 0 0]) (t := 32) ?hr ?_; (case hd => rfl); (case hg => rfl); (case hr => first | (go_simp; done) | (go_simp; rfl))
                intro gb709 hg w25 hbox hb
                have n0_ := kb BK695 hb
                have n1_ := kb BK696 hb
                have n2_ := bs HB hb
                have n3_ := Aside0.mk (hbox)
                have n4_ := bz hg HB
                have n5_ := bz hg HB
                have n6_ := nl hg BK695
                have n7_ := ng hg BK695
                have n8_ := nl hg BK696
                have n9_ := ng hg BK696
                clear BK695 BK696 HB
                have BK695 := n0_
                have BK696 := n1_
                have HB := n2_
                have BK709 := n3_
                have GW709 := n4_
                have GE709 := n5_
                have NB695_709 := n6_
                have NB709_695 := n7_
                have NB696_709 := n8_
                have NB709_696 := n9_
                clear n0_ n1_ n2_ n3_ n4_ n5_ n6_ n7_ n8_ n9_ hb hbox hg
                refine hK.out _ _ ⟨(blk_cell BK695.out 0).trans rfl, (blk_cell BK695.out 1).trans rfl, (blk_cell BK696.out 0).trans rfl, (blk_cell BK696.out 1).trans rfl⟩ fun hHeld => nT (N := some 6) ?_
                clear hK K
                exact norm_ (by first | (simp only [putAll, Act.put, List.setIfInBounds_toArray, List.set_cons_zero, List.set_cons_succ]; done) | (simp only [putAll, Act.put, List.setIfInBounds_toArray, List.set_cons_zero, List.set_cons_succ]; rfl)) (hJ5 (gb709) _ ⟨hHeld, (tk BK695), (tk BK696), (tk BK709), GW709.out, GE709.out, NB695_709.out, NB709_695.out, NB696_709.out, NB709_696.out, (tb HB)⟩)
              ·skip
               rintro gb709 w26 ⟨hS_, h0_, h1_, h2_, h3_, h4_, h5_, h6_, h7_, h8_, h9_⟩
               have n0_ : Aside0 (w26.heap[gb695]? = some (.cells #[.bool a0_0, .slice A0_1 l0_1.length c0_1] 24 (0, 0))) := ⟨h0_⟩
               have n1_ : Aside0 (w26.heap[gb696]? = some (.cells #[.bool a1_0, .slice A1_1 l1_1.length c1_1] 24 (0, 0))) := ⟨h1_⟩
               have n2_ : Aside0 (w26.heap[gb709]? = some (.cells #[.bool false, .slice none 0 0] 32 (0, 0))) := ⟨h2_⟩
               have n3_ : Aside0 (w.heap.size ≤ gb709) := ⟨h3_⟩
               have n4_ : Aside0 (w.heap.size ≤ gb709) := ⟨h4_⟩
               have n5_ : Aside0 (gb695 ≠ gb709) := ⟨h5_⟩
               have n6_ : Aside0 (gb709 ≠ gb695) := ⟨h6_⟩
               have n7_ : Aside0 (gb696 ≠ gb709) := ⟨h7_⟩
               have n8_ : Aside0 (gb709 ≠ gb696) := ⟨h8_⟩
               have n9_ : Aside0 (Below w.heap.size w w26) := ⟨h9_⟩
               clear BK695 BK696 HB h0_ h1_ h2_ h3_ h4_ h5_ h6_ h7_ h8_ h9_
               have BK695 := n0_
               have BK696 := n1_
               have BK709 := n2_
               have GW709 := n3_
               have GE709 := n4_
               have NB695_709 := n5_
               have NB709_695 := n6_
               have NB696_709 := n7_
               have NB709_696 := n8_
               have HB := n9_
               clear n0_ n1_ n2_ n3_ n4_ n5_ n6_ n7_ n8_ n9_
               have hHeld : w26.cell? ⟨gb695, 0, none⟩ = some (.bool a0_0) ∧ w26.cell? ⟨gb695, 1, none⟩ = some (.slice A0_1 l0_1.length c0_1) ∧ w26.cell? ⟨gb696, 0, none⟩ = some (.bool a1_0) ∧ w26.cell? ⟨gb696, 1, none⟩ = some (.slice A1_1 l1_1.length c1_1) := hS_
               refine norm_ (a' := ?_) ?_ ?_
               rotate_left
               ·simp only [putAll, Act.put, List.setIfInBounds_toArray, List.set_cons_zero, List.set_cons_succ]
                rfl
               refine two_ (i := 1) (j := 4) (Ni := some 17) (Nj := some 5) #[true, true, true, false, false, true, false, false] #[true, false, true, false, true, true, false, false] rfl rfl rfl rfl (two_of HT_.out (by kernel_rfl)) (by decide) (by decide) (fun K hK => ?_) (fun K hK => ?_)
               ·skip
                refine gS Try.func18 #[.agg #[.bool a0_0, .slice A0_1 l0_1.length c0_1]] ?_
                with_reducible refine (whetstonelaw02_of.calls kj2 a0_0 _ _ l0_1 t700 t701 _ ?side1 ?side2 A20.out).mono ?_
                (case side1 => exact tc (Kd.C_below HR0_1.out HB.out))
                (case side2 => exact HC0_1.out)
                rintro e w27 ⟨v702, rfl, ho0, hb⟩
                refine ⟨_, rfl, ?_⟩
                have HO703 := rl ho0 HB
                replace BK695 := kb BK695 hb
                replace BK696 := kb BK696 hb
                replace BK709 := kb BK709 hb
                replace HB := bs HB hb
                (try clear hb); (try clear hb2); (try clear hk); (try clear hi); (try clear ho0)
                refine hK.out _ _ ⟨(blk_cell BK695.out 0).trans rfl, (blk_cell BK695.out 1).trans rfl, (blk_cell BK696.out 0).trans rfl, (blk_cell BK696.out 1).trans rfl⟩ fun hHeld => nT (N := some 17) ?_
                clear hK K
                exact norm_ (by first | (simp only [putAll, Act.put, List.setIfInBounds_toArray, List.set_cons_zero, List.set_cons_succ]; done) | (simp only [putAll, Act.put, List.setIfInBounds_toArray, List.set_cons_zero, List.set_cons_succ]; rfl)) (hJ1_5 (v702, gb709) _ ⟨hHeld, (tq HO703), (tk BK695), (tk BK696), (tk BK709), GW709.out, GE709.out, NB695_709.out, NB709_695.out, NB696_709.out, NB709_696.out, (tb HB)⟩)
               ·skip
                refine box_step ?hg (N := 5) ?hd (cs := #[.bool false, .slice none 0 0]) (t := 32) ?hr ?_; (case hd => rfl); (case hg => rfl); (case hr => first | (go_simp; done) | (go_simp; rfl))
                intro gb708 hg w27 hbox hb
                have n0_ := kb BK695 hb
                have n1_ := kb BK696 hb
                have n2_ := kb BK709 hb
                have n3_ := bs HB hb
                have n4_ := Aside0.mk (hbox)
                have n5_ := bz hg HB
                have n6_ := bz hg HB
                have n7_ := nl hg BK695
                have n8_ := ng hg BK695
                have n9_ := nl hg BK696
                have n10_ := ng hg BK696
                have n11_ := nl hg BK709
                have n12_ := ng hg BK709
                clear BK695 BK696 BK709 HB
                have BK695 := n0_
                have BK696 := n1_
                have BK709 := n2_
                have HB := n3_
                have BK708 := n4_
                have GW708 := n5_
                have GE708 := n6_
                have NB695_708 := n7_
                have NB708_695 := n8_
                have NB696_708 := n9_
                have NB708_696 := n10_
                have NB709_708 := n11_
                have NB708_709 := n12_
                clear n0_ n1_ n2_ n3_ n4_ n5_ n6_ n7_ n8_ n9_ n10_ n11_ n12_ hb hbox hg
                refine hK.out _ _ ⟨(blk_cell BK695.out 0).trans rfl, (blk_cell BK695.out 1).trans rfl, (blk_cell BK696.out 0).trans rfl, (blk_cell BK696.out 1).trans rfl⟩ fun hHeld => nT (N := some 5) ?_
                clear hK K
                exact norm_ (by first | (simp only [putAll, Act.put, List.setIfInBounds_toArray, List.set_cons_zero, List.set_cons_succ]; done) | (simp only [putAll, Act.put, List.setIfInBounds_toArray, List.set_cons_zero, List.set_cons_succ]; rfl)) (hJ4_5 (gb708, gb709) _ ⟨hHeld, (tk BK695), (tk BK696), (tk BK708), (tk BK709), GW708.out, GE708.out, NB695_708.out, NB708_695.out, NB696_708.out, NB708_696.out, NB709_708.out, NB708_709.out, GW709.out, GE709.out, NB695_709.out, NB709_695.out, NB696_709.out, NB709_696.out, (tb HB)⟩)
             ·skip
              rintro gb708 w26 ⟨hS_, h0_, h1_, h2_, h3_, h4_, h5_, h6_, h7_, h8_, h9_⟩
              have n0_ : Aside0 (w26.heap[gb695]? = some (.cells #[.bool a0_0, .slice A0_1 l0_1.length c0_1] 24 (0, 0))) := ⟨h0_⟩
              have n1_ : Aside0 (w26.heap[gb696]? = some (.cells #[.bool a1_0, .slice A1_1 l1_1.length c1_1] 24 (0, 0))) := ⟨h1_⟩
              have n2_ : Aside0 (w26.heap[gb708]? = some (.cells #[.bool false, .slice none 0 0] 32 (0, 0))) := ⟨h2_⟩
              have n3_ : Aside0 (w.heap.size ≤ gb708) := ⟨h3_⟩
              have n4_ : Aside0 (w.heap.size ≤ gb708) := ⟨h4_⟩
              have n5_ : Aside0 (gb695 ≠ gb708) := ⟨h5_⟩
              have n6_ : Aside0 (gb708 ≠ gb695) := ⟨h6_⟩
              have n7_ : Aside0 (gb696 ≠ gb708) := ⟨h7_⟩
              have n8_ : Aside0 (gb708 ≠ gb696) := ⟨h8_⟩
              have n9_ : Aside0 (Below w.heap.size w w26) := ⟨h9_⟩
              clear BK695 BK696 HB h0_ h1_ h2_ h3_ h4_ h5_ h6_ h7_ h8_ h9_
              have BK695 := n0_
              have BK696 := n1_
              have BK708 := n2_
              have GW708 := n3_
              have GE708 := n4_
              have NB695_708 := n5_
              have NB708_695 := n6_
              have NB696_708 := n7_
              have NB708_696 := n8_
              have HB := n9_
              clear n0_ n1_ n2_ n3_ n4_ n5_ n6_ n7_ n8_ n9_
              have hHeld : w26.cell? ⟨gb695, 0, none⟩ = some (.bool a0_0) ∧ w26.cell? ⟨gb695, 1, none⟩ = some (.slice A0_1 l0_1.length c0_1) ∧ w26.cell? ⟨gb696, 0, none⟩ = some (.bool a1_0) ∧ w26.cell? ⟨gb696, 1, none⟩ = some (.slice A1_1 l1_1.length c1_1) := hS_
              refine norm_ (a' := ?_) ?_ ?_
              rotate_left
              ·simp only [putAll, Act.put, List.setIfInBounds_toArray, List.set_cons_zero, List.set_cons_succ]
               rfl
              refine two_ (i := 1) (j := 5) (Ni := some 17) (Nj := some 6) #[true, true, true, false, true, false, false, false] #[true, false, true, false, true, true, false, false] rfl rfl rfl rfl (two_of HT_.out (by kernel_rfl)) (by decide) (by decide) (fun K hK => ?_) (fun K hK => ?_)
              ·skip
               refine gS Try.func18 #[.agg #[.bool a0_0, .slice A0_1 l0_1.length c0_1]] ?_
               with_reducible refine (whetstonelaw02_of.calls kj2 a0_0 _ _ l0_1 t700 t701 _ ?side1 ?side2 A20.out).mono ?_
               (case side1 => exact tc (Kd.C_below HR0_1.out HB.out))
               (case side2 => exact HC0_1.out)
               rintro e w27 ⟨v702, rfl, ho0, hb⟩
               refine ⟨_, rfl, ?_⟩
               have HO703 := rl ho0 HB
               replace BK695 := kb BK695 hb
               replace BK696 := kb BK696 hb
               replace BK708 := kb BK708 hb
               replace HB := bs HB hb
               (try clear hb); (try clear hb2); (try clear hk); (try clear hi); (try clear ho0)
               refine hK.out _ _ ⟨(blk_cell BK695.out 0).trans rfl, (blk_cell BK695.out 1).trans rfl, (blk_cell BK696.out 0).trans rfl, (blk_cell BK696.out 1).trans rfl⟩ fun hHeld => nT (N := some 17) ?_
               clear hK K
               exact norm_ (by first | (simp only [putAll, Act.put, List.setIfInBounds_toArray, List.set_cons_zero, List.set_cons_succ]; done) | (simp only [putAll, Act.put, List.setIfInBounds_toArray, List.set_cons_zero, List.set_cons_succ]; rfl)) (hJ1_4 (v702, gb708) _ ⟨hHeld, (tq HO703), (tk BK695), (tk BK696), (tk BK708), GW708.out, GE708.out, NB695_708.out, NB708_695.out, NB696_708.out, NB708_696.out, (tb HB)⟩)
              ·skip
               refine box_step ?hg (N := 6) ?hd (cs := #[.bool false, .slice none 0 0]) (t := 32) ?hr ?_; (case hd => rfl); (case hg => rfl); (case hr => first | (go_simp; done) | (go_simp; rfl))
               intro gb709 hg w27 hbox hb
               have n0_ := kb BK695 hb
               have n1_ := kb BK696 hb
               have n2_ := kb BK708 hb
               have n3_ := bs HB hb
               have n4_ := Aside0.mk (hbox)
               have n5_ := bz hg HB
               have n6_ := bz hg HB
               have n7_ := nl hg BK695
               have n8_ := ng hg BK695
               have n9_ := nl hg BK696
               have n10_ := ng hg BK696
               have n11_ := nl hg BK708
               have n12_ := ng hg BK708
               clear BK695 BK696 BK708 HB
               have BK695 := n0_
               have BK696 := n1_
               have BK708 := n2_
               have HB := n3_
               have BK709 := n4_
               have GW709 := n5_
               have GE709 := n6_
               have NB695_709 := n7_
               have NB709_695 := n8_
               have NB696_709 := n9_
               have NB709_696 := n10_
               have NB708_709 := n11_
               have NB709_708 := n12_
               clear n0_ n1_ n2_ n3_ n4_ n5_ n6_ n7_ n8_ n9_ n10_ n11_ n12_ hb hbox hg
               refine hK.out _ _ ⟨(blk_cell BK695.out 0).trans rfl, (blk_cell BK695.out 1).trans rfl, (blk_cell BK696.out 0).trans rfl, (blk_cell BK696.out 1).trans rfl⟩ fun hHeld => nT (N := some 6) ?_
               clear hK K
               exact norm_ (by first | (simp only [putAll, Act.put, List.setIfInBounds_toArray, List.set_cons_zero, List.set_cons_succ]; done) | (simp only [putAll, Act.put, List.setIfInBounds_toArray, List.set_cons_zero, List.set_cons_succ]; rfl)) (hJ4_5 (gb708, gb709) _ ⟨hHeld, (tk BK695), (tk BK696), (tk BK708), (tk BK709), GW708.out, GE708.out, NB695_708.out, NB708_695.out, NB696_708.out, NB708_696.out, NB709_708.out, NB708_709.out, GW709.out, GE709.out, NB695_709.out, NB709_695.out, NB696_709.out, NB709_696.out, (tb HB)⟩)
            ·skip
             rintro v702 w26 ⟨hS_, h0_, h1_, h2_, h3_⟩
             have n0_ : Aside0 (Kd.R (Kd.int .i64) 3 w26 w.heap.size (fun _ => True) v702 t701) := ⟨h0_⟩
             have n1_ : Aside0 (w26.heap[gb695]? = some (.cells #[.bool a0_0, .slice A0_1 l0_1.length c0_1] 24 (0, 0))) := ⟨h1_⟩
             have n2_ : Aside0 (w26.heap[gb696]? = some (.cells #[.bool a1_0, .slice A1_1 l1_1.length c1_1] 24 (0, 0))) := ⟨h2_⟩
             have n3_ : Aside0 (Below w.heap.size w w26) := ⟨h3_⟩
             clear BK695 BK696 HB h0_ h1_ h2_ h3_
             have HO703 := n0_
             have BK695 := n1_
             have BK696 := n2_
             have HB := n3_
             clear n0_ n1_ n2_ n3_
             have hHeld : w26.cell? ⟨gb695, 0, none⟩ = some (.bool a0_0) ∧ w26.cell? ⟨gb695, 1, none⟩ = some (.slice A0_1 l0_1.length c0_1) ∧ w26.cell? ⟨gb696, 0, none⟩ = some (.bool a1_0) ∧ w26.cell? ⟨gb696, 1, none⟩ = some (.slice A1_1 l1_1.length c1_1) := hS_
             refine norm_ (a' := ?_) ?_ ?_
             rotate_left
             ·simp only [putAll, Act.put, List.setIfInBounds_toArray, List.set_cons_zero, List.set_cons_succ]
              rfl
             refine three_ (i := 3) (j := 4) (k := 5) (Ni := some 19) (Nj := some 5) (Nk := some 6) #[true, true, true, true, false, false, false, false] #[true, true, true, false, true, false, false, false] #[true, true, true, false, false, true, false, false] rfl rfl rfl rfl rfl rfl (three_of HT_.out (by kernel_rfl)) (by decide) (by decide) (by decide) (fun K hK => ?_) (fun K hK => ?_) (fun K hK => ?_)
             ·skip
              refine gS Try.func18 #[.agg #[.bool a1_0, .slice A1_1 l1_1.length c1_1]] ?_
              with_reducible refine (whetstonelaw02_of.calls kj2 a1_0 _ _ l1_1 t704 t705 _ ?side1 ?side2 A21.out).mono ?_
              (case side1 => exact tc (Kd.C_below HR1_1.out HB.out))
              (case side2 => exact HC1_1.out)
              rintro e w27 ⟨v706, rfl, ho0, hb⟩
              refine ⟨_, rfl, ?_⟩
              have HO707 := Aside0.mk (Kd.R_lower (Kd.R_new' ho0 (Kd.R_lt (tq HO703))) (below_size (tb HB)))
              replace HO703 := re HO703 (Kd.R_base ho0) hb
              replace BK695 := kb BK695 hb
              replace BK696 := kb BK696 hb
              replace HB := bs HB hb
              (try clear hb); (try clear hb2); (try clear hk); (try clear hi); (try clear ho0)
              refine hK.out _ _ ⟨(blk_cell BK695.out 0).trans rfl, (blk_cell BK695.out 1).trans rfl, (blk_cell BK696.out 0).trans rfl, (blk_cell BK696.out 1).trans rfl⟩ fun hHeld => nT (N := some 19) ?_
              clear hK K
              exact norm_ (by first | (simp only [putAll, Act.put, List.setIfInBounds_toArray, List.set_cons_zero, List.set_cons_succ]; done) | (simp only [putAll, Act.put, List.setIfInBounds_toArray, List.set_cons_zero, List.set_cons_succ]; rfl)) (hJ1_3 (v702, v706) _ ⟨hHeld, (by (with_reducible repeat first | apply qa | apply qn | apply qd); exact Kd.R_mono HO703.out (fun _ hk => hk.2)), (by (with_reducible repeat first | apply qa | apply qn | apply qd); exact Kd.R_mono HO707.out (fun _ hk => hk.2)), (tk BK695), (tk BK696), (tb HB)⟩)
             ·skip
              refine box_step ?hg (N := 5) ?hd (cs := #[.bool false, .slice none 0 0]) (t := 32) ?hr ?_; (case hd => rfl); (case hg => rfl); (case hr => first | (go_simp; done) | (go_simp; rfl))
              intro gb708 hg w27 hbox hb
              have n0_ := rb HO703 hb
              have n1_ := kb BK695 hb
              have n2_ := kb BK696 hb
              have n3_ := bs HB hb
              have n4_ := Aside0.mk (hbox)
              have n5_ := bz hg HB
              have n6_ := bz hg HB
              have n7_ := nl hg BK695
              have n8_ := ng hg BK695
              have n9_ := nl hg BK696
              have n10_ := ng hg BK696
              clear HO703 BK695 BK696 HB
              have HO703 := n0_
              have BK695 := n1_
              have BK696 := n2_
              have HB := n3_
              have BK708 := n4_
              have GW708 := n5_
              have GE708 := n6_
              have NB695_708 := n7_
              have NB708_695 := n8_
              have NB696_708 := n9_
              have NB708_696 := n10_
              clear n0_ n1_ n2_ n3_ n4_ n5_ n6_ n7_ n8_ n9_ n10_ hb hbox hg
              refine hK.out _ _ ⟨(blk_cell BK695.out 0).trans rfl, (blk_cell BK695.out 1).trans rfl, (blk_cell BK696.out 0).trans rfl, (blk_cell BK696.out 1).trans rfl⟩ fun hHeld => nT (N := some 5) ?_
              clear hK K
              exact norm_ (by first | (simp only [putAll, Act.put, List.setIfInBounds_toArray, List.set_cons_zero, List.set_cons_succ]; done) | (simp only [putAll, Act.put, List.setIfInBounds_toArray, List.set_cons_zero, List.set_cons_succ]; rfl)) (hJ1_4 (v702, gb708) _ ⟨hHeld, (tq HO703), (tk BK695), (tk BK696), (tk BK708), GW708.out, GE708.out, NB695_708.out, NB708_695.out, NB696_708.out, NB708_696.out, (tb HB)⟩)
             ·skip
              refine box_step ?hg (N := 6) ?hd (cs := #[.bool false, .slice none 0 0]) (t := 32) ?hr ?_; (case hd => rfl); (case hg => rfl); (case hr => first | (go_simp; done) | (go_simp; rfl))
              intro gb709 hg w27 hbox hb
              have n0_ := rb HO703 hb
              have n1_ := kb BK695 hb
              have n2_ := kb BK696 hb
              have n3_ := bs HB hb
              have n4_ := Aside0.mk (hbox)
              have n5_ := bz hg HB
              have n6_ := bz hg HB
              have n7_ := nl hg BK695
              have n8_ := ng hg BK695
              have n9_ := nl hg BK696
              have n10_ := ng hg BK696
              clear HO703 BK695 BK696 HB
              have HO703 := n0_
              have BK695 := n1_
              have BK696 := n2_
              have HB := n3_
              have BK709 := n4_
              have GW709 := n5_
              have GE709 := n6_
              have NB695_709 := n7_
              have NB709_695 := n8_
              have NB696_709 := n9_
              have NB709_696 := n10_
              clear n0_ n1_ n2_ n3_ n4_ n5_ n6_ n7_ n8_ n9_ n10_ hb hbox hg
              refine hK.out _ _ ⟨(blk_cell BK695.out 0).trans rfl, (blk_cell BK695.out 1).trans rfl, (blk_cell BK696.out 0).trans rfl, (blk_cell BK696.out 1).trans rfl⟩ fun hHeld => nT (N := some 6) ?_
              clear hK K
              exact norm_ (by first | (simp only [putAll, Act.put, List.setIfInBounds_toArray, List.set_cons_zero, List.set_cons_succ]; done) | (simp only [putAll, Act.put, List.setIfInBounds_toArray, List.set_cons_zero, List.set_cons_succ]; rfl)) (hJ1_5 (v702, gb709) _ ⟨hHeld, (tq HO703), (tk BK695), (tk BK696), (tk BK709), GW709.out, GE709.out, NB695_709.out, NB709_695.out, NB696_709.out, NB709_696.out, (tb HB)⟩)
           ·skip
            rintro ⟨gb708, gb709⟩ w27 ⟨hS_, h0_, h1_, h2_, h3_, h4_, h5_, h6_, h7_, h8_, h9_, h10_, h11_, h12_, h13_, h14_, h15_, h16_, h17_, h18_⟩
            have n0_ : Aside0 (w27.heap[gb695]? = some (.cells #[.bool a0_0, .slice A0_1 l0_1.length c0_1] 24 (0, 0))) := ⟨h0_⟩
            have n1_ : Aside0 (w27.heap[gb696]? = some (.cells #[.bool a1_0, .slice A1_1 l1_1.length c1_1] 24 (0, 0))) := ⟨h1_⟩
            have n2_ : Aside0 (w27.heap[gb708]? = some (.cells #[.bool false, .slice none 0 0] 32 (0, 0))) := ⟨h2_⟩
            have n3_ : Aside0 (w27.heap[gb709]? = some (.cells #[.bool false, .slice none 0 0] 32 (0, 0))) := ⟨h3_⟩
            have n4_ : Aside0 (w.heap.size ≤ gb708) := ⟨h4_⟩
            have n5_ : Aside0 (w.heap.size ≤ gb708) := ⟨h5_⟩
            have n6_ : Aside0 (gb695 ≠ gb708) := ⟨h6_⟩
            have n7_ : Aside0 (gb708 ≠ gb695) := ⟨h7_⟩
            have n8_ : Aside0 (gb696 ≠ gb708) := ⟨h8_⟩
            have n9_ : Aside0 (gb708 ≠ gb696) := ⟨h9_⟩
            have n10_ : Aside0 (gb709 ≠ gb708) := ⟨h10_⟩
            have n11_ : Aside0 (gb708 ≠ gb709) := ⟨h11_⟩
            have n12_ : Aside0 (w.heap.size ≤ gb709) := ⟨h12_⟩
            have n13_ : Aside0 (w.heap.size ≤ gb709) := ⟨h13_⟩
            have n14_ : Aside0 (gb695 ≠ gb709) := ⟨h14_⟩
            have n15_ : Aside0 (gb709 ≠ gb695) := ⟨h15_⟩
            have n16_ : Aside0 (gb696 ≠ gb709) := ⟨h16_⟩
            have n17_ : Aside0 (gb709 ≠ gb696) := ⟨h17_⟩
            have n18_ : Aside0 (Below w.heap.size w w27) := ⟨h18_⟩
            clear BK695 BK696 HB h0_ h1_ h2_ h3_ h4_ h5_ h6_ h7_ h8_ h9_ h10_ h11_ h12_ h13_ h14_ h15_ h16_ h17_ h18_
            have BK695 := n0_
            have BK696 := n1_
            have BK708 := n2_
            have BK709 := n3_
            have GW708 := n4_
            have GE708 := n5_
            have NB695_708 := n6_
            have NB708_695 := n7_
            have NB696_708 := n8_
            have NB708_696 := n9_
            have NB709_708 := n10_
            have NB708_709 := n11_
            have GW709 := n12_
            have GE709 := n13_
            have NB695_709 := n14_
            have NB709_695 := n15_
            have NB696_709 := n16_
            have NB709_696 := n17_
            have HB := n18_
            clear n0_ n1_ n2_ n3_ n4_ n5_ n6_ n7_ n8_ n9_ n10_ n11_ n12_ n13_ n14_ n15_ n16_ n17_ n18_
            have hHeld : w27.cell? ⟨gb695, 0, none⟩ = some (.bool a0_0) ∧ w27.cell? ⟨gb695, 1, none⟩ = some (.slice A0_1 l0_1.length c0_1) ∧ w27.cell? ⟨gb696, 0, none⟩ = some (.bool a1_0) ∧ w27.cell? ⟨gb696, 1, none⟩ = some (.slice A1_1 l1_1.length c1_1) := hS_
            refine norm_ (a' := ?_) ?_ ?_
            rotate_left
            ·simp only [putAll, Act.put, List.setIfInBounds_toArray, List.set_cons_zero, List.set_cons_succ]
             rfl
            refine oT (i := 1) (N := some 17) (bb 8 55) HT_ fun K hK => ?_
            refine gS Try.func18 #[.agg #[.bool a0_0, .slice A0_1 l0_1.length c0_1]] ?_
            with_reducible refine (whetstonelaw02_of.calls kj2 a0_0 _ _ l0_1 t700 t701 _ ?side1 ?side2 A20.out).mono ?_
            (case side1 => exact tc (Kd.C_below HR0_1.out HB.out))
            (case side2 => exact HC0_1.out)
            rintro e w28 ⟨v702, rfl, ho0, hb⟩
            refine ⟨_, rfl, ?_⟩
            have HO703 := rl ho0 HB
            replace BK695 := kb BK695 hb
            replace BK696 := kb BK696 hb
            replace BK708 := kb BK708 hb
            replace BK709 := kb BK709 hb
            replace HB := bs HB hb
            (try clear hb); (try clear hb2); (try clear hk); (try clear hi); (try clear ho0)
            refine hK.out _ _ ⟨(blk_cell BK695.out 0).trans rfl, (blk_cell BK695.out 1).trans rfl, (blk_cell BK696.out 0).trans rfl, (blk_cell BK696.out 1).trans rfl⟩ fun hHeld => nT (N := some 17) ?_
            clear hK K
            exact norm_ (by first | (simp only [putAll, Act.put, List.setIfInBounds_toArray, List.set_cons_zero, List.set_cons_succ]; done) | (simp only [putAll, Act.put, List.setIfInBounds_toArray, List.set_cons_zero, List.set_cons_succ]; rfl)) (hJ1_4_5 (v702, gb708, gb709) _ ⟨hHeld, (tq HO703), (tk BK695), (tk BK696), (tk BK708), (tk BK709), GW708.out, GE708.out, NB695_708.out, NB708_695.out, NB696_708.out, NB708_696.out, NB709_708.out, NB708_709.out, GW709.out, GE709.out, NB695_709.out, NB709_695.out, NB696_709.out, NB709_696.out, (tb HB)⟩)
          ·skip
           rintro ⟨v702, gb709⟩ w27 ⟨hS_, h0_, h1_, h2_, h3_, h4_, h5_, h6_, h7_, h8_, h9_, h10_⟩
           have n0_ : Aside0 (Kd.R (Kd.int .i64) 3 w27 w.heap.size (fun _ => True) v702 t701) := ⟨h0_⟩
           have n1_ : Aside0 (w27.heap[gb695]? = some (.cells #[.bool a0_0, .slice A0_1 l0_1.length c0_1] 24 (0, 0))) := ⟨h1_⟩
           have n2_ : Aside0 (w27.heap[gb696]? = some (.cells #[.bool a1_0, .slice A1_1 l1_1.length c1_1] 24 (0, 0))) := ⟨h2_⟩
           have n3_ : Aside0 (w27.heap[gb709]? = some (.cells #[.bool false, .slice none 0 0] 32 (0, 0))) := ⟨h3_⟩
           have n4_ : Aside0 (w.heap.size ≤ gb709) := ⟨h4_⟩
           have n5_ : Aside0 (w.heap.size ≤ gb709) := ⟨h5_⟩
           have n6_ : Aside0 (gb695 ≠ gb709) := ⟨h6_⟩
           have n7_ : Aside0 (gb709 ≠ gb695) := ⟨h7_⟩
           have n8_ : Aside0 (gb696 ≠ gb709) := ⟨h8_⟩
           have n9_ : Aside0 (gb709 ≠ gb696) := ⟨h9_⟩
           have n10_ : Aside0 (Below w.heap.size w w27) := ⟨h10_⟩
           clear BK695 BK696 HB h0_ h1_ h2_ h3_ h4_ h5_ h6_ h7_ h8_ h9_ h10_
           have HO703 := n0_
           have BK695 := n1_
           have BK696 := n2_
           have BK709 := n3_
           have GW709 := n4_
           have GE709 := n5_
           have NB695_709 := n6_
           have NB709_695 := n7_
           have NB696_709 := n8_
           have NB709_696 := n9_
           have HB := n10_
           clear n0_ n1_ n2_ n3_ n4_ n5_ n6_ n7_ n8_ n9_ n10_
           have hHeld : w27.cell? ⟨gb695, 0, none⟩ = some (.bool a0_0) ∧ w27.cell? ⟨gb695, 1, none⟩ = some (.slice A0_1 l0_1.length c0_1) ∧ w27.cell? ⟨gb696, 0, none⟩ = some (.bool a1_0) ∧ w27.cell? ⟨gb696, 1, none⟩ = some (.slice A1_1 l1_1.length c1_1) := hS_
           refine norm_ (a' := ?_) ?_ ?_
           rotate_left
           ·simp only [putAll, Act.put, List.setIfInBounds_toArray, List.set_cons_zero, List.set_cons_succ]
            rfl
           refine two_ (i := 3) (j := 4) (Ni := some 19) (Nj := some 5) #[true, true, true, true, false, true, false, false] #[true, true, true, false, true, true, false, false] rfl rfl rfl rfl (two_of HT_.out (by kernel_rfl)) (by decide) (by decide) (fun K hK => ?_) (fun K hK => ?_)
           ·skip
            refine gS Try.func18 #[.agg #[.bool a1_0, .slice A1_1 l1_1.length c1_1]] ?_
            with_reducible refine (whetstonelaw02_of.calls kj2 a1_0 _ _ l1_1 t704 t705 _ ?side1 ?side2 A21.out).mono ?_
            (case side1 => exact tc (Kd.C_below HR1_1.out HB.out))
            (case side2 => exact HC1_1.out)
            rintro e w28 ⟨v706, rfl, ho0, hb⟩
            refine ⟨_, rfl, ?_⟩
            have HO707 := Aside0.mk (Kd.R_lower (Kd.R_new' ho0 (Kd.R_lt (tq HO703))) (below_size (tb HB)))
            replace HO703 := re HO703 (Kd.R_base ho0) hb
            replace BK695 := kb BK695 hb
            replace BK696 := kb BK696 hb
            replace BK709 := kb BK709 hb
            replace HB := bs HB hb
            (try clear hb); (try clear hb2); (try clear hk); (try clear hi); (try clear ho0)
            refine hK.out _ _ ⟨(blk_cell BK695.out 0).trans rfl, (blk_cell BK695.out 1).trans rfl, (blk_cell BK696.out 0).trans rfl, (blk_cell BK696.out 1).trans rfl⟩ fun hHeld => nT (N := some 19) ?_
            clear hK K
            exact norm_ (by first | (simp only [putAll, Act.put, List.setIfInBounds_toArray, List.set_cons_zero, List.set_cons_succ]; done) | (simp only [putAll, Act.put, List.setIfInBounds_toArray, List.set_cons_zero, List.set_cons_succ]; rfl)) (hJ1_3_5 (v702, v706, gb709) _ ⟨hHeld, (by (with_reducible repeat first | apply qa | apply qn | apply qd); exact Kd.R_mono HO703.out (fun _ hk => hk.2)), (by (with_reducible repeat first | apply qa | apply qn | apply qd); exact Kd.R_mono HO707.out (fun _ hk => hk.2)), (tk BK695), (tk BK696), (tk BK709), GW709.out, GE709.out, NB695_709.out, NB709_695.out, NB696_709.out, NB709_696.out, (tb HB)⟩)
           ·skip
            refine box_step ?hg (N := 5) ?hd (cs := #[.bool false, .slice none 0 0]) (t := 32) ?hr ?_; (case hd => rfl); (case hg => rfl); (case hr => first | (go_simp; done) | (go_simp; rfl))
            intro gb708 hg w28 hbox hb
            have n0_ := rb HO703 hb
            have n1_ := kb BK695 hb
            have n2_ := kb BK696 hb
            have n3_ := kb BK709 hb
            have n4_ := bs HB hb
            have n5_ := Aside0.mk (hbox)
            have n6_ := bz hg HB
            have n7_ := bz hg HB
            have n8_ := nl hg BK695
            have n9_ := ng hg BK695
            have n10_ := nl hg BK696
            have n11_ := ng hg BK696
            have n12_ := nl hg BK709
            have n13_ := ng hg BK709
            clear HO703 BK695 BK696 BK709 HB
            have HO703 := n0_
            have BK695 := n1_
            have BK696 := n2_
            have BK709 := n3_
            have HB := n4_
            have BK708 := n5_
            have GW708 := n6_
            have GE708 := n7_
            have NB695_708 := n8_
            have NB708_695 := n9_
            have NB696_708 := n10_
            have NB708_696 := n11_
            have NB709_708 := n12_
            have NB708_709 := n13_
            clear n0_ n1_ n2_ n3_ n4_ n5_ n6_ n7_ n8_ n9_ n10_ n11_ n12_ n13_ hb hbox hg
            refine hK.out _ _ ⟨(blk_cell BK695.out 0).trans rfl, (blk_cell BK695.out 1).trans rfl, (blk_cell BK696.out 0).trans rfl, (blk_cell BK696.out 1).trans rfl⟩ fun hHeld => nT (N := some 5) ?_
            clear hK K
            exact norm_ (by first | (simp only [putAll, Act.put, List.setIfInBounds_toArray, List.set_cons_zero, List.set_cons_succ]; done) | (simp only [putAll, Act.put, List.setIfInBounds_toArray, List.set_cons_zero, List.set_cons_succ]; rfl)) (hJ1_4_5 (v702, gb708, gb709) _ ⟨hHeld, (tq HO703), (tk BK695), (tk BK696), (tk BK708), (tk BK709), GW708.out, GE708.out, NB695_708.out, NB708_695.out, NB696_708.out, NB708_696.out, NB709_708.out, NB708_709.out, GW709.out, GE709.out, NB695_709.out, NB709_695.out, NB696_709.out, NB709_696.out, (tb HB)⟩)
         ·skip
          rintro ⟨v702, gb708⟩ w27 ⟨hS_, h0_, h1_, h2_, h3_, h4_, h5_, h6_, h7_, h8_, h9_, h10_⟩
          have n0_ : Aside0 (Kd.R (Kd.int .i64) 3 w27 w.heap.size (fun _ => True) v702 t701) := ⟨h0_⟩
          have n1_ : Aside0 (w27.heap[gb695]? = some (.cells #[.bool a0_0, .slice A0_1 l0_1.length c0_1] 24 (0, 0))) := ⟨h1_⟩
          have n2_ : Aside0 (w27.heap[gb696]? = some (.cells #[.bool a1_0, .slice A1_1 l1_1.length c1_1] 24 (0, 0))) := ⟨h2_⟩
          have n3_ : Aside0 (w27.heap[gb708]? = some (.cells #[.bool false, .slice none 0 0] 32 (0, 0))) := ⟨h3_⟩
          have n4_ : Aside0 (w.heap.size ≤ gb708) := ⟨h4_⟩
          have n5_ : Aside0 (w.heap.size ≤ gb708) := ⟨h5_⟩
          have n6_ : Aside0 (gb695 ≠ gb708) := ⟨h6_⟩
          have n7_ : Aside0 (gb708 ≠ gb695) := ⟨h7_⟩
          have n8_ : Aside0 (gb696 ≠ gb708) := ⟨h8_⟩
          have n9_ : Aside0 (gb708 ≠ gb696) := ⟨h9_⟩
          have n10_ : Aside0 (Below w.heap.size w w27) := ⟨h10_⟩
          clear BK695 BK696 HB h0_ h1_ h2_ h3_ h4_ h5_ h6_ h7_ h8_ h9_ h10_
          have HO703 := n0_
          have BK695 := n1_
          have BK696 := n2_
          have BK708 := n3_
          have GW708 := n4_
          have GE708 := n5_
          have NB695_708 := n6_
          have NB708_695 := n7_
          have NB696_708 := n8_
          have NB708_696 := n9_
          have HB := n10_
          clear n0_ n1_ n2_ n3_ n4_ n5_ n6_ n7_ n8_ n9_ n10_
          have hHeld : w27.cell? ⟨gb695, 0, none⟩ = some (.bool a0_0) ∧ w27.cell? ⟨gb695, 1, none⟩ = some (.slice A0_1 l0_1.length c0_1) ∧ w27.cell? ⟨gb696, 0, none⟩ = some (.bool a1_0) ∧ w27.cell? ⟨gb696, 1, none⟩ = some (.slice A1_1 l1_1.length c1_1) := hS_
          refine norm_ (a' := ?_) ?_ ?_
          rotate_left
          ·simp only [putAll, Act.put, List.setIfInBounds_toArray, List.set_cons_zero, List.set_cons_succ]
           rfl
          refine two_ (i := 3) (j := 5) (Ni := some 19) (Nj := some 6) #[true, true, true, true, true, false, false, false] #[true, true, true, false, true, true, false, false] rfl rfl rfl rfl (two_of HT_.out (by kernel_rfl)) (by decide) (by decide) (fun K hK => ?_) (fun K hK => ?_)
          ·skip
           refine gS Try.func18 #[.agg #[.bool a1_0, .slice A1_1 l1_1.length c1_1]] ?_
           with_reducible refine (whetstonelaw02_of.calls kj2 a1_0 _ _ l1_1 t704 t705 _ ?side1 ?side2 A21.out).mono ?_
           (case side1 => exact tc (Kd.C_below HR1_1.out HB.out))
           (case side2 => exact HC1_1.out)
           rintro e w28 ⟨v706, rfl, ho0, hb⟩
           refine ⟨_, rfl, ?_⟩
           have HO707 := Aside0.mk (Kd.R_lower (Kd.R_new' ho0 (Kd.R_lt (tq HO703))) (below_size (tb HB)))
           replace HO703 := re HO703 (Kd.R_base ho0) hb
           replace BK695 := kb BK695 hb
           replace BK696 := kb BK696 hb
           replace BK708 := kb BK708 hb
           replace HB := bs HB hb
           (try clear hb); (try clear hb2); (try clear hk); (try clear hi); (try clear ho0)
           refine hK.out _ _ ⟨(blk_cell BK695.out 0).trans rfl, (blk_cell BK695.out 1).trans rfl, (blk_cell BK696.out 0).trans rfl, (blk_cell BK696.out 1).trans rfl⟩ fun hHeld => nT (N := some 19) ?_
           clear hK K
           exact norm_ (by first | (simp only [putAll, Act.put, List.setIfInBounds_toArray, List.set_cons_zero, List.set_cons_succ]; done) | (simp only [putAll, Act.put, List.setIfInBounds_toArray, List.set_cons_zero, List.set_cons_succ]; rfl)) (hJ1_3_4 (v702, v706, gb708) _ ⟨hHeld, (by (with_reducible repeat first | apply qa | apply qn | apply qd); exact Kd.R_mono HO703.out (fun _ hk => hk.2)), (by (with_reducible repeat first | apply qa | apply qn | apply qd); exact Kd.R_mono HO707.out (fun _ hk => hk.2)), (tk BK695), (tk BK696), (tk BK708), GW708.out, GE708.out, NB695_708.out, NB708_695.out, NB696_708.out, NB708_696.out, (tb HB)⟩)
          ·skip
           refine box_step ?hg (N := 6) ?hd (cs := #[.bool false, .slice none 0 0]) (t := 32) ?hr ?_; (case hd => rfl); (case hg => rfl); (case hr => first | (go_simp; done) | (go_simp; rfl))
           intro gb709 hg w28 hbox hb
           have n0_ := rb HO703 hb
           have n1_ := kb BK695 hb
           have n2_ := kb BK696 hb
           have n3_ := kb BK708 hb
           have n4_ := bs HB hb
           have n5_ := Aside0.mk (hbox)
           have n6_ := bz hg HB
           have n7_ := bz hg HB
           have n8_ := nl hg BK695
           have n9_ := ng hg BK695
           have n10_ := nl hg BK696
           have n11_ := ng hg BK696
           have n12_ := nl hg BK708
           have n13_ := ng hg BK708
           clear HO703 BK695 BK696 BK708 HB
           have HO703 := n0_
           have BK695 := n1_
           have BK696 := n2_
           have BK708 := n3_
           have HB := n4_
           have BK709 := n5_
           have GW709 := n6_
           have GE709 := n7_
           have NB695_709 := n8_
           have NB709_695 := n9_
           have NB696_709 := n10_
           have NB709_696 := n11_
           have NB708_709 := n12_
           have NB709_708 := n13_
           clear n0_ n1_ n2_ n3_ n4_ n5_ n6_ n7_ n8_ n9_ n10_ n11_ n12_ n13_ hb hbox hg
           refine hK.out _ _ ⟨(blk_cell BK695.out 0).trans rfl, (blk_cell BK695.out 1).trans rfl, (blk_cell BK696.out 0).trans rfl, (blk_cell BK696.out 1).trans rfl⟩ fun hHeld => nT (N := some 6) ?_
           clear hK K
           exact norm_ (by first | (simp only [putAll, Act.put, List.setIfInBounds_toArray, List.set_cons_zero, List.set_cons_succ]; done) | (simp only [putAll, Act.put, List.setIfInBounds_toArray, List.set_cons_zero, List.set_cons_succ]; rfl)) (hJ1_4_5 (v702, gb708, gb709) _ ⟨hHeld, (tq HO703), (tk BK695), (tk BK696), (tk BK708), (tk BK709), GW708.out, GE708.out, NB695_708.out, NB708_695.out, NB696_708.out, NB708_696.out, NB709_708.out, NB708_709.out, GW709.out, GE709.out, NB695_709.out, NB709_695.out, NB696_709.out, NB709_696.out, (tb HB)⟩)
        ·skip
         rintro ⟨v702, v706⟩ w27 ⟨hS_, h0_, h1_, h2_, h3_, h4_⟩
         have n0_ : Aside0 (Kd.R (Kd.int .i64) 3 w27 w.heap.size (fun k_ => some k_ ≠ (v706 : Value).ownBlock) v702 t701) := ⟨h0_⟩
         have n1_ : Aside0 (Kd.R (Kd.int .i64) 3 w27 w.heap.size (fun k_ => some k_ ≠ (v702 : Value).ownBlock) v706 t705) := ⟨h1_⟩
         have n2_ : Aside0 (w27.heap[gb695]? = some (.cells #[.bool a0_0, .slice A0_1 l0_1.length c0_1] 24 (0, 0))) := ⟨h2_⟩
         have n3_ : Aside0 (w27.heap[gb696]? = some (.cells #[.bool a1_0, .slice A1_1 l1_1.length c1_1] 24 (0, 0))) := ⟨h3_⟩
         have n4_ : Aside0 (Below w.heap.size w w27) := ⟨h4_⟩
         clear BK695 BK696 HB h0_ h1_ h2_ h3_ h4_
         have HO703 := n0_
         have HO707 := n1_
         have BK695 := n2_
         have BK696 := n3_
         have HB := n4_
         clear n0_ n1_ n2_ n3_ n4_
         have hHeld : w27.cell? ⟨gb695, 0, none⟩ = some (.bool a0_0) ∧ w27.cell? ⟨gb695, 1, none⟩ = some (.slice A0_1 l0_1.length c0_1) ∧ w27.cell? ⟨gb696, 0, none⟩ = some (.bool a1_0) ∧ w27.cell? ⟨gb696, 1, none⟩ = some (.slice A1_1 l1_1.length c1_1) := hS_
         refine norm_ (a' := ?_) ?_ ?_
         rotate_left
         ·simp only [putAll, Act.put, List.setIfInBounds_toArray, List.set_cons_zero, List.set_cons_succ]
          rfl
         refine two_ (i := 4) (j := 5) (Ni := some 5) (Nj := some 6) #[true, true, true, true, true, false, false, false] #[true, true, true, true, false, true, false, false] rfl rfl rfl rfl (two_of HT_.out (by kernel_rfl)) (by decide) (by decide) (fun K hK => ?_) (fun K hK => ?_)
         ·skip
          refine box_step ?hg (N := 5) ?hd (cs := #[.bool false, .slice none 0 0]) (t := 32) ?hr ?_; (case hd => rfl); (case hg => rfl); (case hr => first | (go_simp; done) | (go_simp; rfl))
          intro gb708 hg w28 hbox hb
          have n0_ := rb HO703 hb
          have n1_ := rb HO707 hb
          have n2_ := kb BK695 hb
          have n3_ := kb BK696 hb
          have n4_ := bs HB hb
          have n5_ := Aside0.mk (hbox)
          have n6_ := bz hg HB
          have n7_ := bz hg HB
          have n8_ := nl hg BK695
          have n9_ := ng hg BK695
          have n10_ := nl hg BK696
          have n11_ := ng hg BK696
          clear HO703 HO707 BK695 BK696 HB
          have HO703 := n0_
          have HO707 := n1_
          have BK695 := n2_
          have BK696 := n3_
          have HB := n4_
          have BK708 := n5_
          have GW708 := n6_
          have GE708 := n7_
          have NB695_708 := n8_
          have NB708_695 := n9_
          have NB696_708 := n10_
          have NB708_696 := n11_
          clear n0_ n1_ n2_ n3_ n4_ n5_ n6_ n7_ n8_ n9_ n10_ n11_ hb hbox hg
          refine hK.out _ _ ⟨(blk_cell BK695.out 0).trans rfl, (blk_cell BK695.out 1).trans rfl, (blk_cell BK696.out 0).trans rfl, (blk_cell BK696.out 1).trans rfl⟩ fun hHeld => nT (N := some 5) ?_
          clear hK K
          exact norm_ (by first | (simp only [putAll, Act.put, List.setIfInBounds_toArray, List.set_cons_zero, List.set_cons_succ]; done) | (simp only [putAll, Act.put, List.setIfInBounds_toArray, List.set_cons_zero, List.set_cons_succ]; rfl)) (hJ1_3_4 (v702, v706, gb708) _ ⟨hHeld, (tq HO703), (tq HO707), (tk BK695), (tk BK696), (tk BK708), GW708.out, GE708.out, NB695_708.out, NB708_695.out, NB696_708.out, NB708_696.out, (tb HB)⟩)
         ·skip
          refine box_step ?hg (N := 6) ?hd (cs := #[.bool false, .slice none 0 0]) (t := 32) ?hr ?_; (case hd => rfl); (case hg => rfl); (case hr => first | (go_simp; done) | (go_simp; rfl))
          intro gb709 hg w28 hbox hb
          have n0_ := rb HO703 hb
          have n1_ := rb HO707 hb
          have n2_ := kb BK695 hb
          have n3_ := kb BK696 hb
          have n4_ := bs HB hb
          have n5_ := Aside0.mk (hbox)
          have n6_ := bz hg HB
          have n7_ := bz hg HB
          have n8_ := nl hg BK695
          have n9_ := ng hg BK695
          have n10_ := nl hg BK696
          have n11_ := ng hg BK696
          clear HO703 HO707 BK695 BK696 HB
          have HO703 := n0_
          have HO707 := n1_
          have BK695 := n2_
          have BK696 := n3_
          have HB := n4_
          have BK709 := n5_
          have GW709 := n6_
          have GE709 := n7_
          have NB695_709 := n8_
          have NB709_695 := n9_
          have NB696_709 := n10_
          have NB709_696 := n11_
          clear n0_ n1_ n2_ n3_ n4_ n5_ n6_ n7_ n8_ n9_ n10_ n11_ hb hbox hg
          refine hK.out _ _ ⟨(blk_cell BK695.out 0).trans rfl, (blk_cell BK695.out 1).trans rfl, (blk_cell BK696.out 0).trans rfl, (blk_cell BK696.out 1).trans rfl⟩ fun hHeld => nT (N := some 6) ?_
          clear hK K
          exact norm_ (by first | (simp only [putAll, Act.put, List.setIfInBounds_toArray, List.set_cons_zero, List.set_cons_succ]; done) | (simp only [putAll, Act.put, List.setIfInBounds_toArray, List.set_cons_zero, List.set_cons_succ]; rfl)) (hJ1_3_5 (v702, v706, gb709) _ ⟨hHeld, (tq HO703), (tq HO707), (tk BK695), (tk BK696), (tk BK709), GW709.out, GE709.out, NB695_709.out, NB709_695.out, NB696_709.out, NB709_696.out, (tb HB)⟩)
       ·skip
        rintro ⟨v702, gb708, gb709⟩ w28 ⟨hS_, h0_, h1_, h2_, h3_, h4_, h5_, h6_, h7_, h8_, h9_, h10_, h11_, h12_, h13_, h14_, h15_, h16_, h17_, h18_, h19_⟩
        have n0_ : Aside0 (Kd.R (Kd.int .i64) 3 w28 w.heap.size (fun _ => True) v702 t701) := ⟨h0_⟩
        have n1_ : Aside0 (w28.heap[gb695]? = some (.cells #[.bool a0_0, .slice A0_1 l0_1.length c0_1] 24 (0, 0))) := ⟨h1_⟩
        have n2_ : Aside0 (w28.heap[gb696]? = some (.cells #[.bool a1_0, .slice A1_1 l1_1.length c1_1] 24 (0, 0))) := ⟨h2_⟩
        have n3_ : Aside0 (w28.heap[gb708]? = some (.cells #[.bool false, .slice none 0 0] 32 (0, 0))) := ⟨h3_⟩
        have n4_ : Aside0 (w28.heap[gb709]? = some (.cells #[.bool false, .slice none 0 0] 32 (0, 0))) := ⟨h4_⟩
        have n5_ : Aside0 (w.heap.size ≤ gb708) := ⟨h5_⟩
        have n6_ : Aside0 (w.heap.size ≤ gb708) := ⟨h6_⟩
        have n7_ : Aside0 (gb695 ≠ gb708) := ⟨h7_⟩
        have n8_ : Aside0 (gb708 ≠ gb695) := ⟨h8_⟩
        have n9_ : Aside0 (gb696 ≠ gb708) := ⟨h9_⟩
        have n10_ : Aside0 (gb708 ≠ gb696) := ⟨h10_⟩
        have n11_ : Aside0 (gb709 ≠ gb708) := ⟨h11_⟩
        have n12_ : Aside0 (gb708 ≠ gb709) := ⟨h12_⟩
        have n13_ : Aside0 (w.heap.size ≤ gb709) := ⟨h13_⟩
        have n14_ : Aside0 (w.heap.size ≤ gb709) := ⟨h14_⟩
        have n15_ : Aside0 (gb695 ≠ gb709) := ⟨h15_⟩
        have n16_ : Aside0 (gb709 ≠ gb695) := ⟨h16_⟩
        have n17_ : Aside0 (gb696 ≠ gb709) := ⟨h17_⟩
        have n18_ : Aside0 (gb709 ≠ gb696) := ⟨h18_⟩
        have n19_ : Aside0 (Below w.heap.size w w28) := ⟨h19_⟩
        clear BK695 BK696 HB h0_ h1_ h2_ h3_ h4_ h5_ h6_ h7_ h8_ h9_ h10_ h11_ h12_ h13_ h14_ h15_ h16_ h17_ h18_ h19_
        have HO703 := n0_
        have BK695 := n1_
        have BK696 := n2_
        have BK708 := n3_
        have BK709 := n4_
        have GW708 := n5_
        have GE708 := n6_
        have NB695_708 := n7_
        have NB708_695 := n8_
        have NB696_708 := n9_
        have NB708_696 := n10_
        have NB709_708 := n11_
        have NB708_709 := n12_
        have GW709 := n13_
        have GE709 := n14_
        have NB695_709 := n15_
        have NB709_695 := n16_
        have NB696_709 := n17_
        have NB709_696 := n18_
        have HB := n19_
        clear n0_ n1_ n2_ n3_ n4_ n5_ n6_ n7_ n8_ n9_ n10_ n11_ n12_ n13_ n14_ n15_ n16_ n17_ n18_ n19_
        have hHeld : w28.cell? ⟨gb695, 0, none⟩ = some (.bool a0_0) ∧ w28.cell? ⟨gb695, 1, none⟩ = some (.slice A0_1 l0_1.length c0_1) ∧ w28.cell? ⟨gb696, 0, none⟩ = some (.bool a1_0) ∧ w28.cell? ⟨gb696, 1, none⟩ = some (.slice A1_1 l1_1.length c1_1) := hS_
        refine norm_ (a' := ?_) ?_ ?_
        rotate_left
        ·simp only [putAll, Act.put, List.setIfInBounds_toArray, List.set_cons_zero, List.set_cons_succ]
         rfl
        refine oT (i := 3) (N := some 19) (bb 8 63) HT_ fun K hK => ?_
        refine gS Try.func18 #[.agg #[.bool a1_0, .slice A1_1 l1_1.length c1_1]] ?_
        with_reducible refine (whetstonelaw02_of.calls kj2 a1_0 _ _ l1_1 t704 t705 _ ?side1 ?side2 A21.out).mono ?_
        (case side1 => exact tc (Kd.C_below HR1_1.out HB.out))
        (case side2 => exact HC1_1.out)
        rintro e w29 ⟨v706, rfl, ho0, hb⟩
        refine ⟨_, rfl, ?_⟩
        have HO707 := Aside0.mk (Kd.R_lower (Kd.R_new' ho0 (Kd.R_lt (tq HO703))) (below_size (tb HB)))
        replace HO703 := re HO703 (Kd.R_base ho0) hb
        replace BK695 := kb BK695 hb
        replace BK696 := kb BK696 hb
        replace BK708 := kb BK708 hb
        replace BK709 := kb BK709 hb
        replace HB := bs HB hb
        (try clear hb); (try clear hb2); (try clear hk); (try clear hi); (try clear ho0)
        refine hK.out _ _ ⟨(blk_cell BK695.out 0).trans rfl, (blk_cell BK695.out 1).trans rfl, (blk_cell BK696.out 0).trans rfl, (blk_cell BK696.out 1).trans rfl⟩ fun hHeld => nT (N := some 19) ?_
        clear hK K
        exact norm_ (by first | (simp only [putAll, Act.put, List.setIfInBounds_toArray, List.set_cons_zero, List.set_cons_succ]; done) | (simp only [putAll, Act.put, List.setIfInBounds_toArray, List.set_cons_zero, List.set_cons_succ]; rfl)) (hJ1_3_4_5 (v702, v706, gb708, gb709) _ ⟨hHeld, (by (with_reducible repeat first | apply qa | apply qn | apply qd); exact Kd.R_mono HO703.out (fun _ hk => hk.2)), (by (with_reducible repeat first | apply qa | apply qn | apply qd); exact Kd.R_mono HO707.out (fun _ hk => hk.2)), (tk BK695), (tk BK696), (tk BK708), (tk BK709), GW708.out, GE708.out, NB695_708.out, NB708_695.out, NB696_708.out, NB708_696.out, NB709_708.out, NB708_709.out, GW709.out, GE709.out, NB695_709.out, NB709_695.out, NB696_709.out, NB709_696.out, (tb HB)⟩)
      ·skip
       rintro ⟨v702, v706, gb709⟩ w28 ⟨hS_, h0_, h1_, h2_, h3_, h4_, h5_, h6_, h7_, h8_, h9_, h10_, h11_⟩
       have n0_ : Aside0 (Kd.R (Kd.int .i64) 3 w28 w.heap.size (fun k_ => some k_ ≠ (v706 : Value).ownBlock) v702 t701) := ⟨h0_⟩
       have n1_ : Aside0 (Kd.R (Kd.int .i64) 3 w28 w.heap.size (fun k_ => some k_ ≠ (v702 : Value).ownBlock) v706 t705) := ⟨h1_⟩
       have n2_ : Aside0 (w28.heap[gb695]? = some (.cells #[.bool a0_0, .slice A0_1 l0_1.length c0_1] 24 (0, 0))) := ⟨h2_⟩
       have n3_ : Aside0 (w28.heap[gb696]? = some (.cells #[.bool a1_0, .slice A1_1 l1_1.length c1_1] 24 (0, 0))) := ⟨h3_⟩
       have n4_ : Aside0 (w28.heap[gb709]? = some (.cells #[.bool false, .slice none 0 0] 32 (0, 0))) := ⟨h4_⟩
       have n5_ : Aside0 (w.heap.size ≤ gb709) := ⟨h5_⟩
       have n6_ : Aside0 (w.heap.size ≤ gb709) := ⟨h6_⟩
       have n7_ : Aside0 (gb695 ≠ gb709) := ⟨h7_⟩
       have n8_ : Aside0 (gb709 ≠ gb695) := ⟨h8_⟩
       have n9_ : Aside0 (gb696 ≠ gb709) := ⟨h9_⟩
       have n10_ : Aside0 (gb709 ≠ gb696) := ⟨h10_⟩
       have n11_ : Aside0 (Below w.heap.size w w28) := ⟨h11_⟩
       clear BK695 BK696 HB h0_ h1_ h2_ h3_ h4_ h5_ h6_ h7_ h8_ h9_ h10_ h11_
       have HO703 := n0_
       have HO707 := n1_
       have BK695 := n2_
       have BK696 := n3_
       have BK709 := n4_
       have GW709 := n5_
       have GE709 := n6_
       have NB695_709 := n7_
       have NB709_695 := n8_
       have NB696_709 := n9_
       have NB709_696 := n10_
       have HB := n11_
       clear n0_ n1_ n2_ n3_ n4_ n5_ n6_ n7_ n8_ n9_ n10_ n11_
       have hHeld : w28.cell? ⟨gb695, 0, none⟩ = some (.bool a0_0) ∧ w28.cell? ⟨gb695, 1, none⟩ = some (.slice A0_1 l0_1.length c0_1) ∧ w28.cell? ⟨gb696, 0, none⟩ = some (.bool a1_0) ∧ w28.cell? ⟨gb696, 1, none⟩ = some (.slice A1_1 l1_1.length c1_1) := hS_
       refine norm_ (a' := ?_) ?_ ?_
       rotate_left
       ·simp only [putAll, Act.put, List.setIfInBounds_toArray, List.set_cons_zero, List.set_cons_succ]
        rfl
       refine oT (i := 4) (N := some 5) (bb 8 63) HT_ fun K hK => ?_
       refine box_step ?hg (N := 5) ?hd (cs := #[.bool false, .slice none 0 0]) (t := 32) ?hr ?_; (case hd => rfl); (case hg => rfl); (case hr => first | (go_simp; done) | (go_simp; rfl))
       intro gb708 hg w29 hbox hb
       have n0_ := rb HO703 hb
       have n1_ := rb HO707 hb
       have n2_ := kb BK695 hb
       have n3_ := kb BK696 hb
       have n4_ := kb BK709 hb
       have n5_ := bs HB hb
       have n6_ := Aside0.mk (hbox)
       have n7_ := bz hg HB
       have n8_ := bz hg HB
       have n9_ := nl hg BK695
       have n10_ := ng hg BK695
       have n11_ := nl hg BK696
       have n12_ := ng hg BK696
       have n13_ := nl hg BK709
       have n14_ := ng hg BK709
       clear HO703 HO707 BK695 BK696 BK709 HB
       have HO703 := n0_
       have HO707 := n1_
       have BK695 := n2_
       have BK696 := n3_
       have BK709 := n4_
       have HB := n5_
       have BK708 := n6_
       have GW708 := n7_
       have GE708 := n8_
       have NB695_708 := n9_
       have NB708_695 := n10_
       have NB696_708 := n11_
       have NB708_696 := n12_
       have NB709_708 := n13_
       have NB708_709 := n14_
       clear n0_ n1_ n2_ n3_ n4_ n5_ n6_ n7_ n8_ n9_ n10_ n11_ n12_ n13_ n14_ hb hbox hg
       refine hK.out _ _ ⟨(blk_cell BK695.out 0).trans rfl, (blk_cell BK695.out 1).trans rfl, (blk_cell BK696.out 0).trans rfl, (blk_cell BK696.out 1).trans rfl⟩ fun hHeld => nT (N := some 5) ?_
       clear hK K
       exact norm_ (by first | (simp only [putAll, Act.put, List.setIfInBounds_toArray, List.set_cons_zero, List.set_cons_succ]; done) | (simp only [putAll, Act.put, List.setIfInBounds_toArray, List.set_cons_zero, List.set_cons_succ]; rfl)) (hJ1_3_4_5 (v702, v706, gb708, gb709) _ ⟨hHeld, (tq HO703), (tq HO707), (tk BK695), (tk BK696), (tk BK708), (tk BK709), GW708.out, GE708.out, NB695_708.out, NB708_695.out, NB696_708.out, NB708_696.out, NB709_708.out, NB708_709.out, GW709.out, GE709.out, NB695_709.out, NB709_695.out, NB696_709.out, NB709_696.out, (tb HB)⟩)
     ·skip
      rintro ⟨v702, v706, gb708⟩ w28 ⟨hS_, h0_, h1_, h2_, h3_, h4_, h5_, h6_, h7_, h8_, h9_, h10_, h11_⟩
      have n0_ : Aside0 (Kd.R (Kd.int .i64) 3 w28 w.heap.size (fun k_ => some k_ ≠ (v706 : Value).ownBlock) v702 t701) := ⟨h0_⟩
      have n1_ : Aside0 (Kd.R (Kd.int .i64) 3 w28 w.heap.size (fun k_ => some k_ ≠ (v702 : Value).ownBlock) v706 t705) := ⟨h1_⟩
      have n2_ : Aside0 (w28.heap[gb695]? = some (.cells #[.bool a0_0, .slice A0_1 l0_1.length c0_1] 24 (0, 0))) := ⟨h2_⟩
      have n3_ : Aside0 (w28.heap[gb696]? = some (.cells #[.bool a1_0, .slice A1_1 l1_1.length c1_1] 24 (0, 0))) := ⟨h3_⟩
      have n4_ : Aside0 (w28.heap[gb708]? = some (.cells #[.bool false, .slice none 0 0] 32 (0, 0))) := ⟨h4_⟩
      have n5_ : Aside0 (w.heap.size ≤ gb708) := ⟨h5_⟩
      have n6_ : Aside0 (w.heap.size ≤ gb708) := ⟨h6_⟩
      have n7_ : Aside0 (gb695 ≠ gb708) := ⟨h7_⟩
      have n8_ : Aside0 (gb708 ≠ gb695) := ⟨h8_⟩
      have n9_ : Aside0 (gb696 ≠ gb708) := ⟨h9_⟩
      have n10_ : Aside0 (gb708 ≠ gb696) := ⟨h10_⟩
      have n11_ : Aside0 (Below w.heap.size w w28) := ⟨h11_⟩
      clear BK695 BK696 HB h0_ h1_ h2_ h3_ h4_ h5_ h6_ h7_ h8_ h9_ h10_ h11_
      have HO703 := n0_
      have HO707 := n1_
      have BK695 := n2_
      have BK696 := n3_
      have BK708 := n4_
      have GW708 := n5_
      have GE708 := n6_
      have NB695_708 := n7_
      have NB708_695 := n8_
      have NB696_708 := n9_
      have NB708_696 := n10_
      have HB := n11_
      clear n0_ n1_ n2_ n3_ n4_ n5_ n6_ n7_ n8_ n9_ n10_ n11_
      have hHeld : w28.cell? ⟨gb695, 0, none⟩ = some (.bool a0_0) ∧ w28.cell? ⟨gb695, 1, none⟩ = some (.slice A0_1 l0_1.length c0_1) ∧ w28.cell? ⟨gb696, 0, none⟩ = some (.bool a1_0) ∧ w28.cell? ⟨gb696, 1, none⟩ = some (.slice A1_1 l1_1.length c1_1) := hS_
      refine norm_ (a' := ?_) ?_ ?_
      rotate_left
      ·simp only [putAll, Act.put, List.setIfInBounds_toArray, List.set_cons_zero, List.set_cons_succ]
       rfl
      refine oT (i := 5) (N := some 6) (bb 8 63) HT_ fun K hK => ?_
      refine box_step ?hg (N := 6) ?hd (cs := #[.bool false, .slice none 0 0]) (t := 32) ?hr ?_; (case hd => rfl); (case hg => rfl); (case hr => first | (go_simp; done) | (go_simp; rfl))
      intro gb709 hg w29 hbox hb
      have n0_ := rb HO703 hb
      have n1_ := rb HO707 hb
      have n2_ := kb BK695 hb
      have n3_ := kb BK696 hb
      have n4_ := kb BK708 hb
      have n5_ := bs HB hb
      have n6_ := Aside0.mk (hbox)
      have n7_ := bz hg HB
      have n8_ := bz hg HB
      have n9_ := nl hg BK695
      have n10_ := ng hg BK695
      have n11_ := nl hg BK696
      have n12_ := ng hg BK696
      have n13_ := nl hg BK708
      have n14_ := ng hg BK708
      clear HO703 HO707 BK695 BK696 BK708 HB
      have HO703 := n0_
      have HO707 := n1_
      have BK695 := n2_
      have BK696 := n3_
      have BK708 := n4_
      have HB := n5_
      have BK709 := n6_
      have GW709 := n7_
      have GE709 := n8_
      have NB695_709 := n9_
      have NB709_695 := n10_
      have NB696_709 := n11_
      have NB709_696 := n12_
      have NB708_709 := n13_
      have NB709_708 := n14_
      clear n0_ n1_ n2_ n3_ n4_ n5_ n6_ n7_ n8_ n9_ n10_ n11_ n12_ n13_ n14_ hb hbox hg
      refine hK.out _ _ ⟨(blk_cell BK695.out 0).trans rfl, (blk_cell BK695.out 1).trans rfl, (blk_cell BK696.out 0).trans rfl, (blk_cell BK696.out 1).trans rfl⟩ fun hHeld => nT (N := some 6) ?_
      clear hK K
      exact norm_ (by first | (simp only [putAll, Act.put, List.setIfInBounds_toArray, List.set_cons_zero, List.set_cons_succ]; done) | (simp only [putAll, Act.put, List.setIfInBounds_toArray, List.set_cons_zero, List.set_cons_succ]; rfl)) (hJ1_3_4_5 (v702, v706, gb708, gb709) _ ⟨hHeld, (tq HO703), (tq HO707), (tk BK695), (tk BK696), (tk BK708), (tk BK709), GW708.out, GE708.out, NB695_708.out, NB708_695.out, NB696_708.out, NB708_696.out, NB709_708.out, NB708_709.out, GW709.out, GE709.out, NB695_709.out, NB709_695.out, NB696_709.out, NB709_696.out, (tb HB)⟩)
    rintro ⟨v702, v706, gb708, gb709⟩ w29 ⟨hS_, h0_, h1_, h2_, h3_, h4_, h5_, h6_, h7_, h8_, h9_, h10_, h11_, h12_, h13_, h14_, h15_, h16_, h17_, h18_, h19_, h20_⟩
    have n0_ : Aside0 (Kd.R (Kd.int .i64) 3 w29 w.heap.size (fun k_ => some k_ ≠ (v706 : Value).ownBlock) v702 t701) := ⟨h0_⟩
    have n1_ : Aside0 (Kd.R (Kd.int .i64) 3 w29 w.heap.size (fun k_ => some k_ ≠ (v702 : Value).ownBlock) v706 t705) := ⟨h1_⟩
    have n2_ : Aside0 (w29.heap[gb695]? = some (.cells #[.bool a0_0, .slice A0_1 l0_1.length c0_1] 24 (0, 0))) := ⟨h2_⟩
    have n3_ : Aside0 (w29.heap[gb696]? = some (.cells #[.bool a1_0, .slice A1_1 l1_1.length c1_1] 24 (0, 0))) := ⟨h3_⟩
    have n4_ : Aside0 (w29.heap[gb708]? = some (.cells #[.bool false, .slice none 0 0] 32 (0, 0))) := ⟨h4_⟩
    have n5_ : Aside0 (w29.heap[gb709]? = some (.cells #[.bool false, .slice none 0 0] 32 (0, 0))) := ⟨h5_⟩
    have n6_ : Aside0 (w.heap.size ≤ gb708) := ⟨h6_⟩
    have n7_ : Aside0 (w.heap.size ≤ gb708) := ⟨h7_⟩
    have n8_ : Aside0 (gb695 ≠ gb708) := ⟨h8_⟩
    have n9_ : Aside0 (gb708 ≠ gb695) := ⟨h9_⟩
    have n10_ : Aside0 (gb696 ≠ gb708) := ⟨h10_⟩
    have n11_ : Aside0 (gb708 ≠ gb696) := ⟨h11_⟩
    have n12_ : Aside0 (gb709 ≠ gb708) := ⟨h12_⟩
    have n13_ : Aside0 (gb708 ≠ gb709) := ⟨h13_⟩
    have n14_ : Aside0 (w.heap.size ≤ gb709) := ⟨h14_⟩
    have n15_ : Aside0 (w.heap.size ≤ gb709) := ⟨h15_⟩
    have n16_ : Aside0 (gb695 ≠ gb709) := ⟨h16_⟩
    have n17_ : Aside0 (gb709 ≠ gb695) := ⟨h17_⟩
    have n18_ : Aside0 (gb696 ≠ gb709) := ⟨h18_⟩
    have n19_ : Aside0 (gb709 ≠ gb696) := ⟨h19_⟩
    have n20_ : Aside0 (Below w.heap.size w w29) := ⟨h20_⟩
    clear BK695 BK696 HB h0_ h1_ h2_ h3_ h4_ h5_ h6_ h7_ h8_ h9_ h10_ h11_ h12_ h13_ h14_ h15_ h16_ h17_ h18_ h19_ h20_
    have HO703 := n0_
    have HO707 := n1_
    have BK695 := n2_
    have BK696 := n3_
    have BK708 := n4_
    have BK709 := n5_
    have GW708 := n6_
    have GE708 := n7_
    have NB695_708 := n8_
    have NB708_695 := n9_
    have NB696_708 := n10_
    have NB708_696 := n11_
    have NB709_708 := n12_
    have NB708_709 := n13_
    have GW709 := n14_
    have GE709 := n15_
    have NB695_709 := n16_
    have NB709_695 := n17_
    have NB696_709 := n18_
    have NB709_696 := n19_
    have HB := n20_
    clear n0_ n1_ n2_ n3_ n4_ n5_ n6_ n7_ n8_ n9_ n10_ n11_ n12_ n13_ n14_ n15_ n16_ n17_ n18_ n19_ n20_
    have hHeld : w29.cell? ⟨gb695, 0, none⟩ = some (.bool a0_0) ∧ w29.cell? ⟨gb695, 1, none⟩ = some (.slice A0_1 l0_1.length c0_1) ∧ w29.cell? ⟨gb696, 0, none⟩ = some (.bool a1_0) ∧ w29.cell? ⟨gb696, 1, none⟩ = some (.slice A1_1 l1_1.length c1_1) := hS_
    obtain ⟨Ao31, co31, eo31⟩ := Kd.R_slice HO703.out
    (first | subst eo31 | (injection eo31 with f1_ f2_ f3_; have f4_ := f1_.symm; have f5_ := f3_.symm; clear f1_ f2_ f3_; subst f4_; subst f5_))
    obtain ⟨Ao34, co34, eo34⟩ := Kd.R_slice HO707.out
    (first | subst eo34 | (injection eo34 with f1_ f2_ f3_; have f4_ := f1_.symm; have f5_ := f3_.symm; clear f1_ f2_ f3_; subst f4_; subst f5_))
    refine norm_ (a' := ?_) ?_ ?_
    rotate_left
    ·simp only [putAll, Act.put, List.setIfInBounds_toArray, List.set_cons_zero, List.set_cons_succ]
     rfl
    refine oT (i := 6) (N := none) (bb 8 127) HT_ fun K hK => ?_
    have hs30 := bc BK708 0 (.bool false)
    have hfs30 := blk_frozen BK708.out 0
    have hns30_0 := NB695_708.out
    have hns30_1 := NB696_708.out
    have hns30_3 := NB709_708.out
    have hms30_0 := NB708_695.out
    have hms30_1 := NB708_696.out
    have hms30_3 := NB708_709.out
    have hs32 := bc BK708 1 (.slice none 0 0)
    have hfs32 := blk_frozen BK708.out 1
    have hns32_0 := NB695_708.out
    have hns32_1 := NB696_708.out
    have hns32_3 := NB709_708.out
    have hms32_0 := NB708_695.out
    have hms32_1 := NB708_696.out
    have hms32_3 := NB708_709.out
    refine skip_ (w1 := ?_) (by rfl) rfl ?_ ?_
    rotate_left
    ·go_simp
     rfl
    refine hK.out _ _ ⟨((cell_far (p := ⟨gb708, _, none⟩) NB695_708.out _).trans (((cell_far (p := ⟨gb708, _, none⟩) NB695_708.out _).trans (hHeld.1)))), ((cell_far (p := ⟨gb708, _, none⟩) NB695_708.out _).trans (((cell_far (p := ⟨gb708, _, none⟩) NB695_708.out _).trans (hHeld.2.1)))), ((cell_far (p := ⟨gb708, _, none⟩) NB696_708.out _).trans (((cell_far (p := ⟨gb708, _, none⟩) NB696_708.out _).trans (hHeld.2.2.1)))), ((cell_far (p := ⟨gb708, _, none⟩) NB696_708.out _).trans (((cell_far (p := ⟨gb708, _, none⟩) NB696_708.out _).trans (hHeld.2.2.2))))⟩ (fun hHeld => ?_)
    clear hK K
    refine oT (i := 7) (N := none) (bb 8 255) HT_ fun K hK => ?_
    have hs33 := bc BK709 0 (.bool false)
    have hfs33 := blk_frozen BK709.out 0
    have hns33_0 := NB695_709.out
    have hns33_1 := NB696_709.out
    have hns33_2 := NB708_709.out
    have hms33_0 := NB709_695.out
    have hms33_1 := NB709_696.out
    have hms33_2 := NB709_708.out
    have hs35 := bc BK709 1 (.slice none 0 0)
    have hfs35 := blk_frozen BK709.out 1
    have hns35_0 := NB695_709.out
    have hns35_1 := NB696_709.out
    have hns35_2 := NB708_709.out
    have hms35_0 := NB709_695.out
    have hms35_1 := NB709_696.out
    have hms35_2 := NB709_708.out
    refine skip_ (w1 := ?_) (by rfl) rfl ?_ ?_
    rotate_left
    ·go_simp
     rfl
    refine hK.out _ _ ⟨((cell_far (p := ⟨gb709, _, none⟩) NB695_709.out _).trans (((cell_far (p := ⟨gb709, _, none⟩) NB695_709.out _).trans (hHeld.1)))), ((cell_far (p := ⟨gb709, _, none⟩) NB695_709.out _).trans (((cell_far (p := ⟨gb709, _, none⟩) NB695_709.out _).trans (hHeld.2.1)))), ((cell_far (p := ⟨gb709, _, none⟩) NB696_709.out _).trans (((cell_far (p := ⟨gb709, _, none⟩) NB696_709.out _).trans (hHeld.2.2.1)))), ((cell_far (p := ⟨gb709, _, none⟩) NB696_709.out _).trans (((cell_far (p := ⟨gb709, _, none⟩) NB696_709.out _).trans (hHeld.2.2.2))))⟩ (fun hHeld => ?_)
    clear hK K
    refine done_ (done_of HT_.out (by kernel_rfl)) ?_
    have hnb36 := NB708_695.out
    have hnc36 := NB695_708.out
    have hnb37 := NB708_696.out
    have hnc37 := NB696_708.out
    have hnb38 := NB708_709.out
    have hnc38 := NB709_708.out
    have hcz39_0 := bc BK708 0 (.bool false)
    have hcz39_1 := bc BK708 1 (.slice none 0 0)
    have hfz39_0 := blk_frozen BK708.out 0
    have hfz39_1 := blk_frozen BK708.out 1
    have hnb40 := NB709_695.out
    have hnc40 := NB695_709.out
    have hnb41 := NB709_696.out
    have hnc41 := NB696_709.out
    have hcz42_0 := bc BK709 0 (.bool false)
    have hcz42_1 := bc BK709 1 (.slice none 0 0)
    have hfz42_0 := blk_frozen BK709.out 0
    have hfz42_1 := blk_frozen BK709.out 1
    go_upto_if 23 with (first | ((with_reducible refine gate_callee (f := 25) rfl ?_); refine gL (N := some 22) Try.func25 #[.agg #[.bool t700, .slice Ao31 t701.length co31], .agg #[.bool t704, .slice Ao34 t705.length co34]] ?_; (with_reducible refine (whetstoneref02_Cmp.calls kj2 t700 _ _ t701 t704 _ _ t705 t710 _ ?side1 ?side2 ?side3 ?side4 A22.out).mono ?_); (case side1 => refine (Kd.R_reads' (e := 3) (base := w.heap.size) (ok := fun k_ => some k_ ≠ (.slice Ao34 t705.length co34 : Value).ownBlock) (n := t701.length) (c := co31) ?_).2.2; exact (by (with_reducible repeat first | apply qa | apply qn | apply qd); exact (Kd.R_mono (Kd.R_mono (Kd.R_far (p := ⟨gb709, 1, none⟩) (Kd.R_far (p := ⟨gb709, 0, none⟩) (Kd.R_far (p := ⟨gb708, 1, none⟩) (Kd.R_far (p := ⟨gb708, 0, none⟩) (Kd.R_types (Kd.R_types HO703.out BK708.out (by decide)) BK709.out (by decide)) (fun _ hk => hk.1.2) (.bool t700)) (fun _ hk => hk.1.2) (.slice Ao31 t701.length co31)) (fun _ hk => hk.2) (.bool t704)) (fun _ hk => hk.2) (.slice Ao34 t705.length co34)) (fun _ h_ => h_.1)) (fun _ h_ => h_.1)))); (case side2 => exact (Kd.R_reads' HO703.out).2.1); (case side3 => refine (Kd.R_reads' (e := 3) (base := w.heap.size) (ok := fun k_ => some k_ ≠ (.slice Ao31 t701.length co31 : Value).ownBlock) (n := t705.length) (c := co34) ?_).2.2; exact (by (with_reducible repeat first | apply qa | apply qn | apply qd); exact (Kd.R_mono (Kd.R_mono (Kd.R_far (p := ⟨gb709, 1, none⟩) (Kd.R_far (p := ⟨gb709, 0, none⟩) (Kd.R_far (p := ⟨gb708, 1, none⟩) (Kd.R_far (p := ⟨gb708, 0, none⟩) (Kd.R_types (Kd.R_types HO707.out BK708.out (by decide)) BK709.out (by decide)) (fun _ hk => hk.1.2) (.bool t700)) (fun _ hk => hk.1.2) (.slice Ao31 t701.length co31)) (fun _ hk => hk.2) (.bool t704)) (fun _ hk => hk.2) (.slice Ao34 t705.length co34)) (fun _ h_ => h_.1)) (fun _ h_ => h_.1)))); (case side4 => exact (Kd.R_reads' HO707.out).2.1); rintro e w43 ⟨rfl, hb⟩; refine ⟨_, rfl, ?_⟩; replace HO703 := rt HO703 hb; replace HO707 := rt HO707 hb; replace BK695 := kb BK695 hb; replace BK696 := kb BK696 hb; replace BK708 := kb (o' := .cells #[.bool t700, .slice Ao31 t701.length co31] 32 (0, 0)) BK708 hb; replace BK709 := kb (o' := .cells #[.bool t704, .slice Ao34 t705.length co34] 32 (0, 0)) BK709 hb; replace HB := bs HB hb; (try clear hb); (try clear hb2); (try clear hk); (try clear hi)))
    (try simp only [Act.put, List.setIfInBounds_toArray, List.set_cons_zero, List.set_cons_succ])
    go_cut [] from 23 to 23 (fun wc => ∃ (kq : Nat) (x709000_22 : Bool) (x709001_22 : List Int) (x710000_22 : Bool) (x710001_22 : List Int) (u709001 : Value) (u710001 : Value), Aside0 (whetstonelaw02_BigChoices.j1 kq a0_0 l0_1 a1_0 l1_1 x709000_22 x709001_22 x710000_22 x710001_22 = some r) ∧ Aside0 (kq ≤ kj2) ∧ Aside0 (Kd.R (Kd.int .i64) 3 wc w.heap.size (fun k_ => some k_ ≠ (u710001 : Value).ownBlock) u709001 x709001_22) ∧ Aside0 (Kd.R (Kd.int .i64) 3 wc w.heap.size (fun k_ => some k_ ≠ (u709001 : Value).ownBlock) u710001 x710001_22) ∧ Aside0 (wc.heap[gb695]? = some (.cells #[.bool a0_0, (.slice A0_1 l0_1.length c0_1)] 24 (0, 0))) ∧ Aside0 (wc.heap[gb696]? = some (.cells #[.bool a1_0, (.slice A1_1 l1_1.length c1_1)] 24 (0, 0))) ∧ Aside0 (wc.heap[gb708]? = some (.cells #[.bool x709000_22, u709001] 32 (0, 0))) ∧ Aside0 (wc.heap[gb709]? = some (.cells #[.bool x710000_22, u710001] 32 (0, 0))) ∧ Aside0 (Below w.heap.size w wc))
    case first =>
     have H := HC23.out
     clear HC23
     by_cases c44 : t710 > 0
     ·rw [if_pos c44] at H
      have c44b0 : decide (0 < t710) = true := decide_eq_true c44
      clear c44
      (first | rw [c44b0] | rw [c44b1] | (simp only [i64_w, i32_w]; rw [c44b0]) | skip)
      have H' := Aside0.mk H
      clear H
      have hnb45 := NB709_695.out
      have hnc45 := NB695_709.out
      have hnb46 := NB709_696.out
      have hnc46 := NB696_709.out
      have hnb47 := NB709_708.out
      have hnc47 := NB708_709.out
      have hcz48_0 := bc BK709 0 (.bool t704)
      have hcz48_1 := bc BK709 1 (.slice Ao34 t705.length co34)
      have hfz48_0 := blk_frozen BK709.out 0
      have hfz48_1 := blk_frozen BK709.out 1
      have hnb49 := NB708_695.out
      have hnc49 := NB695_708.out
      have hnb50 := NB708_696.out
      have hnc50 := NB696_708.out
      have hcz51_0 := bc BK708 0 (.bool t700)
      have hcz51_1 := bc BK708 1 (.slice Ao31 t701.length co31)
      have hfz51_0 := blk_frozen BK708.out 0
      have hfz51_1 := blk_frozen BK708.out 1
      go_wp2
      go_meet
      case rel => exact ⟨_, (t704), (t705), (t700), (t701), (.slice Ao34 t705.length co34), (.slice Ao31 t701.length co31), H', ⟨by have := HJ2.out; first | omega | exact Nat.le_refl _⟩, ⟨by (with_reducible repeat first | apply qa | apply qn | apply qd); exact Kd.R_mono (Kd.R_far (p := ⟨gb709, 1, none⟩) (Kd.R_far (p := ⟨gb709, 0, none⟩) (Kd.R_far (p := ⟨gb708, 1, none⟩) (Kd.R_far (p := ⟨gb708, 0, none⟩) (Kd.R_types (Kd.R_types HO707.out BK708.out (by decide)) BK709.out (by decide)) (fun _ hk => hk.1.2) (.bool t704)) (fun _ hk => hk.1.2) (.slice Ao34 t705.length co34)) (fun _ hk => hk.2) (.bool t700)) (fun _ hk => hk.2) (.slice Ao31 t701.length co31)) (fun _ hk => hk.1.1)⟩, ⟨by (with_reducible repeat first | apply qa | apply qn | apply qd); exact Kd.R_mono (Kd.R_far (p := ⟨gb709, 1, none⟩) (Kd.R_far (p := ⟨gb709, 0, none⟩) (Kd.R_far (p := ⟨gb708, 1, none⟩) (Kd.R_far (p := ⟨gb708, 0, none⟩) (Kd.R_types (Kd.R_types HO703.out BK708.out (by decide)) BK709.out (by decide)) (fun _ hk => hk.1.2) (.bool t704)) (fun _ hk => hk.1.2) (.slice Ao34 t705.length co34)) (fun _ hk => hk.2) (.bool t700)) (fun _ hk => hk.2) (.slice Ao31 t701.length co31)) (fun _ hk => hk.1.1)⟩, ⟨tk BK695⟩, ⟨tk BK696⟩, ⟨tk BK708⟩, ⟨tk BK709⟩, ⟨tb HB⟩⟩
     ·rw [if_neg c44] at H
      have c44b0 : decide (0 < t710) = false := decide_eq_false c44
      clear c44
      (first | rw [c44b0] | rw [c44b1] | (simp only [i64_w, i32_w]; rw [c44b0]) | skip)
      have H' := Aside0.mk H
      clear H
      go_wp2
      go_meet
      case rel => exact ⟨_, (t700), (t701), (t704), (t705), (.slice Ao31 t701.length co31), (.slice Ao34 t705.length co34), H', ⟨by have := HJ2.out; first | omega | exact Nat.le_refl _⟩, ⟨tq HO703⟩, ⟨tq HO707⟩, ⟨tk BK695⟩, ⟨tk BK696⟩, ⟨tk BK708⟩, ⟨tk BK709⟩, ⟨tb HB⟩⟩
    case rest =>
     clear HC23
     (try clear c1); (try clear c2); (try clear p2); (try clear c3); (try clear c4); (try clear c5); (try clear c18); (try clear c25); (try clear c36); (try clear c37); (try clear c38); (try clear c40); (try clear c41); (try clear c44); (try clear c44b0); (try clear c45); (try clear c46); (try clear c47); (try clear c49); (try clear c50); (try clear hcz39_0); (try clear hcz39_1); (try clear hcz42_0); (try clear hcz42_1); (try clear hcz48_0); (try clear hcz48_1); (try clear hcz51_0); (try clear hcz51_1); (try clear hfz39_0); (try clear hfz39_1); (try clear hfz42_0); (try clear hfz42_1); (try clear hfz48_0); (try clear hfz48_1); (try clear hfz51_0); (try clear hfz51_1)
     obtain ⟨kq, x709000_22, x709001_22, x710000_22, x710001_22, u709001, u710001, HA, HJ22, HO_709001, HO_710001, BK695, BK696, BK708, BK709, HB⟩ := hcut
     cases kq with
     | zero => exact absurd HA.out (by simp [whetstonelaw02_BigChoices.j1])
     | succ kj22 =>
      have H := HA.out
      clear HA
      simp only [whetstonelaw02_BigChoices.j1] at H
      replace H := bi H
      obtain ⟨t711, A520, H⟩ := H
      have A52 := Aside0.mk A520
      clear A520
      by_cases c53 : t711 = true
      ·subst c53
       have H1 : ((big_Min.f kj22 a0_0 l0_1 a1_0 l1_1).bind fun bt712 => ((whetstonelaw02_same.f kj22 bt712.1 bt712.2 x709000_22 x709001_22).bind fun t716 => (if t716 = true then ((big_Max.f kj22 a0_0 l0_1 a1_0 l1_1).bind fun bt717 => ((whetstonelaw02_same.f kj22 bt717.1 bt717.2 x710000_22 x710001_22).bind fun t721 => (some t721))) else (none)))) = some r := by rw [if_pos rfl] at H; exact H
       clear H
       have H := H1
       clear H1
       replace H := bi H
       obtain ⟨⟨t712, t713⟩, A540, H⟩ := H
       try dsimp only at H
       have A54 := Aside0.mk A540
       clear A540
       replace H := bi H
       obtain ⟨t716, A550, H⟩ := H
       have A55 := Aside0.mk A550
       clear A550
       by_cases c56 : t716 = true
       ·subst c56
        have H1 : ((big_Max.f kj22 a0_0 l0_1 a1_0 l1_1).bind fun bt717 => ((whetstonelaw02_same.f kj22 bt717.1 bt717.2 x710000_22 x710001_22).bind fun t721 => (some t721))) = some r := by rw [if_pos rfl] at H; exact H
        clear H
        have H := H1
        clear H1
        replace H := bi H
        obtain ⟨⟨t717, t718⟩, A570, H⟩ := H
        try dsimp only at H
        have A57 := Aside0.mk A570
        clear A570
        replace H := bi H
        obtain ⟨t721, A580, H⟩ := H
        have A58 := Aside0.mk A580
        clear A580
        obtain rfl := Option.some.inj H
        try go_wp2
        replace HO_709001 := Aside0.mk (Kd.R_drew HO_709001.out)
        replace HO_710001 := Aside0.mk (Kd.R_drew HO_710001.out)
        replace BK695 := Aside0.mk (blk_drew BK695.out)
        replace BK696 := Aside0.mk (blk_drew BK696.out)
        replace BK708 := Aside0.mk (blk_drew BK708.out)
        replace BK709 := Aside0.mk (blk_drew BK709.out)
        replace HB := Aside0.mk (below_drew1 HB.out)
        refine start_ (n := 16) (S := fun w' => w'.cell? ⟨gb695, 0, none⟩ = some (.bool a0_0) ∧ w'.cell? ⟨gb695, 1, none⟩ = some (.slice A0_1 l0_1.length c0_1) ∧ w'.cell? ⟨gb696, 0, none⟩ = some (.bool a1_0) ∧ w'.cell? ⟨gb696, 1, none⟩ = some (.slice A1_1 l1_1.length c1_1) ∧ w'.cell? ⟨gb708, 0, none⟩ = some (.bool x709000_22) ∧ w'.cell? ⟨gb708, 1, none⟩ = some (u709001) ∧ w'.cell? ⟨gb709, 0, none⟩ = some (.bool x710000_22) ∧ w'.cell? ⟨gb709, 1, none⟩ = some (u710001)) (ds := []) #[false, false, false, false, false, false, false, false, false, false, false, false, false, false, false, false] (by kernel_rfl) rfl rfl ⟨(blk_cell BK695.out 0).trans rfl, (blk_cell BK695.out 1).trans rfl, (blk_cell BK696.out 0).trans rfl, (blk_cell BK696.out 1).trans rfl, (blk_cell BK708.out 0).trans rfl, (blk_cell BK708.out 1).trans rfl, (blk_cell BK709.out 0).trans rfl, (blk_cell BK709.out 1).trans rfl⟩ (fun hHeld => ?_); refine with_tabW whetstonelaw02_BigChoices.tab6 whetstonelaw02_BigChoices.bits6 (fun HT_ HW_ => ?_)
        generalize wc.drew = w59 at HO_709001 HO_710001 BK695 BK696 BK708 BK709 HB hHeld ⊢
        refine oT (i := 0) (N := some 26) (bb 16 1) HT_ fun K hK => ?_
        refine gS Try.func13 #[] ?_
        with_reducible refine (whetstonelaw02_signed.calls kj22  true _ A52.out).mono ?_
        rintro e w60 ⟨rfl, hb⟩
        refine ⟨_, rfl, ?_⟩
        replace HO_709001 := rb HO_709001 hb
        replace HO_710001 := rb HO_710001 hb
        replace BK695 := kb BK695 hb
        replace BK696 := kb BK696 hb
        replace BK708 := kb BK708 hb
        replace BK709 := kb BK709 hb
        replace HB := bs HB hb
        (try clear hb); (try clear hb2); (try clear hk); (try clear hi)
        refine hK.out _ _ ⟨(blk_cell BK695.out 0).trans rfl, (blk_cell BK695.out 1).trans rfl, (blk_cell BK696.out 0).trans rfl, (blk_cell BK696.out 1).trans rfl, (blk_cell BK708.out 0).trans rfl, (blk_cell BK708.out 1).trans rfl, (blk_cell BK709.out 0).trans rfl, (blk_cell BK709.out 1).trans rfl⟩ fun hHeld => nT (N := some 26) ?_
        clear hK K
        refine pT (i := 1) (N := some 27) (bb 16 3) HT_ ?_
        refine tW (i := 2) (N := some 28) (bb 16 7) HT_ HW_ hHeld ?_
        refine tW (i := 3) (N := some 29) (bb 16 15) HT_ HW_ hHeld ?_
        refine tW (i := 5) (N := some 31) (bb 16 47) HT_ HW_ hHeld ?_
        refine oT (i := 4) (N := some 30) (bb 16 63) HT_ fun K hK => ?_
        refine gS Try.func49 #[.agg #[.bool a0_0, .slice A0_1 l0_1.length c0_1], .agg #[.bool a1_0, .slice A1_1 l1_1.length c1_1]] ?_
        with_reducible refine (big_Min.calls kj22 a0_0 _ _ l0_1 a1_0 _ _ l1_1 t712 t713 _ ?side1 ?side2 ?side3 ?side4 A54.out).mono ?_
        (case side1 => exact tc (Kd.C_below HR0_1.out HB.out))
        (case side2 => exact HC0_1.out)
        (case side3 => exact tc (Kd.C_below HR1_1.out HB.out))
        (case side4 => exact HC1_1.out)
        rintro e w61 ⟨v714, rfl, ho0, hb⟩
        refine ⟨_, rfl, ?_⟩
        replace HO_709001 := rb HO_709001 hb
        replace HO_710001 := rb HO_710001 hb
        have HO715 := rl ho0 HB
        replace BK695 := kb BK695 hb
        replace BK696 := kb BK696 hb
        replace BK708 := kb BK708 hb
        replace BK709 := kb BK709 hb
        replace HB := bs HB hb
        (try clear hb); (try clear hb2); (try clear hk); (try clear hi); (try clear ho0)
        obtain ⟨Ao62, co62, eo62⟩ := Kd.R_slice HO715.out
        (first | subst eo62 | (injection eo62 with f1_ f2_ f3_; have f4_ := f1_.symm; have f5_ := f3_.symm; clear f1_ f2_ f3_; subst f4_; subst f5_))
        obtain ⟨Ao63, co63, eo63⟩ := Kd.R_slice HO_709001.out
        (first | subst eo63 | (injection eo63 with f1_ f2_ f3_; have f4_ := f1_.symm; have f5_ := f3_.symm; clear f1_ f2_ f3_; subst f4_; subst f5_))
        refine hK.out _ _ ⟨(blk_cell BK695.out 0).trans rfl, (blk_cell BK695.out 1).trans rfl, (blk_cell BK696.out 0).trans rfl, (blk_cell BK696.out 1).trans rfl, (blk_cell BK708.out 0).trans rfl, (blk_cell BK708.out 1).trans rfl, (blk_cell BK709.out 0).trans rfl, (blk_cell BK709.out 1).trans rfl⟩ fun hHeld => nT (N := some 30) ?_
        clear hK K
        refine oT (i := 6) (N := some 32) (bb 16 127) HT_ fun K hK => ?_
        refine gS Try.func19 #[.agg #[.bool t712, .slice Ao62 t713.length co62], .agg #[.bool x709000_22, .slice Ao63 x709001_22.length co63]] ?_
        with_reducible refine (whetstonelaw02_same.calls kj22 t712 _ _ t713 x709000_22 _ _ x709001_22 true _ ?side1 ?side2 ?side3 ?side4 A55.out).mono ?_
        (case side1 => exact tc (Kd.R_reads' HO715.out).2.2)
        (case side2 => exact (Kd.R_reads' HO715.out).2.1)
        (case side3 => exact tc (Kd.R_reads' HO_709001.out).2.2)
        (case side4 => exact (Kd.R_reads' HO_709001.out).2.1)
        rintro e w64 ⟨rfl, hb⟩
        refine ⟨_, rfl, ?_⟩
        replace HO_710001 := rb HO_710001 hb
        replace HO715 := rb HO715 hb
        replace BK695 := kb BK695 hb
        replace BK696 := kb BK696 hb
        replace BK708 := kb BK708 hb
        replace BK709 := kb BK709 hb
        replace HB := bs HB hb
        (try clear hb); (try clear hb2); (try clear hk); (try clear hi)
        refine hK.out _ _ ⟨(blk_cell BK695.out 0).trans rfl, (blk_cell BK695.out 1).trans rfl, (blk_cell BK696.out 0).trans rfl, (blk_cell BK696.out 1).trans rfl, (blk_cell BK708.out 0).trans rfl, (blk_cell BK708.out 1).trans rfl, (blk_cell BK709.out 0).trans rfl, (blk_cell BK709.out 1).trans rfl⟩ fun hHeld => nT (N := some 32) ?_
        clear hK K
        refine pT (i := 7) (N := some 33) (bb 16 255) HT_ ?_
        refine pT (i := 8) (N := some 34) (bb 16 511) HT_ ?_
        refine tW (i := 9) (N := some 35) (bb 16 1023) HT_ HW_ hHeld ?_
        refine tW (i := 10) (N := some 36) (bb 16 2047) HT_ HW_ hHeld ?_
        refine tW (i := 12) (N := some 38) (bb 16 6143) HT_ HW_ hHeld ?_
        refine oT (i := 11) (N := some 37) (bb 16 8191) HT_ fun K hK => ?_
        refine gS Try.func50 #[.agg #[.bool a0_0, .slice A0_1 l0_1.length c0_1], .agg #[.bool a1_0, .slice A1_1 l1_1.length c1_1]] ?_
        with_reducible refine (big_Max.calls kj22 a0_0 _ _ l0_1 a1_0 _ _ l1_1 t717 t718 _ ?side1 ?side2 ?side3 ?side4 A57.out).mono ?_
        (case side1 => exact tc (Kd.C_below HR0_1.out HB.out))
        (case side2 => exact HC0_1.out)
        (case side3 => exact tc (Kd.C_below HR1_1.out HB.out))
        (case side4 => exact HC1_1.out)
        rintro e w65 ⟨v719, rfl, ho0, hb⟩
        refine ⟨_, rfl, ?_⟩
        replace HO_710001 := rb HO_710001 hb
        have HO720 := Aside0.mk (Kd.R_lower (Kd.R_new' ho0 (Kd.R_lt (tq HO715))) (below_size (tb HB)))
        replace BK695 := kb BK695 hb
        replace BK696 := kb BK696 hb
        replace BK708 := kb BK708 hb
        replace BK709 := kb BK709 hb
        replace HB := bs HB hb
        (try clear hb); (try clear hb2); (try clear hk); (try clear hi); (try clear ho0)
        obtain ⟨Ao66, co66, eo66⟩ := Kd.R_slice HO720.out
        (first | subst eo66 | (injection eo66 with f1_ f2_ f3_; have f4_ := f1_.symm; have f5_ := f3_.symm; clear f1_ f2_ f3_; subst f4_; subst f5_))
        obtain ⟨Ao67, co67, eo67⟩ := Kd.R_slice HO_710001.out
        (first | subst eo67 | (injection eo67 with f1_ f2_ f3_; have f4_ := f1_.symm; have f5_ := f3_.symm; clear f1_ f2_ f3_; subst f4_; subst f5_))
        refine hK.out _ _ ⟨(blk_cell BK695.out 0).trans rfl, (blk_cell BK695.out 1).trans rfl, (blk_cell BK696.out 0).trans rfl, (blk_cell BK696.out 1).trans rfl, (blk_cell BK708.out 0).trans rfl, (blk_cell BK708.out 1).trans rfl, (blk_cell BK709.out 0).trans rfl, (blk_cell BK709.out 1).trans rfl⟩ fun hHeld => nT (N := some 37) ?_
        clear hK K
        refine oT (i := 13) (N := some 39) (bb 16 16383) HT_ fun K hK => ?_
        refine gS Try.func19 #[.agg #[.bool t717, .slice Ao66 t718.length co66], .agg #[.bool x710000_22, .slice Ao67 x710001_22.length co67]] ?_
        with_reducible refine (whetstonelaw02_same.calls kj22 t717 _ _ t718 x710000_22 _ _ x710001_22 t721 _ ?side1 ?side2 ?side3 ?side4 A58.out).mono ?_
        (case side1 => exact tc (Kd.R_reads' HO720.out).2.2)
        (case side2 => exact (Kd.R_reads' HO720.out).2.1)
        (case side3 => exact tc (Kd.R_reads' HO_710001.out).2.2)
        (case side4 => exact (Kd.R_reads' HO_710001.out).2.1)
        rintro e w68 ⟨rfl, hb⟩
        refine ⟨_, rfl, ?_⟩
        replace BK695 := kb BK695 hb
        replace BK696 := kb BK696 hb
        replace BK708 := kb BK708 hb
        replace BK709 := kb BK709 hb
        replace HB := bs HB hb
        (try clear hb); (try clear hb2); (try clear hk); (try clear hi)
        refine hK.out _ _ ⟨(blk_cell BK695.out 0).trans rfl, (blk_cell BK695.out 1).trans rfl, (blk_cell BK696.out 0).trans rfl, (blk_cell BK696.out 1).trans rfl, (blk_cell BK708.out 0).trans rfl, (blk_cell BK708.out 1).trans rfl, (blk_cell BK709.out 0).trans rfl, (blk_cell BK709.out 1).trans rfl⟩ fun hHeld => nT (N := some 39) ?_
        clear hK K
        refine pT (i := 14) (N := some 40) (bb 16 32767) HT_ ?_
        refine pT (i := 15) (N := some 4) (bb 16 65535) HT_ ?_
        refine done_ (done_of HT_.out (by kernel_rfl)) ?_
        try go_wp2
        go_ret
        exact ⟨by first | rfl | (simp [errW_none, errW_some] <;> rfl) | (simp [*, errW_none, errW_some] <;> rfl), tb HB⟩
       ·replace c56 := Bool.eq_false_iff.mpr c56
        subst c56
        have H1 : (none) = some r := by rw [if_neg (show ¬ (false = true) by decide)] at H; exact H
        clear H
        have H := H1
        clear H1
        exact absurd H (by simp)
      ·replace c53 := Bool.eq_false_iff.mpr c53
       subst c53
       have H1 : (none) = some r := by rw [if_neg (show ¬ (false = true) by decide)] at H; exact H
       clear H
       have H := H1
       clear H1
       exact absurd H (by simp)

/-- THE ONE PURE STATEMENT of whetstonelaw02_BigChoices: yours. -/
def whetstonelaw02_BigChoices.Pure : Prop := ∀ (a0_0 : Bool) (l0_1 : List Int) (a1_0 : Bool) (l1_1 : List Int), l0_1.length ≤ maxLen → (∀ x ∈ l0_1, (Lit.int .u32 x).wf = true) → l1_1.length ≤ maxLen → (∀ x ∈ l1_1, (Lit.int .u32 x).wf = true) → ∃ k, whetstonelaw02_BigChoices.f k a0_0 l0_1 a1_0 l1_1 = some true
theorem whetstonelaw02_BigChoices.walk (P : whetstonelaw02_BigChoices.Pure) (a0_0 : Bool) (A0_1 : Option Addr) (n0_1 c0_1 : Nat) (z0_1 : List Int) (a1_0 : Bool) (A1_1 : Option Addr) (n1_1 c1_1 : Nat) (z1_1 : List Int) (w : World) (w0_1 : (A0_1 = none ∧ n0_1 = 0 ∧ c0_1 = 0 ∧ z0_1 = []) ∨ ∃ x, A0_1 = some x ∧ n0_1 ≤ c0_1 ∧ c0_1 ≤ maxLen ∧ z0_1.length = c0_1 ∧ (∀ i, i < z0_1.length → w.cell? (x.add i) = some (.int .u32 (z0_1.getD i 0))) ∧ ∀ n ∈ z0_1, (Lit.int .u32 n).wf = true) (w1_1 : (A1_1 = none ∧ n1_1 = 0 ∧ c1_1 = 0 ∧ z1_1 = []) ∨ ∃ x, A1_1 = some x ∧ n1_1 ≤ c1_1 ∧ c1_1 ≤ maxLen ∧ z1_1.length = c1_1 ∧ (∀ i, i < z1_1.length → w.cell? (x.add i) = some (.int .u32 (z1_1.getD i 0))) ∧ ∀ n ∈ z1_1, (Lit.int .u32 n).wf = true) :
  Calls Try.prog 10 #[.agg #[.bool a0_0, .slice A0_1 n0_1 c0_1], .agg #[.bool a1_0, .slice A1_1 n1_1 c1_1]] w fun e w' => e = .returned (.bool true) ∧ Below w.heap.size w w' := by
 obtain ⟨l0_1, rfl, hr0_1, hm0_1, hw0_1, hc0_1⟩ := ReadsInt.ofRowC w0_1
 obtain ⟨l1_1, rfl, hr1_1, hm1_1, hw1_1, hc1_1⟩ := ReadsInt.ofRowC w1_1
 obtain ⟨k, h⟩ := P a0_0 l0_1 a1_0 l1_1 hm0_1 hw0_1 hm1_1 hw1_1
 refine (whetstonelaw02_BigChoices.calls k a0_0 _ _ l0_1 a1_0 _ _ l1_1 true w (Kd.C_of_reads (d := (0 : Int)) (h1 := fun _ => rfl) hr0_1) hc0_1 (Kd.C_of_reads (d := (0 : Int)) (h1 := fun _ => rfl) hr1_1) hc1_1 h).mono ?_
 rintro e w' ⟨rfl, hd⟩
 exact ⟨rfl, hd⟩

end Go.Proofs.Ytjpnaapimnoamaa.QBigChoices
