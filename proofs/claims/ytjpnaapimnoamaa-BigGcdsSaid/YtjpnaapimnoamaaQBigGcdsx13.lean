-- written by wip/wprint, a program of this session
import Derived.Test.YtjpnaapimnoamaaQBigGcdsx0
import Derived.Test.YtjpnaapimnoamaaQBigGcdsx4
import Derived.Test.YtjpnaapimnoamaaQBigGcdsx10
import Derived.Test.YtjpnaapimnoamaaQBigGcdsx12
namespace Go.Proofs.Ytjpnaapimnoamaa.QBigGcds
open Go.RowKit Go.Proofs.YtjpnaapimnoamaaW.PrintWords Go.Proofs.YtjpnaapimnoamaaW.PrintLast Go.Proofs.YtjpnaapimnoamaaW.PrintMore
open Go.Proofs.YtjpnaapimnoamaaW.PrintWords.Kd renaming R_alloc → qa, R_drewN → qn, R_drew → qd, V_alloc → va, V_drewN → vn, V_drew → vd
open Go.Proofs.YtjpnaapimnoamaaW.PrintWords renaming below_alloc → ba, pw_below_drewN → bn, below_drew1 → bd
attribute [local go_sem] max2_int min2_int max_two min_two max_three min_three max_four min_four   -- for this text's walks alone
set_option linter.unusedVariables false
set_option linter.unusedSimpArgs false

/-! ### big_DivMod: function 33 -/
def big_DivMod.f (k : Nat) (a0_0 : Bool) (l0_1 : List Int) (a1_0 : Bool) (l1_1 : List Int) : Option (Bool × List Int × Bool × List Int × Int) := (nat_DivMod.f k l0_1 l1_1).bind fun bt509 => (if bt509.2.2 = 0 then ((big_norm.f k (a0_0 != a1_0) bt509.1).bind fun bt516 => ((big_norm.f k a0_0 bt509.2.1).bind fun bt520 => ((big_Sign.f k bt520.1 bt520.2).bind fun t524 => (if t524 < 0 then ((big_Abs.f k a1_0 l1_1).bind fun bt525 => ((big_Add.f k bt520.1 bt520.2 bt525.1 bt525.2).bind fun bt529 => ((big_Sign.f k a1_0 l1_1).bind fun t533 => ((big_Of.f k t533).bind fun bt534 => ((big_Sub.f k bt516.1 bt516.2 bt534.1 bt534.2).bind fun bt538 => (some (bt538.1, bt538.2, bt529.1, bt529.2, 0))))))) else (some (bt516.1, bt516.2, bt520.1, bt520.2, 0)))))) else (some (false, ([] : List Int), false, ([] : List Int), bt509.2.2)))
theorem big_DivMod.mono : ∀ a0 a1 a2 a3 k, LeO (big_DivMod.f k a0 a1 a2 a3) (big_DivMod.f (k + 1) a0 a1 a2 a3) := by
 intro a0 a1 a2 a3 k
 unfold big_DivMod.f
 repeat' with_reducible first | exact big_Abs.mono _ _ _ | exact big_Add.mono _ _ _ _ _ | exact big_Of.mono _ _ | exact big_Sign.mono _ _ _ | exact big_Sub.mono _ _ _ _ _ | exact big_norm.mono _ _ _ | exact nat_DivMod.mono _ _ _ | exact LeO.refl _ | exact LeO.none _ | refine LeO.ite ?_ ?_ | refine LeO.bind ?_ (fun _ => ?_)
def big_DivMod.T4 : Bool × List (List Nat × List Nat) := (true, [([], []), ([0], [0]), ([], []), ([2], [2]), ([1, 3], [1, 3]), ([], []), ([4, 5], [4, 5]), ([], []), ([7], [7]), ([], []), ([8, 9, 6], [8, 9]), ([6, 10, 0, 1, 2, 3, 4, 5, 6], [6]), ([10, 11, 0, 1, 2, 3, 4, 5, 6, 7, 8, 9, 10, 11], [10])])
def big_DivMod.B4 : List Nat := [0, 1, 0, 4, 15, 0, 63, 0, 128, 0, 1023, 2047, 4095]
theorem big_DivMod.tab4 : rtab .any (opsOf Try.f33 4) = big_DivMod.T4 := by kernel_rfl
theorem big_DivMod.bits4 : waitsOk big_DivMod.T4.2 big_DivMod.B4 = true := by kernel_rfl
set_option maxHeartbeats 8000000 in
set_option maxRecDepth 100000 in
theorem big_DivMod.calls (k : Nat) (a0_0 : Bool) (A0_1 : Option Addr) (c0_1 : Nat) (l0_1 : List Int) (a1_0 : Bool) (A1_1 : Option Addr) (c1_1 : Nat) (l1_1 : List Int) (r1 : Bool) (r2 : List Int) (r3 : Bool) (r4 : List Int) (r5 : Int) (w : World) (hr0_1 : Kd.C (Kd.int .u32) w A0_1 l0_1.length l0_1) (hc0_1 : l0_1.length ≤ c0_1) (hr1_1 : Kd.C (Kd.int .u32) w A1_1 l1_1.length l1_1) (hc1_1 : l1_1.length ≤ c1_1) (h : big_DivMod.f k a0_0 l0_1 a1_0 l1_1 = some (r1, r2, r3, r4, r5)) :
  Calls Try.prog 33 #[.agg #[.bool a0_0, .slice A0_1 l0_1.length c0_1], .agg #[.bool a1_0, .slice A1_1 l1_1.length c1_1]] w fun e w' => ∃ v1_ v3_ : Value, e = .returned (.tuple #[.agg #[.bool r1, v1_], .agg #[.bool r3, v3_], .int .i64 r5]) ∧ Kd.R (Kd.int .u32) 87 w' w.heap.size (fun k_ => some k_ ≠ (v3_ : Value).ownBlock) v1_ r2 ∧ Kd.R (Kd.int .u32) 87 w' w.heap.size (fun k_ => some k_ ≠ (v1_ : Value).ownBlock) v3_ r4 ∧ Below w.heap.size w w' := by
 have hu24 := Try.underlying24
 have HR0_1 := Aside0.mk hr0_1
 have HC0_1 := Aside0.mk hc0_1
 clear hr0_1 hc0_1
 have HR1_1 := Aside0.mk hr1_1
 have HC1_1 := Aside0.mk hc1_1
 clear hr1_1 hc1_1
 have HB := Aside0.mk (Below.refl w.heap.size w)
 have H : ((nat_DivMod.f k l0_1 l1_1).bind fun bt509 => (if bt509.2.2 = 0 then ((big_norm.f k (a0_0 != a1_0) bt509.1).bind fun bt516 => ((big_norm.f k a0_0 bt509.2.1).bind fun bt520 => ((big_Sign.f k bt520.1 bt520.2).bind fun t524 => (if t524 < 0 then ((big_Abs.f k a1_0 l1_1).bind fun bt525 => ((big_Add.f k bt520.1 bt520.2 bt525.1 bt525.2).bind fun bt529 => ((big_Sign.f k a1_0 l1_1).bind fun t533 => ((big_Of.f k t533).bind fun bt534 => ((big_Sub.f k bt516.1 bt516.2 bt534.1 bt534.2).bind fun bt538 => (some (bt538.1, bt538.2, bt529.1, bt529.2, 0))))))) else (some (bt516.1, bt516.2, bt520.1, bt520.2, 0)))))) else (some (false, ([] : List Int), false, ([] : List Int), bt509.2.2)))) = some (r1, r2, r3, r4, r5) := h
 clear h
 replace H := bi H
 obtain ⟨⟨t509, t512, t515⟩, A30, H⟩ := H
 try dsimp only at H
 have A3 := Aside0.mk A30
 clear A30
 by_cases c4 : t515 = 0
 ·rw [if_pos c4] at H
  have c4b0 : (t515 == 0) = true := beq_iff_eq.mpr c4
  have c4b1 : (t515 != 0) = false := bne_eq_false_iff_eq.mpr c4
  clear c4
  replace H := bi H
  obtain ⟨⟨t516, t517⟩, A50, H⟩ := H
  try dsimp only at H
  have A5 := Aside0.mk A50
  clear A50
  replace H := bi H
  obtain ⟨⟨t520, t521⟩, A60, H⟩ := H
  try dsimp only at H
  have A6 := Aside0.mk A60
  clear A60
  replace H := bi H
  obtain ⟨t524, A70, H⟩ := H
  have A7 := Aside0.mk A70
  clear A70
  by_cases c8 : t524 < 0
  ·rw [if_pos c8] at H
   have c8b0 : decide (t524 < 0) = true := decide_eq_true c8
   clear c8
   replace H := bi H
   obtain ⟨⟨t525, t526⟩, A90, H⟩ := H
   try dsimp only at H
   have A9 := Aside0.mk A90
   clear A90
   replace H := bi H
   obtain ⟨⟨t529, t530⟩, A100, H⟩ := H
   try dsimp only at H
   have A10 := Aside0.mk A100
   clear A100
   replace H := bi H
   obtain ⟨t533, A110, H⟩ := H
   have A11 := Aside0.mk A110
   clear A110
   replace H := bi H
   obtain ⟨⟨t534, t535⟩, A120, H⟩ := H
   try dsimp only at H
   have A12 := Aside0.mk A120
   clear A120
   replace H := bi H
   obtain ⟨⟨t538, t539⟩, A130, H⟩ := H
   try dsimp only at H
   have A13 := Aside0.mk A130
   clear A130
   simp only [Option.some.injEq, Prod.mk.injEq] at H
   obtain ⟨rfl, rfl, rfl, rfl, rfl⟩ := H
   go_enter Try.func33, Try.ntmps33
   try go_wp2_with (first | ((with_reducible refine gate_dst (N := 2) rfl ?_); refine bx (N := 2) #[.bool a0_0, .slice A0_1 l0_1.length c0_1] 24 ?_; intro gb505 hg w14 hbox hb; have BK505 := Aside0.mk (hbox); have GW505 := bz hg HB; have GE505 := bz hg HB; replace HB := bs HB hb; clear hb hbox hg) | ((with_reducible refine gate_dst (N := 3) rfl ?_); refine bx (N := 3) #[.bool a1_0, .slice A1_1 l1_1.length c1_1] 24 ?_; intro gb506 hg w15 hbox hb; have BK506 := Aside0.mk (hbox); have GW506 := bz hg HB; have GE506 := bz hg HB; replace HB := bs HB hb; have NB505_506 := nl hg BK505; have NB506_505 := ng hg BK505; replace BK505 := kb BK505 hb; clear hb hbox hg) | ((with_reducible refine gate_dst (N := 4) rfl ?_); refine bx (N := 4) #[.bool false, .slice none 0 0] 24 ?_; intro gb507 hg w16 hbox hb; have BK507 := Aside0.mk (hbox); have GW507 := bz hg HB; have GE507 := bz hg HB; replace HB := bs HB hb; have NB505_507 := nl hg BK505; have NB507_505 := ng hg BK505; replace BK505 := kb BK505 hb; have NB506_507 := nl hg BK506; have NB507_506 := ng hg BK506; replace BK506 := kb BK506 hb; clear hb hbox hg) | ((with_reducible refine gate_dst (N := 5) rfl ?_); refine bx (N := 5) #[.bool false, .slice none 0 0] 24 ?_; intro gb508 hg w17 hbox hb; have BK508 := Aside0.mk (hbox); have GW508 := bz hg HB; have GE508 := bz hg HB; replace HB := bs HB hb; have NB505_508 := nl hg BK505; have NB508_505 := ng hg BK505; replace BK505 := kb BK505 hb; have NB506_508 := nl hg BK506; have NB508_506 := ng hg BK506; replace BK506 := kb BK506 hb; have NB507_508 := nl hg BK507; have NB508_507 := ng hg BK507; replace BK507 := kb BK507 hb; clear hb hbox hg; have hnb18 := NB505_506.out; have hnc18 := NB506_505.out; have hnb19 := NB505_507.out; have hnc19 := NB507_505.out; have hnb20 := NB505_508.out; have hnc20 := NB508_505.out; have hcz21_0 := bc BK505 0 (.bool a0_0); have hcz21_1 := bc BK505 1 (.slice A0_1 l0_1.length c0_1); have hfz21_0 := blk_frozen BK505.out 0; have hfz21_1 := blk_frozen BK505.out 1; have hnb22 := NB506_507.out; have hnc22 := NB507_506.out; have hnb23 := NB506_508.out; have hnc23 := NB508_506.out; have hcz24_0 := bc BK506 0 (.bool a1_0); have hcz24_1 := bc BK506 1 (.slice A1_1 l1_1.length c1_1); have hfz24_0 := blk_frozen BK506.out 0; have hfz24_1 := blk_frozen BK506.out 1) | ((with_reducible refine gate_callee (f := 67) rfl ?_); refine gL (N := some 14) Try.func67 #[.slice A0_1 l0_1.length c0_1, .slice A1_1 l1_1.length c1_1] ?_; (with_reducible refine (nat_DivMod.calls k (fun k_ => k_ < w.heap.size) _ _ l0_1 (fun k_ => k_ < w.heap.size) _ _ l1_1 t509 t512 t515 _ ?side1 ?side2 A3.out).mono ?_); (case side1 => exact Kd.V_mk HC0_1.out (Kd.F_below (Kd.C_F (Kd.heap_int .u32) HR0_1.out) (tb HB))); (case side2 => exact Kd.V_mk HC1_1.out (Kd.F_below (Kd.C_F (Kd.heap_int .u32) HR1_1.out) (tb HB))); rintro e w25 ⟨v510, v513, rfl, ho0, ho1, hb⟩; refine ⟨_, rfl, ?_⟩; have HO511 := Aside0.mk (Kd.V_lower (Kd.V_mono (ok' := fun k_ => k_ ≠ gb505 ∧ k_ ≠ gb506 ∧ k_ ≠ gb507 ∧ k_ ≠ gb508) ho0 (fun k_ hk_ => ⟨Or.elim hk_ (fun hs_ => Or.elim hs_ (fun hs_ => fun e_ => Nat.not_le.2 hs_ (by rw [e_]; exact GW505.out)) (fun hs_ => fun e_ => Nat.not_le.2 hs_ (by rw [e_]; exact GW505.out))) (fun hn_ => (Kd.freshB (g := gb505) (o := .cells #[.bool a0_0, .slice A0_1 l0_1.length c0_1] 24 (0, 0)) (tk BK505) k_ hn_)), Or.elim hk_ (fun hs_ => Or.elim hs_ (fun hs_ => fun e_ => Nat.not_le.2 hs_ (by rw [e_]; exact GW506.out)) (fun hs_ => fun e_ => Nat.not_le.2 hs_ (by rw [e_]; exact GW506.out))) (fun hn_ => (Kd.freshB (g := gb506) (o := .cells #[.bool a1_0, .slice A1_1 l1_1.length c1_1] 24 (0, 0)) (tk BK506) k_ hn_)), Or.elim hk_ (fun hs_ => Or.elim hs_ (fun hs_ => fun e_ => Nat.not_le.2 hs_ (by rw [e_]; exact GW507.out)) (fun hs_ => fun e_ => Nat.not_le.2 hs_ (by rw [e_]; exact GW507.out))) (fun hn_ => (Kd.freshB (g := gb507) (o := .cells #[.bool false, .slice none 0 0] 24 (0, 0)) (tk BK507) k_ hn_)), Or.elim hk_ (fun hs_ => Or.elim hs_ (fun hs_ => fun e_ => Nat.not_le.2 hs_ (by rw [e_]; exact GW508.out)) (fun hs_ => fun e_ => Nat.not_le.2 hs_ (by rw [e_]; exact GW508.out))) (fun hn_ => (Kd.freshB (g := gb508) (o := .cells #[.bool false, .slice none 0 0] 24 (0, 0)) (tk BK508) k_ hn_))⟩)) (below_size (tb HB))); have HO514 := Aside0.mk (Kd.V_lower (Kd.V_mono (ok' := fun k_ => k_ ≠ gb505 ∧ k_ ≠ gb506 ∧ k_ ≠ gb507 ∧ k_ ≠ gb508) ho1 (fun k_ hk_ => ⟨Or.elim hk_ (fun hs_ => Or.elim hs_ (fun hs_ => fun e_ => Nat.not_le.2 hs_ (by rw [e_]; exact GW505.out)) (fun hs_ => fun e_ => Nat.not_le.2 hs_ (by rw [e_]; exact GW505.out))) (fun hn_ => (Kd.freshB (g := gb505) (o := .cells #[.bool a0_0, .slice A0_1 l0_1.length c0_1] 24 (0, 0)) (tk BK505) k_ hn_)), Or.elim hk_ (fun hs_ => Or.elim hs_ (fun hs_ => fun e_ => Nat.not_le.2 hs_ (by rw [e_]; exact GW506.out)) (fun hs_ => fun e_ => Nat.not_le.2 hs_ (by rw [e_]; exact GW506.out))) (fun hn_ => (Kd.freshB (g := gb506) (o := .cells #[.bool a1_0, .slice A1_1 l1_1.length c1_1] 24 (0, 0)) (tk BK506) k_ hn_)), Or.elim hk_ (fun hs_ => Or.elim hs_ (fun hs_ => fun e_ => Nat.not_le.2 hs_ (by rw [e_]; exact GW507.out)) (fun hs_ => fun e_ => Nat.not_le.2 hs_ (by rw [e_]; exact GW507.out))) (fun hn_ => (Kd.freshB (g := gb507) (o := .cells #[.bool false, .slice none 0 0] 24 (0, 0)) (tk BK507) k_ hn_)), Or.elim hk_ (fun hs_ => Or.elim hs_ (fun hs_ => fun e_ => Nat.not_le.2 hs_ (by rw [e_]; exact GW508.out)) (fun hs_ => fun e_ => Nat.not_le.2 hs_ (by rw [e_]; exact GW508.out))) (fun hn_ => (Kd.freshB (g := gb508) (o := .cells #[.bool false, .slice none 0 0] 24 (0, 0)) (tk BK508) k_ hn_))⟩)) (below_size (tb HB))); replace BK505 := kb BK505 hb; replace BK506 := kb BK506 hb; replace BK507 := kb BK507 hb; replace BK508 := kb BK508 hb; replace HB := bs HB hb; (try clear hb); (try clear hb2); (try clear hk); (try clear hi); (try clear ho0); (try clear ho1)))
   replace HO511 := Aside0.mk (Kd.V_drew HO511.out)
   replace HO514 := Aside0.mk (Kd.V_drew HO514.out)
   replace BK505 := Aside0.mk (blk_drew BK505.out)
   replace BK506 := Aside0.mk (blk_drew BK506.out)
   replace BK507 := Aside0.mk (blk_drew BK507.out)
   replace BK508 := Aside0.mk (blk_drew BK508.out)
   replace HB := Aside0.mk (below_drew1 HB.out)
   obtain ⟨Ao27, co27, eo27⟩ := Kd.V_slice HO511.out
   (first | subst eo27 | (injection eo27 with f1_ f2_ f3_; have f4_ := f1_.symm; have f5_ := f3_.symm; clear f1_ f2_ f3_; subst f4_; subst f5_))
   refine start_ (n := 13) (S := fun w' => w'.cell? ⟨gb505, 0, none⟩ = some (.bool a0_0) ∧ w'.cell? ⟨gb505, 1, none⟩ = some (.slice A0_1 l0_1.length c0_1) ∧ w'.cell? ⟨gb506, 0, none⟩ = some (.bool a1_0) ∧ w'.cell? ⟨gb506, 1, none⟩ = some (.slice A1_1 l1_1.length c1_1)) (ds := []) #[false, false, false, false, false, false, false, false, false, false, false, false, false] (by kernel_rfl) rfl rfl ⟨(blk_cell BK505.out 0).trans rfl, (blk_cell BK505.out 1).trans rfl, (blk_cell BK506.out 0).trans rfl, (blk_cell BK506.out 1).trans rfl⟩ (fun hHeld => ?_); refine with_tabW big_DivMod.tab4 big_DivMod.bits4 (fun HT_ HW_ => ?_)
   generalize w25.drew = w26 at HO511 HO514 BK505 BK506 BK507 BK508 HB hHeld ⊢
   refine pT (i := 0) (N := some 23) (bb 13 1) HT_ ?_
   refine pT (i := 2) (N := some 25) (bb 13 5) HT_ ?_
   refine pT (i := 5) (N := some 28) (bb 13 37) HT_ ?_
   refine pT (i := 7) (N := some 30) (bb 13 165) HT_ ?_
   refine pT (i := 9) (N := some 32) (bb 13 677) HT_ ?_
   refine tW (i := 1) (N := some 24) (bb 13 679) HT_ HW_ hHeld ?_
   refine tW (i := 3) (N := some 26) (bb 13 687) HT_ HW_ hHeld ?_
   refine pT (i := 4) (N := some 27) (bb 13 703) HT_ ?_
   refine tW (i := 8) (N := some 31) (bb 13 959) HT_ HW_ hHeld ?_
   refine oT (i := 6) (N := some 29) (bb 13 1023) HT_ fun K hK => ?_
   refine gS Try.func52 #[.bool (a0_0 != a1_0), .slice Ao27 t509.length co27] ?_
   with_reducible refine (big_norm.calls k (a0_0 != a1_0) _ _ t509 t516 t517 _ ?side1 ?side2 A5.out).mono ?_
   (case side1 => exact tc (Kd.V_reads' HO511.out).2.2)
   (case side2 => exact (Kd.V_reads' HO511.out).2.1)
   rintro e w28 ⟨v518, rfl, ho0, hb⟩
   refine ⟨_, rfl, ?_⟩
   replace HO514 := Aside0.mk (Kd.V_elder' (tv HO514) (Kd.R_base ho0) hb)
   have HO519 := rl ho0 HB
   replace BK505 := kb BK505 hb
   replace BK506 := kb BK506 hb
   replace BK507 := kb BK507 hb
   replace BK508 := kb BK508 hb
   replace HB := bs HB hb
   (try clear hb); (try clear hb2); (try clear hk); (try clear hi); (try clear ho0)
   obtain ⟨Ao29, co29, eo29⟩ := Kd.V_slice HO514.out
   (first | subst eo29 | (injection eo29 with f1_ f2_ f3_; have f4_ := f1_.symm; have f5_ := f3_.symm; clear f1_ f2_ f3_; subst f4_; subst f5_))
   refine hK.out _ _ ⟨(blk_cell BK505.out 0).trans rfl, (blk_cell BK505.out 1).trans rfl, (blk_cell BK506.out 0).trans rfl, (blk_cell BK506.out 1).trans rfl⟩ fun hHeld => nT (N := some 29) ?_
   clear hK K
   refine oT (i := 10) (N := some 33) (bb 13 2047) HT_ fun K hK => ?_
   refine gS Try.func52 #[.bool a0_0, .slice Ao29 t512.length co29] ?_
   with_reducible refine (big_norm.calls k a0_0 _ _ t512 t520 t521 _ ?side1 ?side2 A6.out).mono ?_
   (case side1 => exact tc (Kd.V_reads' HO514.out).2.2)
   (case side2 => exact (Kd.V_reads' HO514.out).2.1)
   rintro e w30 ⟨v522, rfl, ho0, hb⟩
   refine ⟨_, rfl, ?_⟩
   have HO523 := Aside0.mk (Kd.R_lower (Kd.R_new' ho0 (Kd.R_lt (tq HO519))) (below_size (tb HB)))
   replace HO519 := re HO519 (Kd.R_base ho0) hb
   replace BK505 := kb BK505 hb
   replace BK506 := kb BK506 hb
   replace BK507 := kb BK507 hb
   replace BK508 := kb BK508 hb
   replace HB := bs HB hb
   (try clear hb); (try clear hb2); (try clear hk); (try clear hi); (try clear ho0)
   obtain ⟨Ao32, co32, eo32⟩ := Kd.R_slice HO519.out
   (first | subst eo32 | (injection eo32 with f1_ f2_ f3_; have f4_ := f1_.symm; have f5_ := f3_.symm; clear f1_ f2_ f3_; subst f4_; subst f5_))
   obtain ⟨Ao35, co35, eo35⟩ := Kd.R_slice HO523.out
   (first | subst eo35 | (injection eo35 with f1_ f2_ f3_; have f4_ := f1_.symm; have f5_ := f3_.symm; clear f1_ f2_ f3_; subst f4_; subst f5_))
   refine hK.out _ _ ⟨(blk_cell BK505.out 0).trans rfl, (blk_cell BK505.out 1).trans rfl, (blk_cell BK506.out 0).trans rfl, (blk_cell BK506.out 1).trans rfl⟩ fun hHeld => nT (N := some 33) ?_
   clear hK K
   refine oT (i := 11) (N := none) (bb 13 4095) HT_ fun K hK => ?_
   have hs31 := bc BK507 0 (.bool false)
   have hfs31 := blk_frozen BK507.out 0
   have hns31_0 := NB505_507.out
   have hns31_1 := NB506_507.out
   have hns31_3 := NB508_507.out
   have hms31_0 := NB507_505.out
   have hms31_1 := NB507_506.out
   have hms31_3 := NB507_508.out
   have hs33 := bc BK507 1 (.slice none 0 0)
   have hfs33 := blk_frozen BK507.out 1
   have hns33_0 := NB505_507.out
   have hns33_1 := NB506_507.out
   have hns33_3 := NB508_507.out
   have hms33_0 := NB507_505.out
   have hms33_1 := NB507_506.out
   have hms33_3 := NB507_508.out
   refine skip_ (w1 := ?_) (by rfl) rfl ?_ ?_
   rotate_left
   ·go_simp
    rfl
   refine hK.out _ _ ⟨((cell_far (p := ⟨gb507, _, none⟩) NB505_507.out _).trans (((cell_far (p := ⟨gb507, _, none⟩) NB505_507.out _).trans (hHeld.1)))), ((cell_far (p := ⟨gb507, _, none⟩) NB505_507.out _).trans (((cell_far (p := ⟨gb507, _, none⟩) NB505_507.out _).trans (hHeld.2.1)))), ((cell_far (p := ⟨gb507, _, none⟩) NB506_507.out _).trans (((cell_far (p := ⟨gb507, _, none⟩) NB506_507.out _).trans (hHeld.2.2.1)))), ((cell_far (p := ⟨gb507, _, none⟩) NB506_507.out _).trans (((cell_far (p := ⟨gb507, _, none⟩) NB506_507.out _).trans (hHeld.2.2.2))))⟩ (fun hHeld => ?_)
   clear hK K
   refine oT (i := 12) (N := none) (bb 13 8191) HT_ fun K hK => ?_
   have hs34 := bc BK508 0 (.bool false)
   have hfs34 := blk_frozen BK508.out 0
   have hns34_0 := NB505_508.out
   have hns34_1 := NB506_508.out
   have hns34_2 := NB507_508.out
   have hms34_0 := NB508_505.out
   have hms34_1 := NB508_506.out
   have hms34_2 := NB508_507.out
   have hs36 := bc BK508 1 (.slice none 0 0)
   have hfs36 := blk_frozen BK508.out 1
   have hns36_0 := NB505_508.out
   have hns36_1 := NB506_508.out
   have hns36_2 := NB507_508.out
   have hms36_0 := NB508_505.out
   have hms36_1 := NB508_506.out
   have hms36_2 := NB508_507.out
   refine skip_ (w1 := ?_) (by rfl) rfl ?_ ?_
   rotate_left
   ·go_simp
    rfl
   refine hK.out _ _ ⟨((cell_far (p := ⟨gb508, _, none⟩) NB505_508.out _).trans (((cell_far (p := ⟨gb508, _, none⟩) NB505_508.out _).trans (hHeld.1)))), ((cell_far (p := ⟨gb508, _, none⟩) NB505_508.out _).trans (((cell_far (p := ⟨gb508, _, none⟩) NB505_508.out _).trans (hHeld.2.1)))), ((cell_far (p := ⟨gb508, _, none⟩) NB506_508.out _).trans (((cell_far (p := ⟨gb508, _, none⟩) NB506_508.out _).trans (hHeld.2.2.1)))), ((cell_far (p := ⟨gb508, _, none⟩) NB506_508.out _).trans (((cell_far (p := ⟨gb508, _, none⟩) NB506_508.out _).trans (hHeld.2.2.2))))⟩ (fun hHeld => ?_)
   clear hK K
   refine done_ (done_of HT_.out (by kernel_rfl)) ?_
   have hnb37 := NB508_507.out
   have hnc37 := NB507_508.out
   have hcz38_0 := bc BK508 0 (.bool false)
   have hcz38_1 := bc BK508 1 (.slice none 0 0)
   have hfz38_0 := blk_frozen BK508.out 0
   have hfz38_1 := blk_frozen BK508.out 1
   try go_wp2_with (first | ((with_reducible refine gate_callee (f := 26) rfl ?_); refine gL (N := some 35) Try.func26 #[.agg #[.bool t520, .slice Ao35 t521.length co35]] ?_; (with_reducible refine (big_Sign.calls k t520 _ _ t521 t524 _ ?side1 ?side2 A7.out).mono ?_); (case side1 => refine (Kd.R_reads' (e := 87) (base := w.heap.size) (ok := fun k_ => (True ∧ some k_ ≠ (.slice Ao32 t517.length co32 : Value).ownBlock)) (n := t521.length) (c := co35) ?_).2.2; exact (by (with_reducible repeat first | apply qa | apply qn | apply qd); exact (Kd.R_mono (Kd.R_mono (Kd.R_far (p := ⟨gb508, 1, none⟩) (Kd.R_far (p := ⟨gb508, 0, none⟩) (Kd.R_far (p := ⟨gb507, 1, none⟩) (Kd.R_far (p := ⟨gb507, 0, none⟩) (Kd.R_types (Kd.R_types HO523.out BK507.out (by decide)) BK508.out (by decide)) (fun _ hk => hk.1.2) (.bool t516)) (fun _ hk => hk.1.2) (.slice Ao32 t517.length co32)) (fun _ hk => hk.2) (.bool t520)) (fun _ hk => hk.2) (.slice Ao35 t521.length co35)) (fun _ h_ => h_.1)) (fun _ h_ => h_.1)))); (case side2 => exact (Kd.R_reads' HO523.out).2.1); rintro e w39 ⟨rfl, hb⟩; refine ⟨_, rfl, ?_⟩; replace HO519 := rt HO519 hb; replace HO523 := rt HO523 hb; replace BK506 := kb BK506 hb; replace BK507 := kb (o' := .cells #[.bool t516, .slice Ao32 t517.length co32] 24 (0, 0)) BK507 hb; replace BK508 := kb (o' := .cells #[.bool t520, .slice Ao35 t521.length co35] 24 (0, 0)) BK508 hb; replace HB := bs HB hb; (try clear hb); (try clear hb2); (try clear hk); (try clear hi)))
   replace HO519 := Aside0.mk (Kd.R_drew HO519.out)
   replace HO523 := Aside0.mk (Kd.R_drew HO523.out)
   replace BK506 := Aside0.mk (blk_drew BK506.out)
   replace BK507 := Aside0.mk (blk_drew BK507.out)
   replace BK508 := Aside0.mk (blk_drew BK508.out)
   replace HB := Aside0.mk (below_drew1 HB.out)
   refine start_ (n := 5) (S := fun w' => w'.cell? ⟨gb508, 0, none⟩ = some (.bool t520) ∧ w'.cell? ⟨gb508, 1, none⟩ = some (.slice Ao35 t521.length co35) ∧ w'.cell? ⟨gb506, 0, none⟩ = some (.bool a1_0) ∧ w'.cell? ⟨gb506, 1, none⟩ = some (.slice A1_1 l1_1.length c1_1)) (ds := [4]) #[false, false, false, false, false] (by kernel_rfl) rfl rfl ⟨(blk_cell BK508.out 0).trans rfl, (blk_cell BK508.out 1).trans rfl, (blk_cell BK506.out 0).trans rfl, (blk_cell BK506.out 1).trans rfl⟩ (fun hHeld => ?_)
   generalize w39.drew = w40 at HO519 HO523 BK506 BK507 BK508 HB hHeld ⊢
   refine t0 (i := 0) (N := some 37) (bb 5 1) hHeld ?_
   refine t0 (i := 1) (N := some 38) (bb 5 3) hHeld ?_
   refine o0 (i := 2) (N := some 39) (bb 5 7) fun K hK => ?_
   refine gS Try.func30 #[.agg #[.bool a1_0, .slice A1_1 l1_1.length c1_1]] ?_
   with_reducible refine (big_Abs.calls k a1_0 _ _ l1_1 t525 t526 _ ?side1 ?side2 A9.out).mono ?_
   (case side1 => exact tc (Kd.C_below HR1_1.out HB.out))
   (case side2 => exact HC1_1.out)
   rintro e w41 ⟨v527, rfl, ho0, hb⟩
   refine ⟨_, rfl, ?_⟩
   have HO528 := Aside0.mk (Kd.R_lower (Kd.R_new' (Kd.R_new' ho0 (Kd.R_lt (tq HO519))) (Kd.R_lt (tq HO523))) (below_size (tb HB)))
   replace HO519 := re HO519 (Kd.R_base ho0) hb
   replace HO523 := re HO523 (Kd.R_base ho0) hb
   replace BK506 := kb BK506 hb
   replace BK507 := kb BK507 hb
   replace BK508 := kb BK508 hb
   replace HB := bs HB hb
   (try clear hb); (try clear hb2); (try clear hk); (try clear hi); (try clear ho0)
   obtain ⟨Ao42, co42, eo42⟩ := Kd.R_slice HO528.out
   (first | subst eo42 | (injection eo42 with f1_ f2_ f3_; have f4_ := f1_.symm; have f5_ := f3_.symm; clear f1_ f2_ f3_; subst f4_; subst f5_))
   refine hK.out _ _ ⟨(blk_cell BK508.out 0).trans rfl, (blk_cell BK508.out 1).trans rfl, (blk_cell BK506.out 0).trans rfl, (blk_cell BK506.out 1).trans rfl⟩ fun hHeld => nT (N := some 39) ?_
   clear hK K
   refine o0 (i := 3) (N := some 40) (bb 5 15) fun K hK => ?_
   refine gS Try.func20 #[.agg #[.bool t520, .slice Ao35 t521.length co35], .agg #[.bool t525, .slice Ao42 t526.length co42]] ?_
   with_reducible refine (big_Add.calls k t520 _ _ t521 t525 _ _ t526 t529 t530 _ ?side1 ?side2 ?side3 ?side4 A10.out).mono ?_
   (case side1 => exact tc (Kd.R_reads' HO523.out).2.2)
   (case side2 => exact (Kd.R_reads' HO523.out).2.1)
   (case side3 => exact tc (Kd.R_reads' HO528.out).2.2)
   (case side4 => exact (Kd.R_reads' HO528.out).2.1)
   rintro e w43 ⟨v531, rfl, ho0, hb⟩
   refine ⟨_, rfl, ?_⟩
   have HO532 := Aside0.mk (Kd.R_lower (Kd.R_new' (Kd.R_new' (Kd.R_new' ho0 (Kd.R_lt (tq HO519))) (Kd.R_lt (tq HO523))) (Kd.R_lt (tq HO528))) (below_size (tb HB)))
   replace HO519 := re HO519 (Kd.R_base ho0) hb
   replace HO523 := re HO523 (Kd.R_base ho0) hb
   replace HO528 := re HO528 (Kd.R_base ho0) hb
   replace BK506 := kb BK506 hb
   replace BK507 := kb BK507 hb
   replace BK508 := kb BK508 hb
   replace HB := bs HB hb
   (try clear hb); (try clear hb2); (try clear hk); (try clear hi); (try clear ho0)
   obtain ⟨Ao45, co45, eo45⟩ := Kd.R_slice HO532.out
   (first | subst eo45 | (injection eo45 with f1_ f2_ f3_; have f4_ := f1_.symm; have f5_ := f3_.symm; clear f1_ f2_ f3_; subst f4_; subst f5_))
   refine hK.out _ _ ⟨(blk_cell BK508.out 0).trans rfl, (blk_cell BK508.out 1).trans rfl, (blk_cell BK506.out 0).trans rfl, (blk_cell BK506.out 1).trans rfl⟩ fun hHeld => nT (N := some 40) ?_
   clear hK K
   refine last_ (i := 4) (N := none) #[true, true, true, true, true] rfl rfl (by kernel_rfl) (by decide) (fun K hK => ?_)
   have hs44 := bc BK508 0 (.bool t520)
   have hfs44 := blk_frozen BK508.out 0
   have hns44_0 := NB505_508.out
   have hns44_1 := NB506_508.out
   have hns44_2 := NB507_508.out
   have hms44_0 := NB508_505.out
   have hms44_1 := NB508_506.out
   have hms44_2 := NB508_507.out
   have hs46 := bc BK508 1 (.slice Ao35 t521.length co35)
   have hfs46 := blk_frozen BK508.out 1
   have hns46_0 := NB505_508.out
   have hns46_1 := NB506_508.out
   have hns46_2 := NB507_508.out
   have hms46_0 := NB508_505.out
   have hms46_1 := NB508_506.out
   have hms46_2 := NB508_507.out
   refine skip_ (w1 := ?_) (by rfl) rfl ?_ ?_
   rotate_left
   ·go_simp
    rfl
   refine hK.out _ _ ?_
   clear hK K
   refine done_ (by kernel_rfl) ?_
   try go_wp2
   have n2_ : Aside0 (Kd.R (Kd.int .u32) 87 ((w43.setCell ⟨gb508, 0, none⟩ (.bool t529)).setCell ⟨gb508, 1, none⟩ (.slice Ao45 t530.length co45)) w.heap.size (fun k_ => some k_ ≠ (.slice Ao35 t521.length co35 : Value).ownBlock ∧ some k_ ≠ (.slice Ao42 t526.length co42 : Value).ownBlock ∧ some k_ ≠ (.slice Ao45 t530.length co45 : Value).ownBlock) (.slice Ao32 t517.length co32) t517) := ⟨by (with_reducible repeat first | apply qa | apply qn | apply qd); exact Kd.R_mono (Kd.R_far (p := ⟨gb508, 1, none⟩) (Kd.R_far (p := ⟨gb508, 0, none⟩) (Kd.R_types HO519.out BK508.out (by decide)) (fun _ hk => hk.2) (.bool t529)) (fun _ hk => hk.2) (.slice Ao45 t530.length co45)) (fun _ hk => ⟨hk.1.1.1.2, ⟨hk.1.1.2, hk.1.2⟩⟩)⟩
   have n3_ : Aside0 (Kd.R (Kd.int .u32) 87 ((w43.setCell ⟨gb508, 0, none⟩ (.bool t529)).setCell ⟨gb508, 1, none⟩ (.slice Ao45 t530.length co45)) w.heap.size (fun k_ => some k_ ≠ (.slice Ao32 t517.length co32 : Value).ownBlock ∧ some k_ ≠ (.slice Ao42 t526.length co42 : Value).ownBlock ∧ some k_ ≠ (.slice Ao45 t530.length co45 : Value).ownBlock) (.slice Ao35 t521.length co35) t521) := ⟨by (with_reducible repeat first | apply qa | apply qn | apply qd); exact Kd.R_mono (Kd.R_far (p := ⟨gb508, 1, none⟩) (Kd.R_far (p := ⟨gb508, 0, none⟩) (Kd.R_types HO523.out BK508.out (by decide)) (fun _ hk => hk.2) (.bool t529)) (fun _ hk => hk.2) (.slice Ao45 t530.length co45)) (fun _ hk => ⟨hk.1.1.1.2, ⟨hk.1.1.2, hk.1.2⟩⟩)⟩
   have n4_ : Aside0 (Kd.R (Kd.int .u32) 87 ((w43.setCell ⟨gb508, 0, none⟩ (.bool t529)).setCell ⟨gb508, 1, none⟩ (.slice Ao45 t530.length co45)) w.heap.size (fun k_ => some k_ ≠ (.slice Ao32 t517.length co32 : Value).ownBlock ∧ some k_ ≠ (.slice Ao35 t521.length co35 : Value).ownBlock ∧ some k_ ≠ (.slice Ao45 t530.length co45 : Value).ownBlock) (.slice Ao42 t526.length co42) t526) := ⟨by (with_reducible repeat first | apply qa | apply qn | apply qd); exact Kd.R_mono (Kd.R_far (p := ⟨gb508, 1, none⟩) (Kd.R_far (p := ⟨gb508, 0, none⟩) (Kd.R_types HO528.out BK508.out (by decide)) (fun _ hk => hk.2) (.bool t529)) (fun _ hk => hk.2) (.slice Ao45 t530.length co45)) (fun _ hk => ⟨hk.1.1.1.2, ⟨hk.1.1.2, hk.1.2⟩⟩)⟩
   have n5_ : Aside0 (Kd.R (Kd.int .u32) 87 ((w43.setCell ⟨gb508, 0, none⟩ (.bool t529)).setCell ⟨gb508, 1, none⟩ (.slice Ao45 t530.length co45)) w.heap.size (fun k_ => some k_ ≠ (.slice Ao32 t517.length co32 : Value).ownBlock ∧ some k_ ≠ (.slice Ao35 t521.length co35 : Value).ownBlock ∧ some k_ ≠ (.slice Ao42 t526.length co42 : Value).ownBlock) (.slice Ao45 t530.length co45) t530) := ⟨by (with_reducible repeat first | apply qa | apply qn | apply qd); exact Kd.R_mono (Kd.R_far (p := ⟨gb508, 1, none⟩) (Kd.R_far (p := ⟨gb508, 0, none⟩) (Kd.R_types HO532.out BK508.out (by decide)) (fun _ hk => hk.2) (.bool t529)) (fun _ hk => hk.2) (.slice Ao45 t530.length co45)) (fun _ hk => ⟨hk.1.1.1.2, ⟨hk.1.1.2, hk.1.2⟩⟩)⟩
   have n7_ : Aside0 (((w43.setCell ⟨gb508, 0, none⟩ (.bool t529)).setCell ⟨gb508, 1, none⟩ (.slice Ao45 t530.length co45)).heap[gb506]? = some (.cells #[.bool a1_0, .slice A1_1 l1_1.length c1_1] 24 (0, 0))) := ⟨tk BK506⟩
   have n8_ : Aside0 (((w43.setCell ⟨gb508, 0, none⟩ (.bool t529)).setCell ⟨gb508, 1, none⟩ (.slice Ao45 t530.length co45)).heap[gb507]? = some (.cells #[.bool t516, .slice Ao32 t517.length co32] 24 (0, 0))) := ⟨tk BK507⟩
   have n9_ : Aside0 (((w43.setCell ⟨gb508, 0, none⟩ (.bool t529)).setCell ⟨gb508, 1, none⟩ (.slice Ao45 t530.length co45)).heap[gb508]? = some (.cells #[.bool t529, .slice Ao45 t530.length co45] 24 (0, 0))) := ⟨tk BK508⟩
   have n10_ : Aside0 (Below w.heap.size w ((w43.setCell ⟨gb508, 0, none⟩ (.bool t529)).setCell ⟨gb508, 1, none⟩ (.slice Ao45 t530.length co45))) := ⟨tb HB⟩
   (try clear HO511); (try clear HO514); (try clear HO519); (try clear HO523); (try clear HO528); (try clear HO532); (try clear BK505); (try clear BK506); (try clear BK507); (try clear BK508); (try clear HB)
   generalize ((w43.setCell ⟨gb508, 0, none⟩ (.bool t529)).setCell ⟨gb508, 1, none⟩ (.slice Ao45 t530.length co45)) = w47 at n2_ n3_ n4_ n5_ n7_ n8_ n9_ n10_ ⊢
   have HO519 := n2_
   have HO523 := n3_
   have HO528 := n4_
   have HO532 := n5_
   have BK506 := n7_
   have BK507 := n8_
   have BK508 := n9_
   have HB := n10_
   clear n2_ n3_ n4_ n5_ n7_ n8_ n9_ n10_
   replace HO519 := Aside0.mk (Kd.R_drew HO519.out)
   replace HO523 := Aside0.mk (Kd.R_drew HO523.out)
   replace HO528 := Aside0.mk (Kd.R_drew HO528.out)
   replace HO532 := Aside0.mk (Kd.R_drew HO532.out)
   replace BK506 := Aside0.mk (blk_drew BK506.out)
   replace BK507 := Aside0.mk (blk_drew BK507.out)
   replace BK508 := Aside0.mk (blk_drew BK508.out)
   replace HB := Aside0.mk (below_drew1 HB.out)
   refine start_ (n := 6) (S := fun w' => w'.cell? ⟨gb507, 0, none⟩ = some (.bool t516) ∧ w'.cell? ⟨gb507, 1, none⟩ = some (.slice Ao32 t517.length co32) ∧ w'.cell? ⟨gb506, 0, none⟩ = some (.bool a1_0) ∧ w'.cell? ⟨gb506, 1, none⟩ = some (.slice A1_1 l1_1.length c1_1)) (ds := [5]) #[false, false, false, false, false, false] (by kernel_rfl) rfl rfl ⟨(blk_cell BK507.out 0).trans rfl, (blk_cell BK507.out 1).trans rfl, (blk_cell BK506.out 0).trans rfl, (blk_cell BK506.out 1).trans rfl⟩ (fun hHeld => ?_)
   generalize w47.drew = w48 at HO519 HO523 HO528 HO532 BK506 BK507 BK508 HB hHeld ⊢
   refine t0 (i := 0) (N := some 41) (bb 6 1) hHeld ?_
   refine t0 (i := 1) (N := some 42) (bb 6 3) hHeld ?_
   refine o0 (i := 2) (N := some 43) (bb 6 7) fun K hK => ?_
   refine gS Try.func26 #[.agg #[.bool a1_0, .slice A1_1 l1_1.length c1_1]] ?_
   with_reducible refine (big_Sign.calls k a1_0 _ _ l1_1 t533 _ ?side1 ?side2 A11.out).mono ?_
   (case side1 => exact tc (Kd.C_below HR1_1.out HB.out))
   (case side2 => exact HC1_1.out)
   rintro e w49 ⟨rfl, hb⟩
   refine ⟨_, rfl, ?_⟩
   replace HO519 := rb HO519 hb
   replace HO523 := rb HO523 hb
   replace HO528 := rb HO528 hb
   replace HO532 := rb HO532 hb
   replace BK506 := kb BK506 hb
   replace BK507 := kb BK507 hb
   replace BK508 := kb BK508 hb
   replace HB := bs HB hb
   (try clear hb); (try clear hb2); (try clear hk); (try clear hi)
   refine hK.out _ _ ⟨(blk_cell BK507.out 0).trans rfl, (blk_cell BK507.out 1).trans rfl, (blk_cell BK506.out 0).trans rfl, (blk_cell BK506.out 1).trans rfl⟩ fun hHeld => nT (N := some 43) ?_
   clear hK K
   refine o0 (i := 3) (N := some 44) (bb 6 15) fun K hK => ?_
   refine gS Try.func40 #[.int .i64 t533] ?_
   with_reducible refine (big_Of.calls k t533 t534 t535 _ A12.out).mono ?_
   rintro e w50 ⟨v536, rfl, ho0, hb⟩
   refine ⟨_, rfl, ?_⟩
   have HO537 := Aside0.mk (Kd.R_lower (Kd.R_new' (Kd.R_new' (Kd.R_new' (Kd.R_new' ho0 (Kd.R_lt (tq HO519))) (Kd.R_lt (tq HO523))) (Kd.R_lt (tq HO528))) (Kd.R_lt (tq HO532))) (below_size (tb HB)))
   replace HO519 := re HO519 (Kd.R_base ho0) hb
   replace HO523 := re HO523 (Kd.R_base ho0) hb
   replace HO528 := re HO528 (Kd.R_base ho0) hb
   replace HO532 := re HO532 (Kd.R_base ho0) hb
   replace BK506 := kb BK506 hb
   replace BK507 := kb BK507 hb
   replace BK508 := kb BK508 hb
   replace HB := bs HB hb
   (try clear hb); (try clear hb2); (try clear hk); (try clear hi); (try clear ho0)
   obtain ⟨Ao51, co51, eo51⟩ := Kd.R_slice HO537.out
   (first | subst eo51 | (injection eo51 with f1_ f2_ f3_; have f4_ := f1_.symm; have f5_ := f3_.symm; clear f1_ f2_ f3_; subst f4_; subst f5_))
   refine hK.out _ _ ⟨(blk_cell BK507.out 0).trans rfl, (blk_cell BK507.out 1).trans rfl, (blk_cell BK506.out 0).trans rfl, (blk_cell BK506.out 1).trans rfl⟩ fun hHeld => nT (N := some 44) ?_
   clear hK K
   refine o0 (i := 4) (N := some 45) (bb 6 31) fun K hK => ?_
   refine gS Try.func22 #[.agg #[.bool t516, .slice Ao32 t517.length co32], .agg #[.bool t534, .slice Ao51 t535.length co51]] ?_
   with_reducible refine (big_Sub.calls k t516 _ _ t517 t534 _ _ t535 t538 t539 _ ?side1 ?side2 ?side3 ?side4 A13.out).mono ?_
   (case side1 => exact tc (Kd.R_reads' HO519.out).2.2)
   (case side2 => exact (Kd.R_reads' HO519.out).2.1)
   (case side3 => exact tc (Kd.R_reads' HO537.out).2.2)
   (case side4 => exact (Kd.R_reads' HO537.out).2.1)
   rintro e w52 ⟨v540, rfl, ho0, hb⟩
   refine ⟨_, rfl, ?_⟩
   have HO541 := Aside0.mk (Kd.R_lower (Kd.R_new' (Kd.R_new' (Kd.R_new' (Kd.R_new' (Kd.R_new' ho0 (Kd.R_lt (tq HO519))) (Kd.R_lt (tq HO523))) (Kd.R_lt (tq HO528))) (Kd.R_lt (tq HO532))) (Kd.R_lt (tq HO537))) (below_size (tb HB)))
   replace HO532 := re HO532 (Kd.R_base ho0) hb
   replace BK506 := kb BK506 hb
   replace BK507 := kb BK507 hb
   replace BK508 := kb BK508 hb
   replace HB := bs HB hb
   (try clear hb); (try clear hb2); (try clear hk); (try clear hi); (try clear ho0)
   obtain ⟨Ao54, co54, eo54⟩ := Kd.R_slice HO541.out
   (first | subst eo54 | (injection eo54 with f1_ f2_ f3_; have f4_ := f1_.symm; have f5_ := f3_.symm; clear f1_ f2_ f3_; subst f4_; subst f5_))
   refine hK.out _ _ ⟨(blk_cell BK507.out 0).trans rfl, (blk_cell BK507.out 1).trans rfl, (blk_cell BK506.out 0).trans rfl, (blk_cell BK506.out 1).trans rfl⟩ fun hHeld => nT (N := some 45) ?_
   clear hK K
   refine last_ (i := 5) (N := none) #[true, true, true, true, true, true] rfl rfl (by kernel_rfl) (by decide) (fun K hK => ?_)
   have hs53 := bc BK507 0 (.bool t516)
   have hfs53 := blk_frozen BK507.out 0
   have hns53_0 := NB505_507.out
   have hns53_1 := NB506_507.out
   have hns53_3 := NB508_507.out
   have hms53_0 := NB507_505.out
   have hms53_1 := NB507_506.out
   have hms53_3 := NB507_508.out
   have hs55 := bc BK507 1 (.slice Ao32 t517.length co32)
   have hfs55 := blk_frozen BK507.out 1
   have hns55_0 := NB505_507.out
   have hns55_1 := NB506_507.out
   have hns55_3 := NB508_507.out
   have hms55_0 := NB507_505.out
   have hms55_1 := NB507_506.out
   have hms55_3 := NB507_508.out
   refine skip_ (w1 := ?_) (by rfl) rfl ?_ ?_
   rotate_left
   ·go_simp
    rfl
   refine hK.out _ _ ?_
   clear hK K
   refine done_ (by kernel_rfl) ?_
   try go_wp2
   have n5_ : Aside0 (Kd.R (Kd.int .u32) 87 ((w52.setCell ⟨gb507, 0, none⟩ (.bool t538)).setCell ⟨gb507, 1, none⟩ (.slice Ao54 t539.length co54)) w.heap.size (fun k_ => some k_ ≠ (.slice Ao32 t517.length co32 : Value).ownBlock ∧ some k_ ≠ (.slice Ao35 t521.length co35 : Value).ownBlock ∧ some k_ ≠ (.slice Ao42 t526.length co42 : Value).ownBlock ∧ some k_ ≠ (.slice Ao51 t535.length co51 : Value).ownBlock ∧ some k_ ≠ (.slice Ao54 t539.length co54 : Value).ownBlock) (.slice Ao45 t530.length co45) t530) := ⟨by (with_reducible repeat first | apply qa | apply qn | apply qd); exact Kd.R_mono (Kd.R_far (p := ⟨gb507, 1, none⟩) (Kd.R_far (p := ⟨gb507, 0, none⟩) (Kd.R_types HO532.out BK507.out (by decide)) (fun _ hk => hk.2) (.bool t538)) (fun _ hk => hk.2) (.slice Ao54 t539.length co54)) (fun _ hk => ⟨hk.1.1.1.1, ⟨hk.1.1.1.2.1, ⟨hk.1.1.1.2.2, ⟨hk.1.1.2, hk.1.2⟩⟩⟩⟩)⟩
   have n7_ : Aside0 (Kd.R (Kd.int .u32) 87 ((w52.setCell ⟨gb507, 0, none⟩ (.bool t538)).setCell ⟨gb507, 1, none⟩ (.slice Ao54 t539.length co54)) w.heap.size (fun k_ => some k_ ≠ (.slice Ao32 t517.length co32 : Value).ownBlock ∧ some k_ ≠ (.slice Ao35 t521.length co35 : Value).ownBlock ∧ some k_ ≠ (.slice Ao42 t526.length co42 : Value).ownBlock ∧ some k_ ≠ (.slice Ao45 t530.length co45 : Value).ownBlock ∧ some k_ ≠ (.slice Ao51 t535.length co51 : Value).ownBlock) (.slice Ao54 t539.length co54) t539) := ⟨by (with_reducible repeat first | apply qa | apply qn | apply qd); exact Kd.R_mono (Kd.R_far (p := ⟨gb507, 1, none⟩) (Kd.R_far (p := ⟨gb507, 0, none⟩) (Kd.R_types HO541.out BK507.out (by decide)) (fun _ hk => hk.2) (.bool t538)) (fun _ hk => hk.2) (.slice Ao54 t539.length co54)) (fun _ hk => ⟨hk.1.1.1.1.1.2, ⟨hk.1.1.1.1.2, ⟨hk.1.1.1.2, ⟨hk.1.1.2, hk.1.2⟩⟩⟩⟩)⟩
   have n10_ : Aside0 (((w52.setCell ⟨gb507, 0, none⟩ (.bool t538)).setCell ⟨gb507, 1, none⟩ (.slice Ao54 t539.length co54)).heap[gb507]? = some (.cells #[.bool t538, .slice Ao54 t539.length co54] 24 (0, 0))) := ⟨tk BK507⟩
   have n11_ : Aside0 (((w52.setCell ⟨gb507, 0, none⟩ (.bool t538)).setCell ⟨gb507, 1, none⟩ (.slice Ao54 t539.length co54)).heap[gb508]? = some (.cells #[.bool t529, .slice Ao45 t530.length co45] 24 (0, 0))) := ⟨tk BK508⟩
   have n12_ : Aside0 (Below w.heap.size w ((w52.setCell ⟨gb507, 0, none⟩ (.bool t538)).setCell ⟨gb507, 1, none⟩ (.slice Ao54 t539.length co54))) := ⟨tb HB⟩
   (try clear HO511); (try clear HO514); (try clear HO519); (try clear HO523); (try clear HO528); (try clear HO532); (try clear HO537); (try clear HO541); (try clear BK505); (try clear BK506); (try clear BK507); (try clear BK508); (try clear HB)
   generalize ((w52.setCell ⟨gb507, 0, none⟩ (.bool t538)).setCell ⟨gb507, 1, none⟩ (.slice Ao54 t539.length co54)) = w56 at n5_ n7_ n10_ n11_ n12_ ⊢
   have HO532 := n5_
   have HO541 := n7_
   have BK507 := n10_
   have BK508 := n11_
   have HB := n12_
   clear n5_ n7_ n10_ n11_ n12_
   replace HO532 := Aside0.mk (Kd.R_drew HO532.out)
   replace HO541 := Aside0.mk (Kd.R_drew HO541.out)
   replace BK507 := Aside0.mk (blk_drew BK507.out)
   replace BK508 := Aside0.mk (blk_drew BK508.out)
   replace HB := Aside0.mk (below_drew1 HB.out)
   refine start_ (n := 5) (S := fun w' => w'.cell? ⟨gb507, 0, none⟩ = some (.bool t538) ∧ w'.cell? ⟨gb507, 1, none⟩ = some (.slice Ao54 t539.length co54) ∧ w'.cell? ⟨gb508, 0, none⟩ = some (.bool t529) ∧ w'.cell? ⟨gb508, 1, none⟩ = some (.slice Ao45 t530.length co45)) (ds := []) #[false, false, false, false, false] (by kernel_rfl) rfl rfl ⟨(blk_cell BK507.out 0).trans rfl, (blk_cell BK507.out 1).trans rfl, (blk_cell BK508.out 0).trans rfl, (blk_cell BK508.out 1).trans rfl⟩ (fun hHeld => ?_)
   generalize w56.drew = w57 at HO532 HO541 BK507 BK508 HB hHeld ⊢
   refine t0 (i := 0) (N := some 46) (bb 5 1) hHeld ?_
   refine t0 (i := 1) (N := some 47) (bb 5 3) hHeld ?_
   refine o0 (i := 2) (N := none) #[true, true, true, false, false] fun K hK => ?_
   have hs58 := bc BK507 0 (.bool t538)
   have hfs58 := blk_frozen BK507.out 0
   have hns58_0 := NB505_507.out
   have hns58_1 := NB506_507.out
   have hns58_3 := NB508_507.out
   have hms58_0 := NB507_505.out
   have hms58_1 := NB507_506.out
   have hms58_3 := NB507_508.out
   have hs59 := bc BK507 1 (.slice Ao54 t539.length co54)
   have hfs59 := blk_frozen BK507.out 1
   have hns59_0 := NB505_507.out
   have hns59_1 := NB506_507.out
   have hns59_3 := NB508_507.out
   have hms59_0 := NB507_505.out
   have hms59_1 := NB507_506.out
   have hms59_3 := NB507_508.out
   refine skip_ (w1 := ?_) (by rfl) rfl ?_ ?_
   rotate_left
   ·go_simp
    rfl
   refine hK.out _ _ ⟨(blk_cell (cs := #[.bool t538, .slice Ao54 t539.length co54]) (t := 24) (tk BK507) 0).trans rfl, (blk_cell (cs := #[.bool t538, .slice Ao54 t539.length co54]) (t := 24) (tk BK507) 1).trans rfl, (blk_cell (cs := #[.bool t529, .slice Ao45 t530.length co45]) (t := 24) (tk BK508) 0).trans rfl, (blk_cell (cs := #[.bool t529, .slice Ao45 t530.length co45]) (t := 24) (tk BK508) 1).trans rfl⟩ (fun hHeld => ?_)
   clear hK K
   refine o0 (i := 3) (N := none) #[true, true, true, true, false] fun K hK => ?_
   have hs60 := bc BK508 0 (.bool t529)
   have hfs60 := blk_frozen BK508.out 0
   have hns60_0 := NB505_508.out
   have hns60_1 := NB506_508.out
   have hns60_2 := NB507_508.out
   have hms60_0 := NB508_505.out
   have hms60_1 := NB508_506.out
   have hms60_2 := NB508_507.out
   have hs61 := bc BK508 1 (.slice Ao45 t530.length co45)
   have hfs61 := blk_frozen BK508.out 1
   have hns61_0 := NB505_508.out
   have hns61_1 := NB506_508.out
   have hns61_2 := NB507_508.out
   have hms61_0 := NB508_505.out
   have hms61_1 := NB508_506.out
   have hms61_2 := NB508_507.out
   refine skip_ (w1 := ?_) (by rfl) rfl ?_ ?_
   rotate_left
   ·go_simp
    rfl
   refine hK.out _ _ ⟨(blk_cell (cs := #[.bool t538, .slice Ao54 t539.length co54]) (t := 24) (tk BK507) 0).trans rfl, (blk_cell (cs := #[.bool t538, .slice Ao54 t539.length co54]) (t := 24) (tk BK507) 1).trans rfl, (blk_cell (cs := #[.bool t529, .slice Ao45 t530.length co45]) (t := 24) (tk BK508) 0).trans rfl, (blk_cell (cs := #[.bool t529, .slice Ao45 t530.length co45]) (t := 24) (tk BK508) 1).trans rfl⟩ (fun hHeld => ?_)
   clear hK K
   refine p0 (i := 4) (N := some 6) (bb 5 31) ?_
   refine done_ (by kernel_rfl) ?_
   try go_wp2
   refine bodyPost_ret (results_list (rs := [.cell 4 24, .cell 5 24, .tmp 6]) rfl (by simp) (.cell gb507 24 #[.bool t538, .slice Ao54 t539.length co54] (0, 0) _ rfl (tk BK507) Try.underlying24 rfl (by kernel_rfl) (.cell gb508 24 #[.bool t529, .slice Ao45 t530.length co45] (0, 0) _ rfl (tk BK508) Try.underlying24 rfl (by kernel_rfl) (.tmp .nil)))) rfl ?_
   exact ⟨_, _, by first | rfl | (simp [errW_none, errW_some] <;> rfl) | (simp [*, errW_none, errW_some] <;> rfl), by (with_reducible repeat first | apply qa | apply qn | apply qd); exact Kd.R_mono (Kd.R_far (p := ⟨gb508, 1, none⟩) (Kd.R_far (p := ⟨gb508, 0, none⟩) (Kd.R_far (p := ⟨gb507, 1, none⟩) (Kd.R_far (p := ⟨gb507, 0, none⟩) (Kd.R_types (Kd.R_types HO541.out BK507.out (by decide)) BK508.out (by decide)) (fun _ hk => hk.1.2) (.bool t538)) (fun _ hk => hk.1.2) (.slice Ao54 t539.length co54)) (fun _ hk => hk.2) (.bool t529)) (fun _ hk => hk.2) (.slice Ao45 t530.length co45)) (fun _ hk => hk.1.1.2.2.2.1), by (with_reducible repeat first | apply qa | apply qn | apply qd); exact Kd.R_mono (Kd.R_far (p := ⟨gb508, 1, none⟩) (Kd.R_far (p := ⟨gb508, 0, none⟩) (Kd.R_far (p := ⟨gb507, 1, none⟩) (Kd.R_far (p := ⟨gb507, 0, none⟩) (Kd.R_types (Kd.R_types HO532.out BK507.out (by decide)) BK508.out (by decide)) (fun _ hk => hk.1.2) (.bool t538)) (fun _ hk => hk.1.2) (.slice Ao54 t539.length co54)) (fun _ hk => hk.2) (.bool t529)) (fun _ hk => hk.2) (.slice Ao45 t530.length co45)) (fun _ hk => hk.1.1.2.2.2.2), tb HB⟩
  ·rw [if_neg c8] at H
   have c8b0 : decide (t524 < 0) = false := decide_eq_false c8
   clear c8
   simp only [Option.some.injEq, Prod.mk.injEq] at H
   obtain ⟨rfl, rfl, rfl, rfl, rfl⟩ := H
   go_enter Try.func33, Try.ntmps33
   try go_wp2_with (first | ((with_reducible refine gate_dst (N := 2) rfl ?_); refine bx (N := 2) #[.bool a0_0, .slice A0_1 l0_1.length c0_1] 24 ?_; intro gb505 hg w62 hbox hb; have BK505 := Aside0.mk (hbox); have GW505 := bz hg HB; have GE505 := bz hg HB; replace HB := bs HB hb; clear hb hbox hg) | ((with_reducible refine gate_dst (N := 3) rfl ?_); refine bx (N := 3) #[.bool a1_0, .slice A1_1 l1_1.length c1_1] 24 ?_; intro gb506 hg w63 hbox hb; have BK506 := Aside0.mk (hbox); have GW506 := bz hg HB; have GE506 := bz hg HB; replace HB := bs HB hb; have NB505_506 := nl hg BK505; have NB506_505 := ng hg BK505; replace BK505 := kb BK505 hb; clear hb hbox hg) | ((with_reducible refine gate_dst (N := 4) rfl ?_); refine bx (N := 4) #[.bool false, .slice none 0 0] 24 ?_; intro gb507 hg w64 hbox hb; have BK507 := Aside0.mk (hbox); have GW507 := bz hg HB; have GE507 := bz hg HB; replace HB := bs HB hb; have NB505_507 := nl hg BK505; have NB507_505 := ng hg BK505; replace BK505 := kb BK505 hb; have NB506_507 := nl hg BK506; have NB507_506 := ng hg BK506; replace BK506 := kb BK506 hb; clear hb hbox hg) | ((with_reducible refine gate_dst (N := 5) rfl ?_); refine bx (N := 5) #[.bool false, .slice none 0 0] 24 ?_; intro gb508 hg w65 hbox hb; have BK508 := Aside0.mk (hbox); have GW508 := bz hg HB; have GE508 := bz hg HB; replace HB := bs HB hb; have NB505_508 := nl hg BK505; have NB508_505 := ng hg BK505; replace BK505 := kb BK505 hb; have NB506_508 := nl hg BK506; have NB508_506 := ng hg BK506; replace BK506 := kb BK506 hb; have NB507_508 := nl hg BK507; have NB508_507 := ng hg BK507; replace BK507 := kb BK507 hb; clear hb hbox hg; have hnb66 := NB505_506.out; have hnc66 := NB506_505.out; have hnb67 := NB505_507.out; have hnc67 := NB507_505.out; have hnb68 := NB505_508.out; have hnc68 := NB508_505.out; have hcz69_0 := bc BK505 0 (.bool a0_0); have hcz69_1 := bc BK505 1 (.slice A0_1 l0_1.length c0_1); have hfz69_0 := blk_frozen BK505.out 0; have hfz69_1 := blk_frozen BK505.out 1; have hnb70 := NB506_507.out; have hnc70 := NB507_506.out; have hnb71 := NB506_508.out; have hnc71 := NB508_506.out; have hcz72_0 := bc BK506 0 (.bool a1_0); have hcz72_1 := bc BK506 1 (.slice A1_1 l1_1.length c1_1); have hfz72_0 := blk_frozen BK506.out 0; have hfz72_1 := blk_frozen BK506.out 1) | ((with_reducible refine gate_callee (f := 67) rfl ?_); refine gL (N := some 14) Try.func67 #[.slice A0_1 l0_1.length c0_1, .slice A1_1 l1_1.length c1_1] ?_; (with_reducible refine (nat_DivMod.calls k (fun k_ => k_ < w.heap.size) _ _ l0_1 (fun k_ => k_ < w.heap.size) _ _ l1_1 t509 t512 t515 _ ?side1 ?side2 A3.out).mono ?_); (case side1 => exact Kd.V_mk HC0_1.out (Kd.F_below (Kd.C_F (Kd.heap_int .u32) HR0_1.out) (tb HB))); (case side2 => exact Kd.V_mk HC1_1.out (Kd.F_below (Kd.C_F (Kd.heap_int .u32) HR1_1.out) (tb HB))); rintro e w73 ⟨v510, v513, rfl, ho0, ho1, hb⟩; refine ⟨_, rfl, ?_⟩; have HO511 := Aside0.mk (Kd.V_lower (Kd.V_mono (ok' := fun k_ => k_ ≠ gb505 ∧ k_ ≠ gb506 ∧ k_ ≠ gb507 ∧ k_ ≠ gb508) ho0 (fun k_ hk_ => ⟨Or.elim hk_ (fun hs_ => Or.elim hs_ (fun hs_ => fun e_ => Nat.not_le.2 hs_ (by rw [e_]; exact GW505.out)) (fun hs_ => fun e_ => Nat.not_le.2 hs_ (by rw [e_]; exact GW505.out))) (fun hn_ => (Kd.freshB (g := gb505) (o := .cells #[.bool a0_0, .slice A0_1 l0_1.length c0_1] 24 (0, 0)) (tk BK505) k_ hn_)), Or.elim hk_ (fun hs_ => Or.elim hs_ (fun hs_ => fun e_ => Nat.not_le.2 hs_ (by rw [e_]; exact GW506.out)) (fun hs_ => fun e_ => Nat.not_le.2 hs_ (by rw [e_]; exact GW506.out))) (fun hn_ => (Kd.freshB (g := gb506) (o := .cells #[.bool a1_0, .slice A1_1 l1_1.length c1_1] 24 (0, 0)) (tk BK506) k_ hn_)), Or.elim hk_ (fun hs_ => Or.elim hs_ (fun hs_ => fun e_ => Nat.not_le.2 hs_ (by rw [e_]; exact GW507.out)) (fun hs_ => fun e_ => Nat.not_le.2 hs_ (by rw [e_]; exact GW507.out))) (fun hn_ => (Kd.freshB (g := gb507) (o := .cells #[.bool false, .slice none 0 0] 24 (0, 0)) (tk BK507) k_ hn_)), Or.elim hk_ (fun hs_ => Or.elim hs_ (fun hs_ => fun e_ => Nat.not_le.2 hs_ (by rw [e_]; exact GW508.out)) (fun hs_ => fun e_ => Nat.not_le.2 hs_ (by rw [e_]; exact GW508.out))) (fun hn_ => (Kd.freshB (g := gb508) (o := .cells #[.bool false, .slice none 0 0] 24 (0, 0)) (tk BK508) k_ hn_))⟩)) (below_size (tb HB))); have HO514 := Aside0.mk (Kd.V_lower (Kd.V_mono (ok' := fun k_ => k_ ≠ gb505 ∧ k_ ≠ gb506 ∧ k_ ≠ gb507 ∧ k_ ≠ gb508) ho1 (fun k_ hk_ => ⟨Or.elim hk_ (fun hs_ => Or.elim hs_ (fun hs_ => fun e_ => Nat.not_le.2 hs_ (by rw [e_]; exact GW505.out)) (fun hs_ => fun e_ => Nat.not_le.2 hs_ (by rw [e_]; exact GW505.out))) (fun hn_ => (Kd.freshB (g := gb505) (o := .cells #[.bool a0_0, .slice A0_1 l0_1.length c0_1] 24 (0, 0)) (tk BK505) k_ hn_)), Or.elim hk_ (fun hs_ => Or.elim hs_ (fun hs_ => fun e_ => Nat.not_le.2 hs_ (by rw [e_]; exact GW506.out)) (fun hs_ => fun e_ => Nat.not_le.2 hs_ (by rw [e_]; exact GW506.out))) (fun hn_ => (Kd.freshB (g := gb506) (o := .cells #[.bool a1_0, .slice A1_1 l1_1.length c1_1] 24 (0, 0)) (tk BK506) k_ hn_)), Or.elim hk_ (fun hs_ => Or.elim hs_ (fun hs_ => fun e_ => Nat.not_le.2 hs_ (by rw [e_]; exact GW507.out)) (fun hs_ => fun e_ => Nat.not_le.2 hs_ (by rw [e_]; exact GW507.out))) (fun hn_ => (Kd.freshB (g := gb507) (o := .cells #[.bool false, .slice none 0 0] 24 (0, 0)) (tk BK507) k_ hn_)), Or.elim hk_ (fun hs_ => Or.elim hs_ (fun hs_ => fun e_ => Nat.not_le.2 hs_ (by rw [e_]; exact GW508.out)) (fun hs_ => fun e_ => Nat.not_le.2 hs_ (by rw [e_]; exact GW508.out))) (fun hn_ => (Kd.freshB (g := gb508) (o := .cells #[.bool false, .slice none 0 0] 24 (0, 0)) (tk BK508) k_ hn_))⟩)) (below_size (tb HB))); replace BK505 := kb BK505 hb; replace BK506 := kb BK506 hb; replace BK507 := kb BK507 hb; replace BK508 := kb BK508 hb; replace HB := bs HB hb; (try clear hb); (try clear hb2); (try clear hk); (try clear hi); (try clear ho0); (try clear ho1)))
   replace HO511 := Aside0.mk (Kd.V_drew HO511.out)
   replace HO514 := Aside0.mk (Kd.V_drew HO514.out)
   replace BK505 := Aside0.mk (blk_drew BK505.out)
   replace BK506 := Aside0.mk (blk_drew BK506.out)
   replace BK507 := Aside0.mk (blk_drew BK507.out)
   replace BK508 := Aside0.mk (blk_drew BK508.out)
   replace HB := Aside0.mk (below_drew1 HB.out)
   obtain ⟨Ao75, co75, eo75⟩ := Kd.V_slice HO511.out
   (first | subst eo75 | (injection eo75 with f1_ f2_ f3_; have f4_ := f1_.symm; have f5_ := f3_.symm; clear f1_ f2_ f3_; subst f4_; subst f5_))
   refine start_ (n := 13) (S := fun w' => w'.cell? ⟨gb505, 0, none⟩ = some (.bool a0_0) ∧ w'.cell? ⟨gb505, 1, none⟩ = some (.slice A0_1 l0_1.length c0_1) ∧ w'.cell? ⟨gb506, 0, none⟩ = some (.bool a1_0) ∧ w'.cell? ⟨gb506, 1, none⟩ = some (.slice A1_1 l1_1.length c1_1)) (ds := []) #[false, false, false, false, false, false, false, false, false, false, false, false, false] (by kernel_rfl) rfl rfl ⟨(blk_cell BK505.out 0).trans rfl, (blk_cell BK505.out 1).trans rfl, (blk_cell BK506.out 0).trans rfl, (blk_cell BK506.out 1).trans rfl⟩ (fun hHeld => ?_); refine with_tabW big_DivMod.tab4 big_DivMod.bits4 (fun HT_ HW_ => ?_)
   generalize w73.drew = w74 at HO511 HO514 BK505 BK506 BK507 BK508 HB hHeld ⊢
   refine pT (i := 0) (N := some 23) (bb 13 1) HT_ ?_
   refine pT (i := 2) (N := some 25) (bb 13 5) HT_ ?_
   refine pT (i := 5) (N := some 28) (bb 13 37) HT_ ?_
   refine pT (i := 7) (N := some 30) (bb 13 165) HT_ ?_
   refine pT (i := 9) (N := some 32) (bb 13 677) HT_ ?_
   refine tW (i := 1) (N := some 24) (bb 13 679) HT_ HW_ hHeld ?_
   refine tW (i := 3) (N := some 26) (bb 13 687) HT_ HW_ hHeld ?_
   refine pT (i := 4) (N := some 27) (bb 13 703) HT_ ?_
   refine tW (i := 8) (N := some 31) (bb 13 959) HT_ HW_ hHeld ?_
   refine oT (i := 6) (N := some 29) (bb 13 1023) HT_ fun K hK => ?_
   refine gS Try.func52 #[.bool (a0_0 != a1_0), .slice Ao75 t509.length co75] ?_
   with_reducible refine (big_norm.calls k (a0_0 != a1_0) _ _ t509 t516 t517 _ ?side1 ?side2 A5.out).mono ?_
   (case side1 => exact tc (Kd.V_reads' HO511.out).2.2)
   (case side2 => exact (Kd.V_reads' HO511.out).2.1)
   rintro e w76 ⟨v518, rfl, ho0, hb⟩
   refine ⟨_, rfl, ?_⟩
   replace HO514 := Aside0.mk (Kd.V_elder' (tv HO514) (Kd.R_base ho0) hb)
   have HO519 := rl ho0 HB
   replace BK505 := kb BK505 hb
   replace BK506 := kb BK506 hb
   replace BK507 := kb BK507 hb
   replace BK508 := kb BK508 hb
   replace HB := bs HB hb
   (try clear hb); (try clear hb2); (try clear hk); (try clear hi); (try clear ho0)
   obtain ⟨Ao77, co77, eo77⟩ := Kd.V_slice HO514.out
   (first | subst eo77 | (injection eo77 with f1_ f2_ f3_; have f4_ := f1_.symm; have f5_ := f3_.symm; clear f1_ f2_ f3_; subst f4_; subst f5_))
   refine hK.out _ _ ⟨(blk_cell BK505.out 0).trans rfl, (blk_cell BK505.out 1).trans rfl, (blk_cell BK506.out 0).trans rfl, (blk_cell BK506.out 1).trans rfl⟩ fun hHeld => nT (N := some 29) ?_
   clear hK K
   refine oT (i := 10) (N := some 33) (bb 13 2047) HT_ fun K hK => ?_
   refine gS Try.func52 #[.bool a0_0, .slice Ao77 t512.length co77] ?_
   with_reducible refine (big_norm.calls k a0_0 _ _ t512 t520 t521 _ ?side1 ?side2 A6.out).mono ?_
   (case side1 => exact tc (Kd.V_reads' HO514.out).2.2)
   (case side2 => exact (Kd.V_reads' HO514.out).2.1)
   rintro e w78 ⟨v522, rfl, ho0, hb⟩
   refine ⟨_, rfl, ?_⟩
   have HO523 := Aside0.mk (Kd.R_lower (Kd.R_new' ho0 (Kd.R_lt (tq HO519))) (below_size (tb HB)))
   replace HO519 := re HO519 (Kd.R_base ho0) hb
   replace BK505 := kb BK505 hb
   replace BK506 := kb BK506 hb
   replace BK507 := kb BK507 hb
   replace BK508 := kb BK508 hb
   replace HB := bs HB hb
   (try clear hb); (try clear hb2); (try clear hk); (try clear hi); (try clear ho0)
   obtain ⟨Ao80, co80, eo80⟩ := Kd.R_slice HO519.out
   (first | subst eo80 | (injection eo80 with f1_ f2_ f3_; have f4_ := f1_.symm; have f5_ := f3_.symm; clear f1_ f2_ f3_; subst f4_; subst f5_))
   obtain ⟨Ao83, co83, eo83⟩ := Kd.R_slice HO523.out
   (first | subst eo83 | (injection eo83 with f1_ f2_ f3_; have f4_ := f1_.symm; have f5_ := f3_.symm; clear f1_ f2_ f3_; subst f4_; subst f5_))
   refine hK.out _ _ ⟨(blk_cell BK505.out 0).trans rfl, (blk_cell BK505.out 1).trans rfl, (blk_cell BK506.out 0).trans rfl, (blk_cell BK506.out 1).trans rfl⟩ fun hHeld => nT (N := some 33) ?_
   clear hK K
   refine oT (i := 11) (N := none) (bb 13 4095) HT_ fun K hK => ?_
   have hs79 := bc BK507 0 (.bool false)
   have hfs79 := blk_frozen BK507.out 0
   have hns79_0 := NB505_507.out
   have hns79_1 := NB506_507.out
   have hns79_3 := NB508_507.out
   have hms79_0 := NB507_505.out
   have hms79_1 := NB507_506.out
   have hms79_3 := NB507_508.out
   have hs81 := bc BK507 1 (.slice none 0 0)
   have hfs81 := blk_frozen BK507.out 1
   have hns81_0 := NB505_507.out
   have hns81_1 := NB506_507.out
   have hns81_3 := NB508_507.out
   have hms81_0 := NB507_505.out
   have hms81_1 := NB507_506.out
   have hms81_3 := NB507_508.out
   refine skip_ (w1 := ?_) (by rfl) rfl ?_ ?_
   rotate_left
   ·go_simp
    rfl
   refine hK.out _ _ ⟨((cell_far (p := ⟨gb507, _, none⟩) NB505_507.out _).trans (((cell_far (p := ⟨gb507, _, none⟩) NB505_507.out _).trans (hHeld.1)))), ((cell_far (p := ⟨gb507, _, none⟩) NB505_507.out _).trans (((cell_far (p := ⟨gb507, _, none⟩) NB505_507.out _).trans (hHeld.2.1)))), ((cell_far (p := ⟨gb507, _, none⟩) NB506_507.out _).trans (((cell_far (p := ⟨gb507, _, none⟩) NB506_507.out _).trans (hHeld.2.2.1)))), ((cell_far (p := ⟨gb507, _, none⟩) NB506_507.out _).trans (((cell_far (p := ⟨gb507, _, none⟩) NB506_507.out _).trans (hHeld.2.2.2))))⟩ (fun hHeld => ?_)
   clear hK K
   refine oT (i := 12) (N := none) (bb 13 8191) HT_ fun K hK => ?_
   have hs82 := bc BK508 0 (.bool false)
   have hfs82 := blk_frozen BK508.out 0
   have hns82_0 := NB505_508.out
   have hns82_1 := NB506_508.out
   have hns82_2 := NB507_508.out
   have hms82_0 := NB508_505.out
   have hms82_1 := NB508_506.out
   have hms82_2 := NB508_507.out
   have hs84 := bc BK508 1 (.slice none 0 0)
   have hfs84 := blk_frozen BK508.out 1
   have hns84_0 := NB505_508.out
   have hns84_1 := NB506_508.out
   have hns84_2 := NB507_508.out
   have hms84_0 := NB508_505.out
   have hms84_1 := NB508_506.out
   have hms84_2 := NB508_507.out
   refine skip_ (w1 := ?_) (by rfl) rfl ?_ ?_
   rotate_left
   ·go_simp
    rfl
   refine hK.out _ _ ⟨((cell_far (p := ⟨gb508, _, none⟩) NB505_508.out _).trans (((cell_far (p := ⟨gb508, _, none⟩) NB505_508.out _).trans (hHeld.1)))), ((cell_far (p := ⟨gb508, _, none⟩) NB505_508.out _).trans (((cell_far (p := ⟨gb508, _, none⟩) NB505_508.out _).trans (hHeld.2.1)))), ((cell_far (p := ⟨gb508, _, none⟩) NB506_508.out _).trans (((cell_far (p := ⟨gb508, _, none⟩) NB506_508.out _).trans (hHeld.2.2.1)))), ((cell_far (p := ⟨gb508, _, none⟩) NB506_508.out _).trans (((cell_far (p := ⟨gb508, _, none⟩) NB506_508.out _).trans (hHeld.2.2.2))))⟩ (fun hHeld => ?_)
   clear hK K
   refine done_ (done_of HT_.out (by kernel_rfl)) ?_
   have hnb85 := NB508_507.out
   have hnc85 := NB507_508.out
   have hcz86_0 := bc BK508 0 (.bool false)
   have hcz86_1 := bc BK508 1 (.slice none 0 0)
   have hfz86_0 := blk_frozen BK508.out 0
   have hfz86_1 := blk_frozen BK508.out 1
   try go_wp2_with (first | ((with_reducible refine gate_callee (f := 26) rfl ?_); refine gL (N := some 35) Try.func26 #[.agg #[.bool t520, .slice Ao83 t521.length co83]] ?_; (with_reducible refine (big_Sign.calls k t520 _ _ t521 t524 _ ?side1 ?side2 A7.out).mono ?_); (case side1 => refine (Kd.R_reads' (e := 87) (base := w.heap.size) (ok := fun k_ => (True ∧ some k_ ≠ (.slice Ao80 t517.length co80 : Value).ownBlock)) (n := t521.length) (c := co83) ?_).2.2; exact (by (with_reducible repeat first | apply qa | apply qn | apply qd); exact (Kd.R_mono (Kd.R_mono (Kd.R_far (p := ⟨gb508, 1, none⟩) (Kd.R_far (p := ⟨gb508, 0, none⟩) (Kd.R_far (p := ⟨gb507, 1, none⟩) (Kd.R_far (p := ⟨gb507, 0, none⟩) (Kd.R_types (Kd.R_types HO523.out BK507.out (by decide)) BK508.out (by decide)) (fun _ hk => hk.1.2) (.bool t516)) (fun _ hk => hk.1.2) (.slice Ao80 t517.length co80)) (fun _ hk => hk.2) (.bool t520)) (fun _ hk => hk.2) (.slice Ao83 t521.length co83)) (fun _ h_ => h_.1)) (fun _ h_ => h_.1)))); (case side2 => exact (Kd.R_reads' HO523.out).2.1); rintro e w87 ⟨rfl, hb⟩; refine ⟨_, rfl, ?_⟩; replace HO519 := rt HO519 hb; replace HO523 := rt HO523 hb; replace BK507 := kb (o' := .cells #[.bool t516, .slice Ao80 t517.length co80] 24 (0, 0)) BK507 hb; replace BK508 := kb (o' := .cells #[.bool t520, .slice Ao83 t521.length co83] 24 (0, 0)) BK508 hb; replace HB := bs HB hb; (try clear hb); (try clear hb2); (try clear hk); (try clear hi)))
   replace HO519 := Aside0.mk (Kd.R_drew HO519.out)
   replace HO523 := Aside0.mk (Kd.R_drew HO523.out)
   replace BK507 := Aside0.mk (blk_drew BK507.out)
   replace BK508 := Aside0.mk (blk_drew BK508.out)
   replace HB := Aside0.mk (below_drew1 HB.out)
   refine start_ (n := 5) (S := fun w' => w'.cell? ⟨gb507, 0, none⟩ = some (.bool t516) ∧ w'.cell? ⟨gb507, 1, none⟩ = some (.slice Ao80 t517.length co80) ∧ w'.cell? ⟨gb508, 0, none⟩ = some (.bool t520) ∧ w'.cell? ⟨gb508, 1, none⟩ = some (.slice Ao83 t521.length co83)) (ds := []) #[false, false, false, false, false] (by kernel_rfl) rfl rfl ⟨(blk_cell BK507.out 0).trans rfl, (blk_cell BK507.out 1).trans rfl, (blk_cell BK508.out 0).trans rfl, (blk_cell BK508.out 1).trans rfl⟩ (fun hHeld => ?_)
   generalize w87.drew = w88 at HO519 HO523 BK507 BK508 HB hHeld ⊢
   refine t0 (i := 0) (N := some 46) (bb 5 1) hHeld ?_
   refine t0 (i := 1) (N := some 47) (bb 5 3) hHeld ?_
   refine o0 (i := 2) (N := none) #[true, true, true, false, false] fun K hK => ?_
   have hs89 := bc BK507 0 (.bool t516)
   have hfs89 := blk_frozen BK507.out 0
   have hns89_0 := NB505_507.out
   have hns89_1 := NB506_507.out
   have hns89_3 := NB508_507.out
   have hms89_0 := NB507_505.out
   have hms89_1 := NB507_506.out
   have hms89_3 := NB507_508.out
   have hs90 := bc BK507 1 (.slice Ao80 t517.length co80)
   have hfs90 := blk_frozen BK507.out 1
   have hns90_0 := NB505_507.out
   have hns90_1 := NB506_507.out
   have hns90_3 := NB508_507.out
   have hms90_0 := NB507_505.out
   have hms90_1 := NB507_506.out
   have hms90_3 := NB507_508.out
   refine skip_ (w1 := ?_) (by rfl) rfl ?_ ?_
   rotate_left
   ·go_simp
    rfl
   refine hK.out _ _ ⟨(blk_cell (cs := #[.bool t516, .slice Ao80 t517.length co80]) (t := 24) (tk BK507) 0).trans rfl, (blk_cell (cs := #[.bool t516, .slice Ao80 t517.length co80]) (t := 24) (tk BK507) 1).trans rfl, (blk_cell (cs := #[.bool t520, .slice Ao83 t521.length co83]) (t := 24) (tk BK508) 0).trans rfl, (blk_cell (cs := #[.bool t520, .slice Ao83 t521.length co83]) (t := 24) (tk BK508) 1).trans rfl⟩ (fun hHeld => ?_)
   clear hK K
   refine o0 (i := 3) (N := none) #[true, true, true, true, false] fun K hK => ?_
   have hs91 := bc BK508 0 (.bool t520)
   have hfs91 := blk_frozen BK508.out 0
   have hns91_0 := NB505_508.out
   have hns91_1 := NB506_508.out
   have hns91_2 := NB507_508.out
   have hms91_0 := NB508_505.out
   have hms91_1 := NB508_506.out
   have hms91_2 := NB508_507.out
   have hs92 := bc BK508 1 (.slice Ao83 t521.length co83)
   have hfs92 := blk_frozen BK508.out 1
   have hns92_0 := NB505_508.out
   have hns92_1 := NB506_508.out
   have hns92_2 := NB507_508.out
   have hms92_0 := NB508_505.out
   have hms92_1 := NB508_506.out
   have hms92_2 := NB508_507.out
   refine skip_ (w1 := ?_) (by rfl) rfl ?_ ?_
   rotate_left
   ·go_simp
    rfl
   refine hK.out _ _ ⟨(blk_cell (cs := #[.bool t516, .slice Ao80 t517.length co80]) (t := 24) (tk BK507) 0).trans rfl, (blk_cell (cs := #[.bool t516, .slice Ao80 t517.length co80]) (t := 24) (tk BK507) 1).trans rfl, (blk_cell (cs := #[.bool t520, .slice Ao83 t521.length co83]) (t := 24) (tk BK508) 0).trans rfl, (blk_cell (cs := #[.bool t520, .slice Ao83 t521.length co83]) (t := 24) (tk BK508) 1).trans rfl⟩ (fun hHeld => ?_)
   clear hK K
   refine p0 (i := 4) (N := some 6) (bb 5 31) ?_
   refine done_ (by kernel_rfl) ?_
   try go_wp2
   refine bodyPost_ret (results_list (rs := [.cell 4 24, .cell 5 24, .tmp 6]) rfl (by simp) (.cell gb507 24 #[.bool t516, .slice Ao80 t517.length co80] (0, 0) _ rfl (tk BK507) Try.underlying24 rfl (by kernel_rfl) (.cell gb508 24 #[.bool t520, .slice Ao83 t521.length co83] (0, 0) _ rfl (tk BK508) Try.underlying24 rfl (by kernel_rfl) (.tmp .nil)))) rfl ?_
   exact ⟨_, _, by first | rfl | (simp [errW_none, errW_some] <;> rfl) | (simp [*, errW_none, errW_some] <;> rfl), by (with_reducible repeat first | apply qa | apply qn | apply qd); exact Kd.R_mono (Kd.R_far (p := ⟨gb508, 1, none⟩) (Kd.R_far (p := ⟨gb508, 0, none⟩) (Kd.R_far (p := ⟨gb507, 1, none⟩) (Kd.R_far (p := ⟨gb507, 0, none⟩) (Kd.R_types (Kd.R_types HO519.out BK507.out (by decide)) BK508.out (by decide)) (fun _ hk => hk.1.2) (.bool t516)) (fun _ hk => hk.1.2) (.slice Ao80 t517.length co80)) (fun _ hk => hk.2) (.bool t520)) (fun _ hk => hk.2) (.slice Ao83 t521.length co83)) (fun _ hk => hk.1.1.2), by (with_reducible repeat first | apply qa | apply qn | apply qd); exact Kd.R_mono (Kd.R_far (p := ⟨gb508, 1, none⟩) (Kd.R_far (p := ⟨gb508, 0, none⟩) (Kd.R_far (p := ⟨gb507, 1, none⟩) (Kd.R_far (p := ⟨gb507, 0, none⟩) (Kd.R_types (Kd.R_types HO523.out BK507.out (by decide)) BK508.out (by decide)) (fun _ hk => hk.1.2) (.bool t516)) (fun _ hk => hk.1.2) (.slice Ao80 t517.length co80)) (fun _ hk => hk.2) (.bool t520)) (fun _ hk => hk.2) (.slice Ao83 t521.length co83)) (fun _ hk => hk.1.1.2), tb HB⟩
 ·rw [if_neg c4] at H
  have c4b0 : (t515 == 0) = false := beq_eq_false_iff_ne.mpr c4
  have c4b1 : (t515 != 0) = true := bne_iff_ne.mpr c4
  simp only [Option.some.injEq, Prod.mk.injEq] at H
  obtain ⟨rfl, rfl, rfl, rfl, rfl⟩ := H
  go_enter Try.func33, Try.ntmps33
  go_wp2_with (first | ((with_reducible refine gate_dst (N := 2) rfl ?_); refine bx (N := 2) #[.bool a0_0, .slice A0_1 l0_1.length c0_1] 24 ?_; intro gb505 hg w93 hbox hb; have BK505 := Aside0.mk (hbox); have GW505 := bz hg HB; have GE505 := bz hg HB; replace HB := bs HB hb; clear hb hbox hg) | ((with_reducible refine gate_dst (N := 3) rfl ?_); refine bx (N := 3) #[.bool a1_0, .slice A1_1 l1_1.length c1_1] 24 ?_; intro gb506 hg w94 hbox hb; have BK506 := Aside0.mk (hbox); have GW506 := bz hg HB; have GE506 := bz hg HB; replace HB := bs HB hb; have NB505_506 := nl hg BK505; have NB506_505 := ng hg BK505; replace BK505 := kb BK505 hb; clear hb hbox hg) | ((with_reducible refine gate_dst (N := 4) rfl ?_); refine bx (N := 4) #[.bool false, .slice none 0 0] 24 ?_; intro gb507 hg w95 hbox hb; have BK507 := Aside0.mk (hbox); have GW507 := bz hg HB; have GE507 := bz hg HB; replace HB := bs HB hb; have NB505_507 := nl hg BK505; have NB507_505 := ng hg BK505; replace BK505 := kb BK505 hb; have NB506_507 := nl hg BK506; have NB507_506 := ng hg BK506; replace BK506 := kb BK506 hb; clear hb hbox hg) | ((with_reducible refine gate_dst (N := 5) rfl ?_); refine bx (N := 5) #[.bool false, .slice none 0 0] 24 ?_; intro gb508 hg w96 hbox hb; have BK508 := Aside0.mk (hbox); have GW508 := bz hg HB; have GE508 := bz hg HB; replace HB := bs HB hb; have NB505_508 := nl hg BK505; have NB508_505 := ng hg BK505; replace BK505 := kb BK505 hb; have NB506_508 := nl hg BK506; have NB508_506 := ng hg BK506; replace BK506 := kb BK506 hb; have NB507_508 := nl hg BK507; have NB508_507 := ng hg BK507; replace BK507 := kb BK507 hb; clear hb hbox hg; have hnb97 := NB505_506.out; have hnc97 := NB506_505.out; have hnb98 := NB505_507.out; have hnc98 := NB507_505.out; have hnb99 := NB505_508.out; have hnc99 := NB508_505.out; have hcz100_0 := bc BK505 0 (.bool a0_0); have hcz100_1 := bc BK505 1 (.slice A0_1 l0_1.length c0_1); have hfz100_0 := blk_frozen BK505.out 0; have hfz100_1 := blk_frozen BK505.out 1; have hnb101 := NB506_507.out; have hnc101 := NB507_506.out; have hnb102 := NB506_508.out; have hnc102 := NB508_506.out; have hcz103_0 := bc BK506 0 (.bool a1_0); have hcz103_1 := bc BK506 1 (.slice A1_1 l1_1.length c1_1); have hfz103_0 := blk_frozen BK506.out 0; have hfz103_1 := blk_frozen BK506.out 1) | ((with_reducible refine gate_callee (f := 67) rfl ?_); refine gL (N := some 14) Try.func67 #[.slice A0_1 l0_1.length c0_1, .slice A1_1 l1_1.length c1_1] ?_; (with_reducible refine (nat_DivMod.calls k (fun k_ => k_ < w.heap.size) _ _ l0_1 (fun k_ => k_ < w.heap.size) _ _ l1_1 t509 t512 t515 _ ?side1 ?side2 A3.out).mono ?_); (case side1 => exact Kd.V_mk HC0_1.out (Kd.F_below (Kd.C_F (Kd.heap_int .u32) HR0_1.out) (tb HB))); (case side2 => exact Kd.V_mk HC1_1.out (Kd.F_below (Kd.C_F (Kd.heap_int .u32) HR1_1.out) (tb HB))); rintro e w104 ⟨v510, v513, rfl, ho0, ho1, hb⟩; refine ⟨_, rfl, ?_⟩; replace BK507 := kb BK507 hb; replace BK508 := kb BK508 hb; replace HB := bs HB hb; (try clear hb); (try clear hb2); (try clear hk); (try clear hi); (try clear ho0); (try clear ho1); have hnb105 := NB507_508.out; have hnc105 := NB508_507.out; have hcz106_0 := bc BK507 0 (.bool false); have hcz106_1 := bc BK507 1 (.slice none 0 0); have hfz106_0 := blk_frozen BK507.out 0; have hfz106_1 := blk_frozen BK507.out 1; have hcz107_0 := bc BK508 0 (.bool false); have hcz107_1 := bc BK508 1 (.slice none 0 0); have hfz107_0 := blk_frozen BK508.out 0; have hfz107_1 := blk_frozen BK508.out 1))
  refine bodyPost_ret (results_list (rs := [.cell 4 24, .cell 5 24, .tmp 6]) rfl (by simp) (.cell gb507 24 #[.bool false, .slice none 0 0] (0, 0) _ rfl (tk BK507) Try.underlying24 rfl (by kernel_rfl) (.cell gb508 24 #[.bool false, .slice none 0 0] (0, 0) _ rfl (tk BK508) Try.underlying24 rfl (by kernel_rfl) (.tmp .nil)))) rfl ?_
  exact ⟨_, _, by first | rfl | (simp [errW_none, errW_some] <;> rfl) | (simp [*, errW_none, errW_some] <;> rfl), by first | exact Kd.R_nil _ _ _ _ _ | exact Kd.N_nil _ _ _ _ _ | exact Kd.V_nil _ _ _ _ _ | exact Kd.Q_nil _ _ _ _ _ | exact Kd.S_nil _ _ _ _ _, by first | exact Kd.R_nil _ _ _ _ _ | exact Kd.N_nil _ _ _ _ _ | exact Kd.V_nil _ _ _ _ _ | exact Kd.Q_nil _ _ _ _ _ | exact Kd.S_nil _ _ _ _ _, tb HB⟩

end Go.Proofs.Ytjpnaapimnoamaa.QBigGcds
