-- written by wip/wprint, a program of this session
import Derived.Test.YtfcnmgeokjemmaaQTopNumbersx0
import Derived.Test.YtfcnmgeokjemmaaQTopNumbersx4
import Derived.Test.YtfcnmgeokjemmaaQTopNumbersx6
import Derived.Test.YtfcnmgeokjemmaaQTopNumbersx7
namespace Go.Proofs.Ytfcnmgeokjemmaa.QTopNumbers
open Go.RowKit Go.Proofs.YtfcnmgeokjemmaaW.PrintWords Go.Proofs.YtfcnmgeokjemmaaW.PrintLast Go.Proofs.YtfcnmgeokjemmaaW.PrintMore
open Go.Proofs.YtfcnmgeokjemmaaW.PrintWords.Kd renaming R_alloc → qa, R_drewN → qn, R_drew → qd
open Go.Proofs.YtfcnmgeokjemmaaW.PrintWords renaming below_alloc → ba, pw_below_drewN → bn, below_drew1 → bd
attribute [local go_sem] max2_int min2_int max_two min_two max_three min_three max_four min_four   -- for this text's walks alone
set_option linter.unusedVariables false
set_option linter.unusedSimpArgs false

/-! ### big_Text: function 8 -/
def big_Text.f (k : Nat) (a0_0 : Bool) (l0_1 : List Int) : Option (ByteArray) := (big_Sign.f k a0_0 l0_1).bind fun t263 => (if t263 < 0 then ((nat_Text.f k l0_1).bind fun t264 => (if 1 + t264.size ≤ 9223372036854775807 then (some ((⟨#[45]⟩ : ByteArray) ++ t264)) else (none))) else ((nat_Text.f k l0_1).bind fun t265 => (some t265)))
theorem big_Text.mono : ∀ a0 a1 k, LeO (big_Text.f k a0 a1) (big_Text.f (k + 1) a0 a1) := by
  intro a0 a1 k
  unfold big_Text.f
  repeat' with_reducible first | exact big_Sign.mono _ _ _ | exact nat_Text.mono _ _ | exact LeO.refl _ | exact LeO.none _ | refine LeO.ite ?_ ?_ | refine LeO.bind ?_ (fun _ => ?_)
set_option maxHeartbeats 8000000 in
set_option maxRecDepth 100000 in
theorem big_Text.calls (k : Nat) (a0_0 : Bool) (A0_1 : Option Addr) (c0_1 : Nat) (l0_1 : List Int) (r : ByteArray) (w : World) (hr0_1 : Kd.C (Kd.int .u32) w A0_1 l0_1.length l0_1) (hc0_1 : l0_1.length ≤ c0_1) (h : big_Text.f k a0_0 l0_1 = some r) :
    Calls Try.prog 8 #[.agg #[.bool a0_0, .slice A0_1 l0_1.length c0_1]] w fun e w' => e = .returned (.string r) ∧ Below w.heap.size w w' := by
  have hu24 := Try.underlying24
  have HR0_1 := Aside0.mk hr0_1
  have HC0_1 := Aside0.mk hc0_1
  clear hr0_1 hc0_1
  have HB := Aside0.mk (Below.refl w.heap.size w)
  have H : ((big_Sign.f k a0_0 l0_1).bind fun t263 => (if t263 < 0 then ((nat_Text.f k l0_1).bind fun t264 => (if 1 + t264.size ≤ 9223372036854775807 then (some ((⟨#[45]⟩ : ByteArray) ++ t264)) else (none))) else ((nat_Text.f k l0_1).bind fun t265 => (some t265)))) = some r := h
  clear h
  replace H := bi H
  obtain ⟨t263, A20, H⟩ := H
  have A2 := Aside0.mk A20
  clear A20
  by_cases c3 : t263 < 0
  · rw [if_pos c3] at H
    have c3b0 : decide (t263 < 0) = true := decide_eq_true c3
    clear c3
    replace H := bi H
    obtain ⟨t264, A40, H⟩ := H
    have A4 := Aside0.mk A40
    clear A40
    by_cases c5 : 1 + t264.size ≤ 9223372036854775807
    · rw [if_pos c5] at H
      have c5b0 := eq_true c5
      have c5b1 : decide (1 + t264.size ≤ 9223372036854775807) = true := decide_eq_true c5
      try have c5b2 : (9223372036854775807 < 1 + t264.size) = False := eq_false (Nat.not_lt.2 c5)
      obtain rfl := Option.some.inj H
      go_enter Try.func8, Try.ntmps8
      go_wp2_with (first | ((with_reducible refine gate_dst (N := 1) rfl ?_); refine bx (N := 1) #[.bool a0_0, .slice A0_1 l0_1.length c0_1] 24 ?_; intro gb262 hg w6 hbox hb; have BK262 := Aside0.mk (hbox); have GW262 := bz hg HB; have GE262 := bz hg HB; replace HB := bs HB hb; clear hb hbox hg; have hcz7_0 := bc BK262 0 (.bool a0_0); have hcz7_1 := bc BK262 1 (.slice A0_1 l0_1.length c0_1); have hfz7_0 := blk_frozen BK262.out 0; have hfz7_1 := blk_frozen BK262.out 1) | ((with_reducible refine gate_callee (f := 13) rfl ?_); refine gL (N := some 4) Try.func13 #[.agg #[.bool a0_0, .slice A0_1 l0_1.length c0_1]] ?_; (with_reducible refine (big_Sign.calls k a0_0 _ _ l0_1 t263 _ ?side1 ?side2 A2.out).mono ?_); (case side1 => exact tc (Kd.C_below HR0_1.out HB.out)); (case side2 => exact HC0_1.out); rintro e w8 ⟨rfl, hb⟩; refine ⟨_, rfl, ?_⟩; replace BK262 := kb BK262 hb; replace HB := bs HB hb; (try clear hb); (try clear hb2); (try clear hk); (try clear hi); have hcz9_0 := bc BK262 0 (.bool a0_0); have hcz9_1 := bc BK262 1 (.slice A0_1 l0_1.length c0_1); have hfz9_0 := blk_frozen BK262.out 0; have hfz9_1 := blk_frozen BK262.out 1) | ((with_reducible refine gate_callee (f := 5) rfl ?_); refine gL (N := some 8) Try.func5 #[.slice A0_1 l0_1.length c0_1] ?_; (with_reducible refine (nat_Text.calls k _ _ l0_1 t264 _ ?side1 ?side2 A4.out).mono ?_); (case side1 => exact tc (Kd.C_below HR0_1.out HB.out)); (case side2 => exact HC0_1.out); rintro e w10 ⟨rfl, hb⟩; refine ⟨_, rfl, ?_⟩; replace HB := bs HB hb; (try clear hb); (try clear hb2); (try clear hk); (try clear hi)))
      go_ret
      exact ⟨by first | rfl | (simp [errW_none, errW_some] <;> rfl) | (simp [*, errW_none, errW_some] <;> rfl), tb HB⟩
    · rw [if_neg c5] at H
      exact absurd H (by simp)
  · rw [if_neg c3] at H
    have c3b0 : decide (t263 < 0) = false := decide_eq_false c3
    clear c3
    replace H := bi H
    obtain ⟨t265, A110, H⟩ := H
    have A11 := Aside0.mk A110
    clear A110
    obtain rfl := Option.some.inj H
    go_enter Try.func8, Try.ntmps8
    go_wp2_with (first | ((with_reducible refine gate_dst (N := 1) rfl ?_); refine bx (N := 1) #[.bool a0_0, .slice A0_1 l0_1.length c0_1] 24 ?_; intro gb262 hg w12 hbox hb; have BK262 := Aside0.mk (hbox); have GW262 := bz hg HB; have GE262 := bz hg HB; replace HB := bs HB hb; clear hb hbox hg; have hcz13_0 := bc BK262 0 (.bool a0_0); have hcz13_1 := bc BK262 1 (.slice A0_1 l0_1.length c0_1); have hfz13_0 := blk_frozen BK262.out 0; have hfz13_1 := blk_frozen BK262.out 1) | ((with_reducible refine gate_callee (f := 13) rfl ?_); refine gL (N := some 4) Try.func13 #[.agg #[.bool a0_0, .slice A0_1 l0_1.length c0_1]] ?_; (with_reducible refine (big_Sign.calls k a0_0 _ _ l0_1 t263 _ ?side1 ?side2 A2.out).mono ?_); (case side1 => exact tc (Kd.C_below HR0_1.out HB.out)); (case side2 => exact HC0_1.out); rintro e w14 ⟨rfl, hb⟩; refine ⟨_, rfl, ?_⟩; replace BK262 := kb BK262 hb; replace HB := bs HB hb; (try clear hb); (try clear hb2); (try clear hk); (try clear hi); have hcz15_0 := bc BK262 0 (.bool a0_0); have hcz15_1 := bc BK262 1 (.slice A0_1 l0_1.length c0_1); have hfz15_0 := blk_frozen BK262.out 0; have hfz15_1 := blk_frozen BK262.out 1) | ((with_reducible refine gate_callee (f := 5) rfl ?_); refine gL (N := some 12) Try.func5 #[.slice A0_1 l0_1.length c0_1] ?_; (with_reducible refine (nat_Text.calls k _ _ l0_1 t265 _ ?side1 ?side2 A11.out).mono ?_); (case side1 => exact tc (Kd.C_below HR0_1.out HB.out)); (case side2 => exact HC0_1.out); rintro e w16 ⟨rfl, hb⟩; refine ⟨_, rfl, ?_⟩; replace HB := bs HB hb; (try clear hb); (try clear hb2); (try clear hk); (try clear hi)))
    go_ret
    exact ⟨by first | rfl | (simp [errW_none, errW_some] <;> rfl) | (simp [*, errW_none, errW_some] <;> rfl), tb HB⟩

/-! ### big_Cmp: function 10 -/
def big_Cmp.f (k : Nat) (a0_0 : Bool) (l0_1 : List Int) (a1_0 : Bool) (l1_1 : List Int) : Option (Int) := (big_Sign.f k a0_0 l0_1).bind fun t268 => ((big_Sign.f k a1_0 l1_1).bind fun t269 => (if t268 < t269 then (some (-1)) else (if t268 > t269 then (some 1) else ((nat_Cmp.f k l0_1 l1_1).bind fun t270 => (some (wrap64 (t268 * t270)))))))
theorem big_Cmp.mono : ∀ a0 a1 a2 a3 k, LeO (big_Cmp.f k a0 a1 a2 a3) (big_Cmp.f (k + 1) a0 a1 a2 a3) := by
  intro a0 a1 a2 a3 k
  unfold big_Cmp.f
  repeat' with_reducible first | exact big_Sign.mono _ _ _ | exact nat_Cmp.mono _ _ _ | exact LeO.refl _ | exact LeO.none _ | refine LeO.ite ?_ ?_ | refine LeO.bind ?_ (fun _ => ?_)
set_option maxHeartbeats 8000000 in
set_option maxRecDepth 100000 in
theorem big_Cmp.calls (k : Nat) (a0_0 : Bool) (A0_1 : Option Addr) (c0_1 : Nat) (l0_1 : List Int) (a1_0 : Bool) (A1_1 : Option Addr) (c1_1 : Nat) (l1_1 : List Int) (r : Int) (w : World) (hr0_1 : Kd.C (Kd.int .u32) w A0_1 l0_1.length l0_1) (hc0_1 : l0_1.length ≤ c0_1) (hr1_1 : Kd.C (Kd.int .u32) w A1_1 l1_1.length l1_1) (hc1_1 : l1_1.length ≤ c1_1) (h : big_Cmp.f k a0_0 l0_1 a1_0 l1_1 = some r) :
    Calls Try.prog 10 #[.agg #[.bool a0_0, .slice A0_1 l0_1.length c0_1], .agg #[.bool a1_0, .slice A1_1 l1_1.length c1_1]] w fun e w' => e = .returned (.int .i64 r) ∧ Below w.heap.size w w' := by
  have hu24 := Try.underlying24
  have HR0_1 := Aside0.mk hr0_1
  have HC0_1 := Aside0.mk hc0_1
  clear hr0_1 hc0_1
  have HR1_1 := Aside0.mk hr1_1
  have HC1_1 := Aside0.mk hc1_1
  clear hr1_1 hc1_1
  have HB := Aside0.mk (Below.refl w.heap.size w)
  have H : ((big_Sign.f k a0_0 l0_1).bind fun t268 => ((big_Sign.f k a1_0 l1_1).bind fun t269 => (if t268 < t269 then (some (-1)) else (if t268 > t269 then (some 1) else ((nat_Cmp.f k l0_1 l1_1).bind fun t270 => (some (wrap64 (t268 * t270)))))))) = some r := h
  clear h
  replace H := bi H
  obtain ⟨t268, A30, H⟩ := H
  have A3 := Aside0.mk A30
  clear A30
  replace H := bi H
  obtain ⟨t269, A40, H⟩ := H
  have A4 := Aside0.mk A40
  clear A40
  by_cases c5 : t268 < t269
  · rw [if_pos c5] at H
    have c5b0 : decide (t268 < t269) = true := decide_eq_true c5
    clear c5
    obtain rfl := Option.some.inj H
    go_enter Try.func10, Try.ntmps10
    try go_wp2_with (first | ((with_reducible refine gate_dst (N := 2) rfl ?_); refine bx (N := 2) #[.bool a0_0, .slice A0_1 l0_1.length c0_1] 24 ?_; intro gb266 hg w6 hbox hb; have BK266 := Aside0.mk (hbox); have GW266 := bz hg HB; have GE266 := bz hg HB; replace HB := bs HB hb; clear hb hbox hg) | ((with_reducible refine gate_dst (N := 3) rfl ?_); refine bx (N := 3) #[.bool a1_0, .slice A1_1 l1_1.length c1_1] 24 ?_; intro gb267 hg w7 hbox hb; have BK267 := Aside0.mk (hbox); have GW267 := bz hg HB; have GE267 := bz hg HB; replace HB := bs HB hb; have NB266_267 := nl hg BK266; have NB267_266 := ng hg BK266; replace BK266 := kb BK266 hb; clear hb hbox hg))
    replace BK266 := Aside0.mk (blk_drew BK266.out)
    replace BK267 := Aside0.mk (blk_drew BK267.out)
    replace HB := Aside0.mk (below_drew1 HB.out)
    refine start_ (n := 6) (S := fun w' => w'.cell? ⟨gb266, 0, none⟩ = some (.bool a0_0) ∧ w'.cell? ⟨gb266, 1, none⟩ = some (.slice A0_1 l0_1.length c0_1) ∧ w'.cell? ⟨gb267, 0, none⟩ = some (.bool a1_0) ∧ w'.cell? ⟨gb267, 1, none⟩ = some (.slice A1_1 l1_1.length c1_1)) (ds := []) #[false, false, false, false, false, false] (by kernel_rfl) rfl rfl ⟨(blk_cell BK266.out 0).trans rfl, (blk_cell BK266.out 1).trans rfl, (blk_cell BK267.out 0).trans rfl, (blk_cell BK267.out 1).trans rfl⟩ (fun hHeld => ?_)
    generalize w7.drew = w8 at BK266 BK267 HB hHeld ⊢
    refine t0 (i := 0) (N := some 7) (bb 6 1) hHeld ?_
    refine t0 (i := 2) (N := some 9) (bb 6 5) hHeld ?_
    refine o0 (i := 1) (N := some 8) (bb 6 7) fun K hK => ?_
    refine gS Try.func13 #[.agg #[.bool a0_0, .slice A0_1 l0_1.length c0_1]] ?_
    with_reducible refine (big_Sign.calls k a0_0 _ _ l0_1 t268 _ ?side1 ?side2 A3.out).mono ?_
    (case side1 => exact tc (Kd.C_below HR0_1.out HB.out))
    (case side2 => exact HC0_1.out)
    rintro e w9 ⟨rfl, hb⟩
    refine ⟨_, rfl, ?_⟩
    replace BK266 := kb BK266 hb
    replace BK267 := kb BK267 hb
    replace HB := bs HB hb
    (try clear hb); (try clear hb2); (try clear hk); (try clear hi)
    refine hK.out _ _ ⟨(blk_cell BK266.out 0).trans rfl, (blk_cell BK266.out 1).trans rfl, (blk_cell BK267.out 0).trans rfl, (blk_cell BK267.out 1).trans rfl⟩ fun hHeld => nT (N := some 8) ?_
    clear hK K
    refine o0 (i := 3) (N := some 10) (bb 6 15) fun K hK => ?_
    refine gS Try.func13 #[.agg #[.bool a1_0, .slice A1_1 l1_1.length c1_1]] ?_
    with_reducible refine (big_Sign.calls k a1_0 _ _ l1_1 t269 _ ?side1 ?side2 A4.out).mono ?_
    (case side1 => exact tc (Kd.C_below HR1_1.out HB.out))
    (case side2 => exact HC1_1.out)
    rintro e w10 ⟨rfl, hb⟩
    refine ⟨_, rfl, ?_⟩
    replace BK266 := kb BK266 hb
    replace BK267 := kb BK267 hb
    replace HB := bs HB hb
    (try clear hb); (try clear hb2); (try clear hk); (try clear hi)
    refine hK.out _ _ ⟨(blk_cell BK266.out 0).trans rfl, (blk_cell BK266.out 1).trans rfl, (blk_cell BK267.out 0).trans rfl, (blk_cell BK267.out 1).trans rfl⟩ fun hHeld => nT (N := some 10) ?_
    clear hK K
    refine p0 (i := 4) (N := some 5) (bb 6 31) ?_
    refine p0 (i := 5) (N := some 6) (bb 6 63) ?_
    refine done_ (by kernel_rfl) ?_
    try go_wp2
    go_ret
    exact ⟨by first | rfl | (simp [errW_none, errW_some] <;> rfl) | (simp [*, errW_none, errW_some] <;> rfl), tb HB⟩
  · rw [if_neg c5] at H
    have c5b0 : decide (t268 < t269) = false := decide_eq_false c5
    clear c5
    by_cases c11 : t268 > t269
    · rw [if_pos c11] at H
      have c11b0 : decide (t269 < t268) = true := decide_eq_true c11
      clear c11
      obtain rfl := Option.some.inj H
      go_enter Try.func10, Try.ntmps10
      try go_wp2_with (first | ((with_reducible refine gate_dst (N := 2) rfl ?_); refine bx (N := 2) #[.bool a0_0, .slice A0_1 l0_1.length c0_1] 24 ?_; intro gb266 hg w12 hbox hb; have BK266 := Aside0.mk (hbox); have GW266 := bz hg HB; have GE266 := bz hg HB; replace HB := bs HB hb; clear hb hbox hg) | ((with_reducible refine gate_dst (N := 3) rfl ?_); refine bx (N := 3) #[.bool a1_0, .slice A1_1 l1_1.length c1_1] 24 ?_; intro gb267 hg w13 hbox hb; have BK267 := Aside0.mk (hbox); have GW267 := bz hg HB; have GE267 := bz hg HB; replace HB := bs HB hb; have NB266_267 := nl hg BK266; have NB267_266 := ng hg BK266; replace BK266 := kb BK266 hb; clear hb hbox hg))
      replace BK266 := Aside0.mk (blk_drew BK266.out)
      replace BK267 := Aside0.mk (blk_drew BK267.out)
      replace HB := Aside0.mk (below_drew1 HB.out)
      refine start_ (n := 6) (S := fun w' => w'.cell? ⟨gb266, 0, none⟩ = some (.bool a0_0) ∧ w'.cell? ⟨gb266, 1, none⟩ = some (.slice A0_1 l0_1.length c0_1) ∧ w'.cell? ⟨gb267, 0, none⟩ = some (.bool a1_0) ∧ w'.cell? ⟨gb267, 1, none⟩ = some (.slice A1_1 l1_1.length c1_1)) (ds := []) #[false, false, false, false, false, false] (by kernel_rfl) rfl rfl ⟨(blk_cell BK266.out 0).trans rfl, (blk_cell BK266.out 1).trans rfl, (blk_cell BK267.out 0).trans rfl, (blk_cell BK267.out 1).trans rfl⟩ (fun hHeld => ?_)
      generalize w13.drew = w14 at BK266 BK267 HB hHeld ⊢
      refine t0 (i := 0) (N := some 7) (bb 6 1) hHeld ?_
      refine t0 (i := 2) (N := some 9) (bb 6 5) hHeld ?_
      refine o0 (i := 1) (N := some 8) (bb 6 7) fun K hK => ?_
      refine gS Try.func13 #[.agg #[.bool a0_0, .slice A0_1 l0_1.length c0_1]] ?_
      with_reducible refine (big_Sign.calls k a0_0 _ _ l0_1 t268 _ ?side1 ?side2 A3.out).mono ?_
      (case side1 => exact tc (Kd.C_below HR0_1.out HB.out))
      (case side2 => exact HC0_1.out)
      rintro e w15 ⟨rfl, hb⟩
      refine ⟨_, rfl, ?_⟩
      replace BK266 := kb BK266 hb
      replace BK267 := kb BK267 hb
      replace HB := bs HB hb
      (try clear hb); (try clear hb2); (try clear hk); (try clear hi)
      refine hK.out _ _ ⟨(blk_cell BK266.out 0).trans rfl, (blk_cell BK266.out 1).trans rfl, (blk_cell BK267.out 0).trans rfl, (blk_cell BK267.out 1).trans rfl⟩ fun hHeld => nT (N := some 8) ?_
      clear hK K
      refine o0 (i := 3) (N := some 10) (bb 6 15) fun K hK => ?_
      refine gS Try.func13 #[.agg #[.bool a1_0, .slice A1_1 l1_1.length c1_1]] ?_
      with_reducible refine (big_Sign.calls k a1_0 _ _ l1_1 t269 _ ?side1 ?side2 A4.out).mono ?_
      (case side1 => exact tc (Kd.C_below HR1_1.out HB.out))
      (case side2 => exact HC1_1.out)
      rintro e w16 ⟨rfl, hb⟩
      refine ⟨_, rfl, ?_⟩
      replace BK266 := kb BK266 hb
      replace BK267 := kb BK267 hb
      replace HB := bs HB hb
      (try clear hb); (try clear hb2); (try clear hk); (try clear hi)
      refine hK.out _ _ ⟨(blk_cell BK266.out 0).trans rfl, (blk_cell BK266.out 1).trans rfl, (blk_cell BK267.out 0).trans rfl, (blk_cell BK267.out 1).trans rfl⟩ fun hHeld => nT (N := some 10) ?_
      clear hK K
      refine p0 (i := 4) (N := some 5) (bb 6 31) ?_
      refine p0 (i := 5) (N := some 6) (bb 6 63) ?_
      refine done_ (by kernel_rfl) ?_
      try go_wp2
      go_ret
      exact ⟨by first | rfl | (simp [errW_none, errW_some] <;> rfl) | (simp [*, errW_none, errW_some] <;> rfl), tb HB⟩
    · rw [if_neg c11] at H
      have c11b0 : decide (t269 < t268) = false := decide_eq_false c11
      clear c11
      replace H := bi H
      obtain ⟨t270, A170, H⟩ := H
      have A17 := Aside0.mk A170
      clear A170
      obtain rfl := Option.some.inj H
      go_enter Try.func10, Try.ntmps10
      try go_wp2_with (first | ((with_reducible refine gate_dst (N := 2) rfl ?_); refine bx (N := 2) #[.bool a0_0, .slice A0_1 l0_1.length c0_1] 24 ?_; intro gb266 hg w18 hbox hb; have BK266 := Aside0.mk (hbox); have GW266 := bz hg HB; have GE266 := bz hg HB; replace HB := bs HB hb; clear hb hbox hg) | ((with_reducible refine gate_dst (N := 3) rfl ?_); refine bx (N := 3) #[.bool a1_0, .slice A1_1 l1_1.length c1_1] 24 ?_; intro gb267 hg w19 hbox hb; have BK267 := Aside0.mk (hbox); have GW267 := bz hg HB; have GE267 := bz hg HB; replace HB := bs HB hb; have NB266_267 := nl hg BK266; have NB267_266 := ng hg BK266; replace BK266 := kb BK266 hb; clear hb hbox hg))
      replace BK266 := Aside0.mk (blk_drew BK266.out)
      replace BK267 := Aside0.mk (blk_drew BK267.out)
      replace HB := Aside0.mk (below_drew1 HB.out)
      refine start_ (n := 6) (S := fun w' => w'.cell? ⟨gb266, 0, none⟩ = some (.bool a0_0) ∧ w'.cell? ⟨gb266, 1, none⟩ = some (.slice A0_1 l0_1.length c0_1) ∧ w'.cell? ⟨gb267, 0, none⟩ = some (.bool a1_0) ∧ w'.cell? ⟨gb267, 1, none⟩ = some (.slice A1_1 l1_1.length c1_1)) (ds := []) #[false, false, false, false, false, false] (by kernel_rfl) rfl rfl ⟨(blk_cell BK266.out 0).trans rfl, (blk_cell BK266.out 1).trans rfl, (blk_cell BK267.out 0).trans rfl, (blk_cell BK267.out 1).trans rfl⟩ (fun hHeld => ?_)
      generalize w19.drew = w20 at BK266 BK267 HB hHeld ⊢
      refine t0 (i := 0) (N := some 7) (bb 6 1) hHeld ?_
      refine t0 (i := 2) (N := some 9) (bb 6 5) hHeld ?_
      refine o0 (i := 1) (N := some 8) (bb 6 7) fun K hK => ?_
      refine gS Try.func13 #[.agg #[.bool a0_0, .slice A0_1 l0_1.length c0_1]] ?_
      with_reducible refine (big_Sign.calls k a0_0 _ _ l0_1 t268 _ ?side1 ?side2 A3.out).mono ?_
      (case side1 => exact tc (Kd.C_below HR0_1.out HB.out))
      (case side2 => exact HC0_1.out)
      rintro e w21 ⟨rfl, hb⟩
      refine ⟨_, rfl, ?_⟩
      replace BK266 := kb BK266 hb
      replace BK267 := kb BK267 hb
      replace HB := bs HB hb
      (try clear hb); (try clear hb2); (try clear hk); (try clear hi)
      refine hK.out _ _ ⟨(blk_cell BK266.out 0).trans rfl, (blk_cell BK266.out 1).trans rfl, (blk_cell BK267.out 0).trans rfl, (blk_cell BK267.out 1).trans rfl⟩ fun hHeld => nT (N := some 8) ?_
      clear hK K
      refine o0 (i := 3) (N := some 10) (bb 6 15) fun K hK => ?_
      refine gS Try.func13 #[.agg #[.bool a1_0, .slice A1_1 l1_1.length c1_1]] ?_
      with_reducible refine (big_Sign.calls k a1_0 _ _ l1_1 t269 _ ?side1 ?side2 A4.out).mono ?_
      (case side1 => exact tc (Kd.C_below HR1_1.out HB.out))
      (case side2 => exact HC1_1.out)
      rintro e w22 ⟨rfl, hb⟩
      refine ⟨_, rfl, ?_⟩
      replace BK266 := kb BK266 hb
      replace BK267 := kb BK267 hb
      replace HB := bs HB hb
      (try clear hb); (try clear hb2); (try clear hk); (try clear hi)
      refine hK.out _ _ ⟨(blk_cell BK266.out 0).trans rfl, (blk_cell BK266.out 1).trans rfl, (blk_cell BK267.out 0).trans rfl, (blk_cell BK267.out 1).trans rfl⟩ fun hHeld => nT (N := some 10) ?_
      clear hK K
      refine p0 (i := 4) (N := some 5) (bb 6 31) ?_
      refine p0 (i := 5) (N := some 6) (bb 6 63) ?_
      refine done_ (by kernel_rfl) ?_
      have hnb23 := NB266_267.out
      have hnc23 := NB267_266.out
      have hcz24_0 := bc BK266 0 (.bool a0_0)
      have hcz24_1 := bc BK266 1 (.slice A0_1 l0_1.length c0_1)
      have hfz24_0 := blk_frozen BK266.out 0
      have hfz24_1 := blk_frozen BK266.out 1
      have hcz25_0 := bc BK267 0 (.bool a1_0)
      have hcz25_1 := bc BK267 1 (.slice A1_1 l1_1.length c1_1)
      have hfz25_0 := blk_frozen BK267.out 0
      have hfz25_1 := blk_frozen BK267.out 1
      try go_wp2_with (first | ((with_reducible refine gate_callee (f := 11) rfl ?_); refine gL (N := some 24) Try.func11 #[.slice A0_1 l0_1.length c0_1, .slice A1_1 l1_1.length c1_1] ?_; (with_reducible refine (nat_Cmp.calls k _ _ l0_1 _ _ l1_1 t270 _ ?side1 ?side2 ?side3 ?side4 A17.out).mono ?_); (case side1 => exact tc (Kd.C_below HR0_1.out HB.out)); (case side2 => exact HC0_1.out); (case side3 => exact tc (Kd.C_below HR1_1.out HB.out)); (case side4 => exact HC1_1.out); rintro e w26 ⟨rfl, hb⟩; refine ⟨_, rfl, ?_⟩; replace HB := bs HB hb; (try clear hb); (try clear hb2); (try clear hk); (try clear hi)))
      go_ret
      exact ⟨by first | rfl | (simp [errW_none, errW_some] <;> rfl) | (simp [*, errW_none, errW_some] <;> rfl), tb HB⟩

/-! ### big_Neg: function 23 -/
def big_Neg.f (k : Nat) (a0_0 : Bool) (l0_1 : List Int) : Option (Bool × List Int) := (big_norm.f k (!a0_0) l0_1).bind fun bt273 => (some (bt273.1, bt273.2))
theorem big_Neg.mono : ∀ a0 a1 k, LeO (big_Neg.f k a0 a1) (big_Neg.f (k + 1) a0 a1) := by
  intro a0 a1 k
  unfold big_Neg.f
  repeat' with_reducible first | exact big_norm.mono _ _ _ | exact LeO.refl _ | exact LeO.none _ | refine LeO.ite ?_ ?_ | refine LeO.bind ?_ (fun _ => ?_)
set_option maxHeartbeats 8000000 in
set_option maxRecDepth 100000 in
theorem big_Neg.calls (k : Nat) (a0_0 : Bool) (A0_1 : Option Addr) (c0_1 : Nat) (l0_1 : List Int) (r1 : Bool) (r2 : List Int) (w : World) (hr0_1 : Kd.C (Kd.int .u32) w A0_1 l0_1.length l0_1) (hc0_1 : l0_1.length ≤ c0_1) (h : big_Neg.f k a0_0 l0_1 = some (r1, r2)) :
    Calls Try.prog 23 #[.agg #[.bool a0_0, .slice A0_1 l0_1.length c0_1]] w fun e w' => ∃ v1_ : Value, e = .returned (.agg #[.bool r1, v1_]) ∧ Kd.R (Kd.int .u32) 42 w' w.heap.size (fun _ => True) v1_ r2 ∧ Below w.heap.size w w' := by
  have hu24 := Try.underlying24
  have HR0_1 := Aside0.mk hr0_1
  have HC0_1 := Aside0.mk hc0_1
  clear hr0_1 hc0_1
  have HB := Aside0.mk (Below.refl w.heap.size w)
  have H : ((big_norm.f k (!a0_0) l0_1).bind fun bt273 => (some (bt273.1, bt273.2))) = some (r1, r2) := h
  clear h
  replace H := bi H
  obtain ⟨⟨t273, t274⟩, A20, H⟩ := H
  try dsimp only at H
  have A2 := Aside0.mk A20
  clear A20
  simp only [Option.some.injEq, Prod.mk.injEq] at H
  obtain ⟨rfl, rfl⟩ := H
  go_enter Try.func23, Try.ntmps23
  go_wp2_with (first | ((with_reducible refine gate_dst (N := 1) rfl ?_); refine bx (N := 1) #[.bool a0_0, .slice A0_1 l0_1.length c0_1] 24 ?_; intro gb271 hg w3 hbox hb; have BK271 := Aside0.mk (hbox); have GW271 := bz hg HB; have GE271 := bz hg HB; replace HB := bs HB hb; clear hb hbox hg) | ((with_reducible refine gate_dst (N := 2) rfl ?_); refine bx (N := 2) #[.bool false, .slice none 0 0] 24 ?_; intro gb272 hg w4 hbox hb; have BK272 := Aside0.mk (hbox); have GW272 := bz hg HB; have GE272 := bz hg HB; replace HB := bs HB hb; have NB271_272 := nl hg BK271; have NB272_271 := ng hg BK271; replace BK271 := kb BK271 hb; clear hb hbox hg; have hnb5 := NB271_272.out; have hnc5 := NB272_271.out; have hcz6_0 := bc BK271 0 (.bool a0_0); have hcz6_1 := bc BK271 1 (.slice A0_1 l0_1.length c0_1); have hfz6_0 := blk_frozen BK271.out 0; have hfz6_1 := blk_frozen BK271.out 1) | ((with_reducible refine gate_callee (f := 15) rfl ?_); refine gL (N := some 8) Try.func15 #[.bool (!a0_0), .slice A0_1 l0_1.length c0_1] ?_; (with_reducible refine (big_norm.calls k (!a0_0) _ _ l0_1 t273 t274 _ ?side1 ?side2 A2.out).mono ?_); (case side1 => exact tc (Kd.C_below HR0_1.out HB.out)); (case side2 => exact HC0_1.out); rintro e w7 ⟨v275, rfl, ho0, hb⟩; refine ⟨_, rfl, ?_⟩; have HO276 := rl ho0 HB; replace BK272 := kb BK272 hb; replace HB := bs HB hb; (try clear hb); (try clear hb2); (try clear hk); (try clear hi); (try clear ho0); have hcz8_0 := bc BK272 0 (.bool false); have hcz8_1 := bc BK272 1 (.slice none 0 0); have hfz8_0 := blk_frozen BK272.out 0; have hfz8_1 := blk_frozen BK272.out 1; obtain ⟨Ao9, co9, eo9⟩ := Kd.R_slice HO276.out; subst eo9))
  refine bodyPost_ret (results_cell_row rfl _ _ gb272 24 #[.bool t273, .slice Ao9 t274.length co9] (0, 0) _ rfl (tk BK272) Try.underlying24 rfl (by kernel_rfl)) rfl ?_
  exact ⟨_, by first | rfl | (simp [errW_none, errW_some] <;> rfl) | (simp [*, errW_none, errW_some] <;> rfl), by (with_reducible repeat first | apply qa | apply qn | apply qd); exact Kd.R_mono (Kd.R_far (p := ⟨gb272, 1, none⟩) (Kd.R_far (p := ⟨gb272, 0, none⟩) (Kd.R_types HO276.out BK272.out (by decide)) (fun _ hk => hk.2) (.bool t273)) (fun _ hk => hk.2) (.slice Ao9 t274.length co9)) (fun _ hk => trivial), tb HB⟩

/-! ### big_Sub: function 12 -/
def big_Sub.f (k : Nat) (a0_0 : Bool) (l0_1 : List Int) (a1_0 : Bool) (l1_1 : List Int) : Option (Bool × List Int) := (big_Neg.f k a1_0 l1_1).bind fun bt280 => ((big_Add.f k a0_0 l0_1 bt280.1 bt280.2).bind fun bt284 => (some (bt284.1, bt284.2)))
theorem big_Sub.mono : ∀ a0 a1 a2 a3 k, LeO (big_Sub.f k a0 a1 a2 a3) (big_Sub.f (k + 1) a0 a1 a2 a3) := by
  intro a0 a1 a2 a3 k
  unfold big_Sub.f
  repeat' with_reducible first | exact big_Add.mono _ _ _ _ _ | exact big_Neg.mono _ _ _ | exact LeO.refl _ | exact LeO.none _ | refine LeO.ite ?_ ?_ | refine LeO.bind ?_ (fun _ => ?_)
set_option maxHeartbeats 8000000 in
set_option maxRecDepth 100000 in
theorem big_Sub.calls (k : Nat) (a0_0 : Bool) (A0_1 : Option Addr) (c0_1 : Nat) (l0_1 : List Int) (a1_0 : Bool) (A1_1 : Option Addr) (c1_1 : Nat) (l1_1 : List Int) (r1 : Bool) (r2 : List Int) (w : World) (hr0_1 : Kd.C (Kd.int .u32) w A0_1 l0_1.length l0_1) (hc0_1 : l0_1.length ≤ c0_1) (hr1_1 : Kd.C (Kd.int .u32) w A1_1 l1_1.length l1_1) (hc1_1 : l1_1.length ≤ c1_1) (h : big_Sub.f k a0_0 l0_1 a1_0 l1_1 = some (r1, r2)) :
    Calls Try.prog 12 #[.agg #[.bool a0_0, .slice A0_1 l0_1.length c0_1], .agg #[.bool a1_0, .slice A1_1 l1_1.length c1_1]] w fun e w' => ∃ v1_ : Value, e = .returned (.agg #[.bool r1, v1_]) ∧ Kd.R (Kd.int .u32) 42 w' w.heap.size (fun _ => True) v1_ r2 ∧ Below w.heap.size w w' := by
  have hu24 := Try.underlying24
  have HR0_1 := Aside0.mk hr0_1
  have HC0_1 := Aside0.mk hc0_1
  clear hr0_1 hc0_1
  have HR1_1 := Aside0.mk hr1_1
  have HC1_1 := Aside0.mk hc1_1
  clear hr1_1 hc1_1
  have HB := Aside0.mk (Below.refl w.heap.size w)
  have H : ((big_Neg.f k a1_0 l1_1).bind fun bt280 => ((big_Add.f k a0_0 l0_1 bt280.1 bt280.2).bind fun bt284 => (some (bt284.1, bt284.2)))) = some (r1, r2) := h
  clear h
  replace H := bi H
  obtain ⟨⟨t280, t281⟩, A30, H⟩ := H
  try dsimp only at H
  have A3 := Aside0.mk A30
  clear A30
  replace H := bi H
  obtain ⟨⟨t284, t285⟩, A40, H⟩ := H
  try dsimp only at H
  have A4 := Aside0.mk A40
  clear A40
  simp only [Option.some.injEq, Prod.mk.injEq] at H
  obtain ⟨rfl, rfl⟩ := H
  go_enter Try.func12, Try.ntmps12
  try go_wp2_with (first | ((with_reducible refine gate_dst (N := 2) rfl ?_); refine bx (N := 2) #[.bool a0_0, .slice A0_1 l0_1.length c0_1] 24 ?_; intro gb277 hg w5 hbox hb; have BK277 := Aside0.mk (hbox); have GW277 := bz hg HB; have GE277 := bz hg HB; replace HB := bs HB hb; clear hb hbox hg) | ((with_reducible refine gate_dst (N := 3) rfl ?_); refine bx (N := 3) #[.bool a1_0, .slice A1_1 l1_1.length c1_1] 24 ?_; intro gb278 hg w6 hbox hb; have BK278 := Aside0.mk (hbox); have GW278 := bz hg HB; have GE278 := bz hg HB; replace HB := bs HB hb; have NB277_278 := nl hg BK277; have NB278_277 := ng hg BK277; replace BK277 := kb BK277 hb; clear hb hbox hg) | ((with_reducible refine gate_dst (N := 4) rfl ?_); refine bx (N := 4) #[.bool false, .slice none 0 0] 24 ?_; intro gb279 hg w7 hbox hb; have BK279 := Aside0.mk (hbox); have GW279 := bz hg HB; have GE279 := bz hg HB; replace HB := bs HB hb; have NB277_279 := nl hg BK277; have NB279_277 := ng hg BK277; replace BK277 := kb BK277 hb; have NB278_279 := nl hg BK278; have NB279_278 := ng hg BK278; replace BK278 := kb BK278 hb; clear hb hbox hg))
  replace BK277 := Aside0.mk (blk_drew BK277.out)
  replace BK278 := Aside0.mk (blk_drew BK278.out)
  replace BK279 := Aside0.mk (blk_drew BK279.out)
  replace HB := Aside0.mk (below_drew1 HB.out)
  refine start_ (n := 5) (S := fun w' => w'.cell? ⟨gb277, 0, none⟩ = some (.bool a0_0) ∧ w'.cell? ⟨gb277, 1, none⟩ = some (.slice A0_1 l0_1.length c0_1) ∧ w'.cell? ⟨gb278, 0, none⟩ = some (.bool a1_0) ∧ w'.cell? ⟨gb278, 1, none⟩ = some (.slice A1_1 l1_1.length c1_1)) (ds := []) #[false, false, false, false, false] (by kernel_rfl) rfl rfl ⟨(blk_cell BK277.out 0).trans rfl, (blk_cell BK277.out 1).trans rfl, (blk_cell BK278.out 0).trans rfl, (blk_cell BK278.out 1).trans rfl⟩ (fun hHeld => ?_)
  generalize w7.drew = w8 at BK277 BK278 BK279 HB hHeld ⊢
  refine t0 (i := 0) (N := some 5) (bb 5 1) hHeld ?_
  refine t0 (i := 1) (N := some 6) (bb 5 3) hHeld ?_
  refine o0 (i := 2) (N := some 7) (bb 5 7) fun K hK => ?_
  refine gS Try.func23 #[.agg #[.bool a1_0, .slice A1_1 l1_1.length c1_1]] ?_
  with_reducible refine (big_Neg.calls k a1_0 _ _ l1_1 t280 t281 _ ?side1 ?side2 A3.out).mono ?_
  (case side1 => exact tc (Kd.C_below HR1_1.out HB.out))
  (case side2 => exact HC1_1.out)
  rintro e w9 ⟨v282, rfl, ho0, hb⟩
  refine ⟨_, rfl, ?_⟩
  have HO283 := rl ho0 HB
  replace BK277 := kb BK277 hb
  replace BK278 := kb BK278 hb
  replace BK279 := kb BK279 hb
  replace HB := bs HB hb
  (try clear hb); (try clear hb2); (try clear hk); (try clear hi); (try clear ho0)
  obtain ⟨Ao10, co10, eo10⟩ := Kd.R_slice HO283.out
  (first | subst eo10 | (injection eo10 with f1_ f2_ f3_; have f4_ := f1_.symm; have f5_ := f3_.symm; clear f1_ f2_ f3_; subst f4_; subst f5_))
  refine hK.out _ _ ⟨(blk_cell BK277.out 0).trans rfl, (blk_cell BK277.out 1).trans rfl, (blk_cell BK278.out 0).trans rfl, (blk_cell BK278.out 1).trans rfl⟩ fun hHeld => nT (N := some 7) ?_
  clear hK K
  refine o0 (i := 3) (N := some 8) (bb 5 15) fun K hK => ?_
  refine gS Try.func6 #[.agg #[.bool a0_0, .slice A0_1 l0_1.length c0_1], .agg #[.bool t280, .slice Ao10 t281.length co10]] ?_
  with_reducible refine (big_Add.calls k a0_0 _ _ l0_1 t280 _ _ t281 t284 t285 _ ?side1 ?side2 ?side3 ?side4 A4.out).mono ?_
  (case side1 => exact tc (Kd.C_below HR0_1.out HB.out))
  (case side2 => exact HC0_1.out)
  (case side3 => exact tc (Kd.R_reads' HO283.out).2.2)
  (case side4 => exact (Kd.R_reads' HO283.out).2.1)
  rintro e w11 ⟨v286, rfl, ho0, hb⟩
  refine ⟨_, rfl, ?_⟩
  have HO287 := Aside0.mk (Kd.R_lower (Kd.R_new' ho0 (Kd.R_lt (tq HO283))) (below_size (tb HB)))
  replace BK277 := kb BK277 hb
  replace BK278 := kb BK278 hb
  replace BK279 := kb BK279 hb
  replace HB := bs HB hb
  (try clear hb); (try clear hb2); (try clear hk); (try clear hi); (try clear ho0)
  obtain ⟨Ao13, co13, eo13⟩ := Kd.R_slice HO287.out
  (first | subst eo13 | (injection eo13 with f1_ f2_ f3_; have f4_ := f1_.symm; have f5_ := f3_.symm; clear f1_ f2_ f3_; subst f4_; subst f5_))
  refine hK.out _ _ ⟨(blk_cell BK277.out 0).trans rfl, (blk_cell BK277.out 1).trans rfl, (blk_cell BK278.out 0).trans rfl, (blk_cell BK278.out 1).trans rfl⟩ fun hHeld => nT (N := some 8) ?_
  clear hK K
  refine o0 (i := 4) (N := none) (bb 5 31) fun K hK => ?_
  have hs12 := bc BK279 0 (.bool false)
  have hfs12 := blk_frozen BK279.out 0
  have hns12_0 := NB277_279.out
  have hns12_1 := NB278_279.out
  have hms12_0 := NB279_277.out
  have hms12_1 := NB279_278.out
  have hs14 := bc BK279 1 (.slice none 0 0)
  have hfs14 := blk_frozen BK279.out 1
  have hns14_0 := NB277_279.out
  have hns14_1 := NB278_279.out
  have hms14_0 := NB279_277.out
  have hms14_1 := NB279_278.out
  refine skip_ (w1 := ?_) (by rfl) rfl ?_ ?_
  rotate_left
  · go_simp
    rfl
  refine hK.out _ _ ⟨((cell_far (p := ⟨gb279, _, none⟩) NB277_279.out _).trans (((cell_far (p := ⟨gb279, _, none⟩) NB277_279.out _).trans (hHeld.1)))), ((cell_far (p := ⟨gb279, _, none⟩) NB277_279.out _).trans (((cell_far (p := ⟨gb279, _, none⟩) NB277_279.out _).trans (hHeld.2.1)))), ((cell_far (p := ⟨gb279, _, none⟩) NB278_279.out _).trans (((cell_far (p := ⟨gb279, _, none⟩) NB278_279.out _).trans (hHeld.2.2.1)))), ((cell_far (p := ⟨gb279, _, none⟩) NB278_279.out _).trans (((cell_far (p := ⟨gb279, _, none⟩) NB278_279.out _).trans (hHeld.2.2.2))))⟩ (fun hHeld => ?_)
  clear hK K
  refine done_ (by kernel_rfl) ?_
  try go_wp2
  refine bodyPost_ret (results_cell_row rfl _ _ gb279 24 #[.bool t284, .slice Ao13 t285.length co13] (0, 0) _ rfl (tk BK279) Try.underlying24 rfl (by kernel_rfl)) rfl ?_
  exact ⟨_, by first | rfl | (simp [errW_none, errW_some] <;> rfl) | (simp [*, errW_none, errW_some] <;> rfl), by (with_reducible repeat first | apply qa | apply qn | apply qd); exact Kd.R_mono (Kd.R_far (p := ⟨gb279, 1, none⟩) (Kd.R_far (p := ⟨gb279, 0, none⟩) (Kd.R_types HO287.out BK279.out (by decide)) (fun _ hk => hk.2) (.bool t284)) (fun _ hk => hk.2) (.slice Ao13 t285.length co13)) (fun _ hk => trivial), tb HB⟩

/-! ### nat_Of: function 32 -/
def nat_Of.f (k : Nat) (a0 : Int) : Option (List Int) := (nat_Norm.f k (([(a0) % 4294967296, (a0 / 4294967296) % 4294967296] : List Int))).bind fun t291 => (some t291)
theorem nat_Of.mono : ∀ a0 k, LeO (nat_Of.f k a0) (nat_Of.f (k + 1) a0) := by
  intro a0 k
  unfold nat_Of.f
  repeat' with_reducible first | exact nat_Norm.mono _ _ | exact LeO.refl _ | exact LeO.none _ | refine LeO.ite ?_ ?_ | refine LeO.bind ?_ (fun _ => ?_)
set_option maxHeartbeats 8000000 in
set_option maxRecDepth 100000 in
theorem nat_Of.calls (k : Nat) (a0 : Int) (r : List Int) (w : World) (h : nat_Of.f k a0 = some r) :
    Calls Try.prog 32 #[.int .u64 a0] w fun e w' => ∃ v0_ : Value, e = .returned (v0_) ∧ Kd.R (Kd.int .u32) 42 w' w.heap.size (fun _ => True) v0_ r ∧ Below w.heap.size w w' := by
  have HB := Aside0.mk (Below.refl w.heap.size w)
  have H : ((nat_Norm.f k (([(a0) % 4294967296, (a0 / 4294967296) % 4294967296] : List Int))).bind fun t291 => (some t291)) = some r := h
  clear h
  obtain ⟨y288, hy288⟩ : ∃ y_ : List Int, y_ = (([(a0) % 4294967296, (a0 / 4294967296) % 4294967296] : List Int)) := ⟨_, rfl⟩
  replace H : ((nat_Norm.f k y288).bind fun t291 => (some t291)) = some r := by first | (rw [hy288]; with_reducible exact H) | (have H2_ := (Option.bind_some _ _).symm.trans H; rw [hy288]; with_reducible exact H2_) | (have H2_ := (Option.bind_some _ _).symm.trans H; with_reducible exact H2_) | with_reducible exact H | (rw [hy288]; exact H) | exact H
  have Ny288 := Aside0.mk hy288
  clear hy288
  replace H := bi H
  obtain ⟨t291, A20, H⟩ := H
  have A2 := Aside0.mk A20
  clear A20
  obtain rfl := Option.some.inj H
  go_enter Try.func32, Try.ntmps32
  go_wp2_with (first | ((with_reducible refine gate_dst (N := 8) rfl ?_); refine Kd.R_lit (Kd.int .u32) _ 42 ?hg (N := 8) ?hd (xs := ([(a0) % 4294967296, (a0 / 4294967296) % 4294967296] : List Int)) (inner := [.int .u32 ((a0) % 4294967296), .int .u32 ((a0 / 4294967296) % 4294967296)]) (ok := fun _ => True) (okp := fun _ => True) ?hr ?hp (fun _ hk => hk) trivial (Below.refl _ _) (Nat.le_refl _) (by simp) ?_; (case hd => rfl); (case hg => rfl); (case hr => first | (go_simp; done) | (go_simp; rfl)); (case hp => exact (Reps.one (show Kd.M (Kd.int .u32) _ _ _ ((a0) % 4294967296) [.int .u32 ((a0) % 4294967296)] from rfl) (Reps.one (show Kd.M (Kd.int .u32) _ _ _ ((a0 / 4294967296) % 4294967296) [.int .u32 ((a0 / 4294967296) % 4294967296)] from rfl) (Reps.none _ _)))); intro v289 w3 ho4 hb hg_ hnew_; clear hg_ hnew_; (first | rw [← Ny288.out] at ho4 | (simp only [Int.reduceToNat] at ho4; rw [← Ny288.out] at ho4)); have HO290 := rl ho4 HB; replace HB := bs HB hb; clear hb ho4; obtain ⟨Ao5, co5, eo5⟩ := Kd.R_slice HO290.out; subst eo5) | ((with_reducible refine gate_callee (f := 16) rfl ?_); refine gL (N := some 9) Try.func16 #[.slice Ao5 y288.length co5] ?_; (with_reducible refine (nat_Norm.calls k _ _ y288 t291 _ ?side1 ?side2 A2.out).mono ?_); (case side1 => exact tc (Kd.R_reads' HO290.out).2.2); (case side2 => exact (Kd.R_reads' HO290.out).2.1); rintro e w6 ⟨v292, rfl, ho0, hb⟩; refine ⟨_, rfl, ?_⟩; have HO293 := Aside0.mk (Kd.R_lower (Kd.R_new' ho0 (Kd.R_lt (tq HO290))) (below_size (tb HB))); replace HB := bs HB hb; (try clear hb); (try clear hb2); (try clear hk); (try clear hi); (try clear ho0)))
  go_ret
  exact ⟨_, by first | rfl | (simp [errW_none, errW_some] <;> rfl) | (simp [*, errW_none, errW_some] <;> rfl), by (with_reducible repeat first | apply qa | apply qn | apply qd); exact Kd.R_mono HO293.out (fun _ hk => trivial), tb HB⟩

/-! ### bits_Len32: function 39 -/
def bits_Len32.f (a0 : Int) : Option Int := if 0 ≤ a0 ∧ a0 ≤ 4294967295 then some (Lib.bitLen a0.toNat : Int) else none
theorem bits_Len32.size : Lib.len8tab.size = 256 := by decide +kernel
theorem bits_Len32.tab : ∀ n : Fin 256, (Lib.len8tab[n.1]'(by rw [bits_Len32.size]; exact n.2)).toNat = Lib.bitLen n.1 := by decide +kernel
theorem bits_Len32.at_ (s b : Int) (h0 : 0 ≤ b) (h1 : b ≤ 255) (hs : 0 ≤ s) (hs1 : s ≤ 100) (p : b.toNat < Lib.len8tab.size) : wrap64 (s + wrap64 ((Lib.len8tab[b.toNat]'p).toNat : Int)) = s + (Lib.bitLen b.toNat : Int) := by
  have e := bits_Len32.tab ⟨b.toNat, by omega⟩
  have l := Lib.bitLen_le8' b h0 h1
  dsimp only at e
  rw [e]
  unfold wrap64
  omega
set_option maxHeartbeats 4000000 in
set_option maxRecDepth 100000 in
theorem bits_Len32.calls (a0 : Int) (r : Int) (w : World) (h : bits_Len32.f a0 = some r) :
    Calls Try.prog 39 #[.int .u32 a0] w fun e w' => e = .returned (.int .i64 r) ∧ Drawn0 w w' := by
  unfold bits_Len32.f at h
  by_cases hr : 0 ≤ a0 ∧ a0 ≤ 4294967295
  · rw [if_pos hr] at h
    obtain rfl := Option.some.inj h
    obtain ⟨h0, h1⟩ := hr
    clear h
    have hsz := bits_Len32.size
    go_enter Try.func39, Try.ntmps39
    go_wp2
    all_goals first
      | (exfalso; rename_i hx; revert hx; rw [hsz]; omega)
      | (go_ret; refine ⟨congrArg Ending.returned (congrArg (Value.int IntKind.i64) ?_), Drawn0.refl _⟩)
    all_goals first
      | (rw [bits_Len32.at_ 24 (a0 / 65536 / 256) (by omega) (by omega) (by omega) (by omega)]
         have e : (a0 / 65536 / 256).toNat = a0.toNat / 16777216 := by omega
         have s := Lib.bitLen_shift24 a0.toNat (by omega) (by omega)
         rw [e]
         omega)
      | (rw [bits_Len32.at_ 16 (a0 / 65536) (by omega) (by omega) (by omega) (by omega)]
         have e : (a0 / 65536).toNat = a0.toNat / 65536 := by omega
         have s := Lib.bitLen_shift16 a0.toNat (by omega) (by omega)
         rw [e]
         omega)
      | (rw [bits_Len32.at_ 8 (a0 / 256) (by omega) (by omega) (by omega) (by omega)]
         have e : (a0 / 256).toNat = a0.toNat / 256 := by omega
         have s := Lib.bitLen_shift8 a0.toNat (by omega) (by omega)
         rw [e]
         omega)
      | (rw [← Int.zero_add (wrap64 _), bits_Len32.at_ 0 a0 (by omega) (by omega) (by omega) (by omega)]
         omega)
      | (have e := bits_Len32.at_ 0 a0 (by omega) (by omega) (by omega) (by omega) (by rw [hsz]; omega)
         rw [Int.zero_add, Int.zero_add] at e
         exact e)
  · rw [if_neg hr] at h
    exact absurd h (by simp)

/-! ### bits_LeadingZeros32: function 33 -/
def bits_LeadingZeros32.f (a0 : Int) : Option (Int) := (bits_Len32.f a0).bind fun t294 => (some (wrap64 (32 - t294)))
set_option maxHeartbeats 8000000 in
set_option maxRecDepth 100000 in
theorem bits_LeadingZeros32.calls (a0 : Int) (r : Int) (w : World) (h : bits_LeadingZeros32.f a0 = some r) :
    Calls Try.prog 33 #[.int .u32 a0] w fun e w' => e = .returned (.int .i64 r) ∧ Drawn0 w w' := by
  have H : ((bits_Len32.f a0).bind fun t294 => (some (wrap64 (32 - t294)))) = some r := h
  clear h
  replace H := bi H
  obtain ⟨t294, A20, H⟩ := H
  have A2 := Aside0.mk A20
  clear A20
  obtain rfl := Option.some.inj H
  go_enter Try.func33, Try.ntmps33
  go_wp2_with (first | ((with_reducible refine gate_callee (f := 39) rfl ?_); refine gL (N := some 4) Try.func39 #[.int .u32 a0] ?_; (with_reducible refine (bits_Len32.calls a0 t294 _ A2.out).mono ?_); rintro e w' ⟨rfl, ⟨nd, rfl⟩⟩; refine ⟨_, rfl, ?_⟩))
  go_ret
  exact ⟨by first | rfl | (simp; done) | (simp [*]; done), by repeat (first | exact Drawn0.refl _ | apply Drawn0.step)⟩

end Go.Proofs.Ytfcnmgeokjemmaa.QTopNumbers
