-- written by wip/wprint, a program of this session
import Derived.Test.YtfcnmgeokjemmaaQTopNumbersx0
import Derived.Test.YtfcnmgeokjemmaaQTopNumbersx4
import Derived.Test.YtfcnmgeokjemmaaQTopNumbersx8
namespace Go.Proofs.Ytfcnmgeokjemmaa.QTopNumbers
open Go.RowKit Go.Proofs.YtfcnmgeokjemmaaW.PrintWords Go.Proofs.YtfcnmgeokjemmaaW.PrintLast Go.Proofs.YtfcnmgeokjemmaaW.PrintMore
open Go.Proofs.YtfcnmgeokjemmaaW.PrintWords.Kd renaming R_alloc → qa, R_drewN → qn, R_drew → qd
open Go.Proofs.YtfcnmgeokjemmaaW.PrintWords renaming below_alloc → ba, pw_below_drewN → bn, below_drew1 → bd
attribute [local go_sem] max2_int min2_int max_two min_two max_three min_three max_four min_four   -- for this text's walks alone
set_option linter.unusedVariables false
set_option linter.unusedSimpArgs false

/-! ### big_Of: function 27 -/
def big_Of.f (k : Nat) (a0 : Int) : Option (Bool × List Int) := if a0 < 0 then ((nat_Of.f k (IntKind.u64.wrap ((IntKind.u64.wrap (wrap64 (-(wrap64 (a0 + 1))))) + 1))).bind fun t382 => ((big_norm.f k true t382).bind fun bt385 => (some (bt385.1, bt385.2)))) else ((nat_Of.f k (IntKind.u64.wrap (a0))).bind fun t389 => ((big_norm.f k false t389).bind fun bt392 => (some (bt392.1, bt392.2))))
theorem big_Of.mono : ∀ a0 k, LeO (big_Of.f k a0) (big_Of.f (k + 1) a0) := by
 intro a0 k
 unfold big_Of.f
 repeat' with_reducible first | exact big_norm.mono _ _ _ | exact nat_Of.mono _ _ | exact LeO.refl _ | exact LeO.none _ | refine LeO.ite ?_ ?_ | refine LeO.bind ?_ (fun _ => ?_)
set_option maxHeartbeats 8000000 in
set_option maxRecDepth 100000 in
theorem big_Of.calls (k : Nat) (a0 : Int) (r1 : Bool) (r2 : List Int) (w : World) (h : big_Of.f k a0 = some (r1, r2)) :
  Calls Try.prog 27 #[.int .i64 a0] w fun e w' => ∃ v1_ : Value, e = .returned (.agg #[.bool r1, v1_]) ∧ Kd.R (Kd.int .u32) 42 w' w.heap.size (fun _ => True) v1_ r2 ∧ Below w.heap.size w w' := by
 have hu24 := Try.underlying24
 have HB := Aside0.mk (Below.refl w.heap.size w)
 have H : (if a0 < 0 then ((nat_Of.f k (IntKind.u64.wrap ((IntKind.u64.wrap (wrap64 (-(wrap64 (a0 + 1))))) + 1))).bind fun t382 => ((big_norm.f k true t382).bind fun bt385 => (some (bt385.1, bt385.2)))) else ((nat_Of.f k (IntKind.u64.wrap (a0))).bind fun t389 => ((big_norm.f k false t389).bind fun bt392 => (some (bt392.1, bt392.2))))) = some (r1, r2) := h
 clear h
 by_cases c2 : a0 < 0
 ·rw [if_pos c2] at H
  have c2b0 : decide (a0 < 0) = true := decide_eq_true c2
  clear c2
  replace H := bi H
  obtain ⟨t382, A30, H⟩ := H
  have A3 := Aside0.mk A30
  clear A30
  replace H := bi H
  obtain ⟨⟨t385, t386⟩, A40, H⟩ := H
  try dsimp only at H
  have A4 := Aside0.mk A40
  clear A40
  simp only [Option.some.injEq, Prod.mk.injEq] at H
  obtain ⟨rfl, rfl⟩ := H
  go_enter Try.func27, Try.ntmps27
  go_wp2_with (first | ((with_reducible refine gate_dst (N := 2) rfl ?_); refine bx (N := 2) #[.bool false, .slice none 0 0] 24 ?_; intro gb381 hg w5 hbox hb; have BK381 := Aside0.mk (hbox); have GW381 := bz hg HB; have GE381 := bz hg HB; replace HB := bs HB hb; clear hb hbox hg) | ((with_reducible refine gate_callee (f := 32) rfl ?_); refine gL (N := some 10) Try.func32 #[.int .u64 (IntKind.u64.wrap ((IntKind.u64.wrap (wrap64 (-(wrap64 (a0 + 1))))) + 1))] ?_; (with_reducible refine (nat_Of.calls k (IntKind.u64.wrap ((IntKind.u64.wrap (wrap64 (-(wrap64 (a0 + 1))))) + 1)) t382 _ A3.out).mono ?_); rintro e w6 ⟨v383, rfl, ho0, hb⟩; refine ⟨_, rfl, ?_⟩; have HO384 := rl ho0 HB; replace BK381 := kb BK381 hb; replace HB := bs HB hb; (try clear hb); (try clear hb2); (try clear hk); (try clear hi); (try clear ho0); obtain ⟨Ao7, co7, eo7⟩ := Kd.R_slice HO384.out; subst eo7) | ((with_reducible refine gate_callee (f := 15) rfl ?_); refine gL (N := some 11) Try.func15 #[.bool true, .slice Ao7 t382.length co7] ?_; (with_reducible refine (big_norm.calls k true _ _ t382 t385 t386 _ ?side1 ?side2 A4.out).mono ?_); (case side1 => exact tc (Kd.R_reads' HO384.out).2.2); (case side2 => exact (Kd.R_reads' HO384.out).2.1); rintro e w8 ⟨v387, rfl, ho0, hb⟩; refine ⟨_, rfl, ?_⟩; have HO388 := Aside0.mk (Kd.R_lower (Kd.R_new' ho0 (Kd.R_lt (tq HO384))) (below_size (tb HB))); replace BK381 := kb BK381 hb; replace HB := bs HB hb; (try clear hb); (try clear hb2); (try clear hk); (try clear hi); (try clear ho0); have hcz9_0 := bc BK381 0 (.bool false); have hcz9_1 := bc BK381 1 (.slice none 0 0); have hfz9_0 := blk_frozen BK381.out 0; have hfz9_1 := blk_frozen BK381.out 1; obtain ⟨Ao10, co10, eo10⟩ := Kd.R_slice HO388.out; subst eo10))
  refine bodyPost_ret (results_cell_row rfl _ _ gb381 24 #[.bool t385, .slice Ao10 t386.length co10] (0, 0) _ rfl (tk BK381) Try.underlying24 rfl (by kernel_rfl)) rfl ?_
  exact ⟨_, by first | rfl | (simp [errW_none, errW_some] <;> rfl) | (simp [*, errW_none, errW_some] <;> rfl), by (with_reducible repeat first | apply qa | apply qn | apply qd); exact Kd.R_mono (Kd.R_far (p := ⟨gb381, 1, none⟩) (Kd.R_far (p := ⟨gb381, 0, none⟩) (Kd.R_types HO388.out BK381.out (by decide)) (fun _ hk => hk.2) (.bool t385)) (fun _ hk => hk.2) (.slice Ao10 t386.length co10)) (fun _ hk => trivial), tb HB⟩
 ·rw [if_neg c2] at H
  have c2b0 : decide (a0 < 0) = false := decide_eq_false c2
  clear c2
  replace H := bi H
  obtain ⟨t389, A110, H⟩ := H
  have A11 := Aside0.mk A110
  clear A110
  replace H := bi H
  obtain ⟨⟨t392, t393⟩, A120, H⟩ := H
  try dsimp only at H
  have A12 := Aside0.mk A120
  clear A120
  simp only [Option.some.injEq, Prod.mk.injEq] at H
  obtain ⟨rfl, rfl⟩ := H
  go_enter Try.func27, Try.ntmps27
  go_wp2_with (first | ((with_reducible refine gate_dst (N := 2) rfl ?_); refine bx (N := 2) #[.bool false, .slice none 0 0] 24 ?_; intro gb381 hg w13 hbox hb; have BK381 := Aside0.mk (hbox); have GW381 := bz hg HB; have GE381 := bz hg HB; replace HB := bs HB hb; clear hb hbox hg) | ((with_reducible refine gate_callee (f := 32) rfl ?_); refine gL (N := some 14) Try.func32 #[.int .u64 (IntKind.u64.wrap (a0))] ?_; (with_reducible refine (nat_Of.calls k (IntKind.u64.wrap (a0)) t389 _ A11.out).mono ?_); rintro e w14 ⟨v390, rfl, ho0, hb⟩; refine ⟨_, rfl, ?_⟩; have HO391 := rl ho0 HB; replace BK381 := kb BK381 hb; replace HB := bs HB hb; (try clear hb); (try clear hb2); (try clear hk); (try clear hi); (try clear ho0); obtain ⟨Ao15, co15, eo15⟩ := Kd.R_slice HO391.out; subst eo15) | ((with_reducible refine gate_callee (f := 15) rfl ?_); refine gL (N := some 15) Try.func15 #[.bool false, .slice Ao15 t389.length co15] ?_; (with_reducible refine (big_norm.calls k false _ _ t389 t392 t393 _ ?side1 ?side2 A12.out).mono ?_); (case side1 => exact tc (Kd.R_reads' HO391.out).2.2); (case side2 => exact (Kd.R_reads' HO391.out).2.1); rintro e w16 ⟨v394, rfl, ho0, hb⟩; refine ⟨_, rfl, ?_⟩; have HO395 := Aside0.mk (Kd.R_lower (Kd.R_new' ho0 (Kd.R_lt (tq HO391))) (below_size (tb HB))); replace BK381 := kb BK381 hb; replace HB := bs HB hb; (try clear hb); (try clear hb2); (try clear hk); (try clear hi); (try clear ho0); have hcz17_0 := bc BK381 0 (.bool false); have hcz17_1 := bc BK381 1 (.slice none 0 0); have hfz17_0 := blk_frozen BK381.out 0; have hfz17_1 := blk_frozen BK381.out 1; obtain ⟨Ao18, co18, eo18⟩ := Kd.R_slice HO395.out; subst eo18))
  refine bodyPost_ret (results_cell_row rfl _ _ gb381 24 #[.bool t392, .slice Ao18 t393.length co18] (0, 0) _ rfl (tk BK381) Try.underlying24 rfl (by kernel_rfl)) rfl ?_
  exact ⟨_, by first | rfl | (simp [errW_none, errW_some] <;> rfl) | (simp [*, errW_none, errW_some] <;> rfl), by (with_reducible repeat first | apply qa | apply qn | apply qd); exact Kd.R_mono (Kd.R_far (p := ⟨gb381, 1, none⟩) (Kd.R_far (p := ⟨gb381, 0, none⟩) (Kd.R_types HO395.out BK381.out (by decide)) (fun _ hk => hk.2) (.bool t392)) (fun _ hk => hk.2) (.slice Ao18 t393.length co18)) (fun _ hk => trivial), tb HB⟩

end Go.Proofs.Ytfcnmgeokjemmaa.QTopNumbers
