-- written by wip/wprint, a program of this session
import Derived.Test.YtfcnmgeokjemmaaQTopNumbersx0
import Derived.Test.YtfcnmgeokjemmaaQTopNumbersx1
import Derived.Test.YtfcnmgeokjemmaaQTopNumbersx4
import Derived.Test.YtfcnmgeokjemmaaQTopNumbersx5
namespace Go.Proofs.Ytfcnmgeokjemmaa.QTopNumbers
open Go.RowKit Go.Proofs.YtfcnmgeokjemmaaW.PrintWords Go.Proofs.YtfcnmgeokjemmaaW.PrintLast Go.Proofs.YtfcnmgeokjemmaaW.PrintMore
open Go.Proofs.YtfcnmgeokjemmaaW.PrintWords.Kd renaming R_alloc → qa, R_drewN → qn, R_drew → qd, V_alloc → va, V_drewN → vn, V_drew → vd
open Go.Proofs.YtfcnmgeokjemmaaW.PrintWords renaming below_alloc → ba, pw_below_drewN → bn, below_drew1 → bd
attribute [local go_sem] max2_int min2_int max_two min_two max_three min_three max_four min_four   -- for this text's walks alone
set_option linter.unusedVariables false
set_option linter.unusedSimpArgs false

/-! ### nat_Text: function 5 -/
mutual
def nat_Text.l0 : Nat → List Int → List Int → Option (ByteArray)
  | 0, _, _ => none
  | k + 1, x3, x4 => if (x3.length : Int) > 0 then ((nat_short.f k x3 10).bind fun bt188 => (if x4.length < 140737488355328 then (nat_Text.l0 k bt188.1 (x4 ++ [(48 + bt188.2) % 256])) else (none))) else (nat_Text.l1 k x4 0 (wrap64 ((x4.length : Int) - 1)))
def nat_Text.l1 : Nat → List Int → Int → Int → Option (ByteArray)
  | 0, _, _, _ => none
  | k + 1, x4, x6, x7 => if x6 < x7 then (if 0 ≤ x7 then (if x7 < (x4.length : Int) then (if 0 ≤ x6 then (if x6 < (x4.length : Int) then (nat_Text.l1 k ((x4.set (x6 : Int).toNat (rd x4 x7)).set (x7 : Int).toNat (rd x4 x6)) (wrap64 (x6 + 1)) (wrap64 (x7 - 1))) else (none)) else (none)) else (none)) else (none)) else (some (strOfNums x4))
end
def nat_Text.f (k : Nat) (l0 : List Int) : Option (ByteArray) := (nat_Norm.f k l0).bind fun t185 => (if (t185.length : Int) = 0 then (some (⟨#[48]⟩ : ByteArray)) else (nat_Text.l0 k t185 ([] : List Int)))
theorem nat_Text.mono_l : ∀ k, (∀ y0 y1, LeO (nat_Text.l0 k y0 y1) (nat_Text.l0 (k + 1) y0 y1)) ∧ (∀ y0 y1 y2, LeO (nat_Text.l1 k y0 y1 y2) (nat_Text.l1 (k + 1) y0 y1 y2))
  | 0 => ⟨fun _ _ r h => by simp [nat_Text.l0] at h, fun _ _ _ r h => by simp [nat_Text.l1] at h⟩
  | k + 1 => by
    obtain ⟨ih0, ih1⟩ := nat_Text.mono_l k
    refine ⟨?_, ?_⟩
    · intro y0 y1
      unfold nat_Text.l0
      repeat' with_reducible first | exact ih0 _ _ | exact ih1 _ _ _ | exact nat_Norm.mono _ _ | exact nat_short.mono _ _ _ | exact LeO.refl _ | exact LeO.none _ | refine LeO.ite ?_ ?_ | refine LeO.bind ?_ (fun _ => ?_)
    · intro y0 y1 y2
      unfold nat_Text.l1
      repeat' with_reducible first | exact ih0 _ _ | exact ih1 _ _ _ | exact nat_Norm.mono _ _ | exact nat_short.mono _ _ _ | exact LeO.refl _ | exact LeO.none _ | refine LeO.ite ?_ ?_ | refine LeO.bind ?_ (fun _ => ?_)
theorem nat_Text.mono : ∀ a0 k, LeO (nat_Text.f k a0) (nat_Text.f (k + 1) a0) := by
  intro a0 k
  obtain ⟨ih0, ih1⟩ := nat_Text.mono_l k
  unfold nat_Text.f
  repeat' with_reducible first | exact ih0 _ _ | exact ih1 _ _ _ | exact nat_Norm.mono _ _ | exact nat_short.mono _ _ _ | exact LeO.refl _ | exact LeO.none _ | refine LeO.ite ?_ ?_ | refine LeO.bind ?_ (fun _ => ?_)
def nat_Text.T12 : Bool × List (List Nat × List Nat) := (true, [([], []), ([], []), ([], []), ([], []), ([], []), ([], []), ([4, 5], [4, 5]), ([6], [6]), ([], []), ([], []), ([8, 9], [8, 9]), ([10], [10]), ([0, 1, 0, 1, 4, 5, 6, 7, 11], [0, 1]), ([12, 7, 0, 1, 4, 5, 6, 7, 11], [7, 12]), ([2, 3, 0, 1, 2, 3, 4, 5, 6, 7, 8, 9, 10, 11, 12, 13], [2, 3]), ([14, 11, 13, 0, 1, 2, 3, 4, 5, 6, 7, 8, 9, 10, 11, 12, 13], [11, 14])])
def nat_Text.B12 : List Nat := [0, 0, 0, 0, 0, 0, 48, 112, 0, 0, 768, 1792, 4083, 8179, 16383, 32767]
theorem nat_Text.tab12 : rtab .any (opsOf Try.f5 12) = nat_Text.T12 := by kernel_rfl
theorem nat_Text.bits12 : waitsOk nat_Text.T12.2 nat_Text.B12 = true := by kernel_rfl
set_option maxHeartbeats 8000000 in
set_option maxRecDepth 100000 in
theorem nat_Text.calls (k : Nat) (A0 : Option Addr) (c0 : Nat) (l0 : List Int) (r : ByteArray) (w : World) (hr0 : Kd.C (Kd.int .u32) w A0 l0.length l0) (hc0 : l0.length ≤ c0) (h : nat_Text.f k l0 = some r) :
    Calls Try.prog 5 #[.slice A0 l0.length c0] w fun e w' => e = .returned (.string r) ∧ Below w.heap.size w w' := by
  have HR0 := Aside0.mk hr0
  have HC0 := Aside0.mk hc0
  clear hr0 hc0
  have HB := Aside0.mk (Below.refl w.heap.size w)
  have H : ((nat_Norm.f k l0).bind fun t185 => (if (t185.length : Int) = 0 then (some (⟨#[48]⟩ : ByteArray)) else (nat_Text.l0 k t185 ([] : List Int)))) = some r := h
  clear h
  replace H := bi H
  obtain ⟨t185, A20, H⟩ := H
  have A2 := Aside0.mk A20
  clear A20
  by_cases c3 : (t185.length : Int) = 0
  · rw [if_pos c3] at H
    have c3b0 : ((t185.length : Int) == 0) = true := beq_iff_eq.mpr c3
    have c3b1 : ((t185.length : Int) != 0) = false := bne_eq_false_iff_eq.mpr c3
    clear c3
    obtain rfl := Option.some.inj H
    go_enter Try.func5, Try.ntmps5
    go_wp2_with (first | ((with_reducible refine gate_callee (f := 16) rfl ?_); refine gL (N := some 9) Try.func16 #[.slice A0 l0.length c0] ?_; (with_reducible refine (nat_Norm.calls k _ _ l0 t185 _ ?side1 ?side2 A2.out).mono ?_); (case side1 => repeat (first | exact HR0.out | (with_reducible refine Kd.C_alloc ?_ _) | (with_reducible refine Kd.C_drewN ?_ _) | (with_reducible refine Kd.C_drew ?_))); (case side2 => exact HC0.out); rintro e w4 ⟨v186, rfl, ho0, hb⟩; refine ⟨_, rfl, ?_⟩; have HO187 := rl ho0 HB; replace HB := bs HB hb; (try clear hb); (try clear hb2); (try clear hk); (try clear hi); (try clear ho0); obtain ⟨Ao5, co5, eo5⟩ := Kd.R_slice HO187.out; subst eo5))
    go_ret
    exact ⟨by first | rfl | (simp [errW_none, errW_some] <;> rfl) | (simp [*, errW_none, errW_some] <;> rfl), tb HB⟩
  · rw [if_neg c3] at H
    have c3b0 : ((t185.length : Int) == 0) = false := beq_eq_false_iff_ne.mpr c3
    have c3b1 : ((t185.length : Int) != 0) = true := bne_iff_ne.mpr c3
    have c3b2 : ¬ (t185 = []) := fun h_ => c3 (by rw [h_]; rfl)
    have H' := Aside0.mk H
    clear H
    go_enter Try.func5, Try.ntmps5
    go_wp2_with (first | ((with_reducible refine gate_callee (f := 16) rfl ?_); refine gL (N := some 9) Try.func16 #[.slice A0 l0.length c0] ?_; (with_reducible refine (nat_Norm.calls k _ _ l0 t185 _ ?side1 ?side2 A2.out).mono ?_); (case side1 => repeat (first | exact HR0.out | (with_reducible refine Kd.C_alloc ?_ _) | (with_reducible refine Kd.C_drewN ?_ _) | (with_reducible refine Kd.C_drew ?_))); (case side2 => exact HC0.out); rintro e w6 ⟨v186, rfl, ho0, hb⟩; refine ⟨_, rfl, ?_⟩; have HO187 := rl ho0 HB; replace HB := bs HB hb; (try clear hb); (try clear hb2); (try clear hk); (try clear hi); (try clear ho0); obtain ⟨Ao7, co7, eo7⟩ := Kd.R_slice HO187.out; subst eo7))
    go_loopg [3, 4] k (fun kq v3 v4 w' => ∃ (x3_1 : List Int) (x4_1 : List Int), Aside0 (nat_Text.l0 kq x3_1 x4_1 = some r) ∧ Aside0 (kq ≤ k) ∧ Aside0 (Kd.V (Kd.int .u32) 42 w' w.heap.size (fun k_ => some k_ ≠ (v4 : Value).ownBlock) v3 x3_1) ∧ Aside0 (Kd.R (Kd.int .u8) 5 w' w.heap.size (fun _ => True) v4 x4_1) ∧ Aside0 (Below w.heap.size w w'))
    case atStart => exact ⟨(t185), (([] : List Int)), H', ⟨Nat.le_refl _⟩, ⟨Kd.R_V (by (with_reducible repeat first | apply qa | apply qn | apply qd); exact Kd.R_mono HO187.out (fun _ hk => (by simp [Value.ownBlock])))⟩, ⟨by first | exact Kd.R_nil _ _ _ _ _ | exact Kd.N_nil _ _ _ _ _ | exact Kd.V_nil _ _ _ _ _ | exact Kd.Q_nil _ _ _ _ _ | exact Kd.S_nil _ _ _ _ _⟩, ⟨tb HB⟩⟩
    case round =>
      clear H'
      (try clear c1); (try clear p2); (try clear c3); (try clear c3b0); (try clear c3b1); (try clear c3b2); (try clear c5)
      obtain ⟨x3_1, x4_1, HA, HK1, HO_3, HO_4, HB⟩ := hrel
      cases gk with
      | zero => exact absurd HA.out (by simp [nat_Text.l0])
      | succ k1 =>
        have H := HA.out
        clear HA
        simp only [nat_Text.l0] at H
        by_cases c8 : (x3_1.length : Int) > 0
        · rw [if_pos c8] at H
          have c8b0 : decide (0 < (x3_1.length : Int)) = true := decide_eq_true c8
          have c8b1 : decide (0 < x3_1.length) = true := decide_eq_true (by omega)
          clear c8
          replace H := bi H
          obtain ⟨⟨t188, t191⟩, A90, H⟩ := H
          try dsimp only at H
          have A9 := Aside0.mk A90
          clear A90
          by_cases c10 : x4_1.length < 140737488355328
          · rw [if_pos c10] at H
            have LMc10 := Aside0.mk c10
            clear c10
            obtain ⟨y192, hy192⟩ : ∃ y_ : List Int, y_ = (x4_1 ++ [(48 + t191) % 256]) := ⟨_, rfl⟩
            replace H : (nat_Text.l0 k1 t188 y192) = some r := by first | (rw [hy192]; with_reducible exact H) | (have H2_ := (Option.bind_some _ _).symm.trans H; rw [hy192]; with_reducible exact H2_) | (have H2_ := (Option.bind_some _ _).symm.trans H; with_reducible exact H2_) | with_reducible exact H | (rw [hy192]; exact H) | exact H
            have Ny192 := Aside0.mk hy192
            clear hy192
            have H' := Aside0.mk H
            clear H
            obtain ⟨Ao11, co11, eo11⟩ := Kd.V_slice HO_3.out
            subst eo11
            go_wp2_with (first | ((with_reducible refine gate_callee (f := 17) rfl ?_); refine gL (N := some 18) Try.func17 #[.slice Ao11 x3_1.length co11, .int .u32 10] ?_; (with_reducible refine (nat_short.calls k1 _ _ x3_1 10 t188 t191 _ ?side1 ?side2 A9.out).mono ?_); (case side1 => exact tc (Kd.V_reads' HO_3.out).2.2); (case side2 => exact (Kd.V_reads' HO_3.out).2.1); rintro e w12 ⟨v189, rfl, ho0, hb⟩; refine ⟨_, rfl, ?_⟩; have HO190 := Aside0.mk (Kd.V_lower (Kd.V_mono (ok' := fun k_ => some k_ ≠ (u4 : Value).ownBlock) ho0 (fun k_ hk_ => (Kd.fresh' (Kd.R_lt (tq HO_4)) k_ hk_))) (below_size (tb HB))); replace HO_4 := rb HO_4 hb; replace HB := bs HB hb; (try clear hb); (try clear hb2); (try clear hk); (try clear hi); (try clear ho0)) | ((with_reducible refine gate_builtin (b := .append) (xs := #[.tmp 21, .tmp 25]) rfl ?_); at_builtin; refine Kd.R_append (Kd.int .u8) (w0 := w) w.heap.size rfl (.tmp 21) (.tmp 25) 41 5 (.int .u8 0) 1 rfl Try.underlying41 info5 rfl (by decide) (by omega) u4 x4_1 ((48 + t191) % 256) [.int .u8 ((48 + t191) % 256)] (fun _ => True) (fun _ => False) rfl rfl ?aP (fun _ hk => hk.elim) ?aF ?aO ?aB ?aS ?aL ?_; (case aP => exact rfl); (case aB => exact (tb HB)); (case aF => exact (fun _ _ => trivial)); (case aO => exact (tq HO_4)); (case aS => exact (below_size (tb HB))); (case aL => have := LMc10.out; omega); intro v193 w13 ho hb hg hat; rw [← Ny192.out] at ho; replace HO190 := Aside0.mk (Kd.V_afterv (ok := (fun _ => True)) (by (with_reducible repeat first | apply va | apply vn | apply vd); exact Kd.V_mono HO190.out (fun _ hk => ⟨trivial, hk⟩)) hg hat); replace HB := Aside0.mk (hb); have HO194 := Aside0.mk (ho); clear HO_4 ho hb hg hat))
            go_roundg k1
            case measure => have := HK1.out; omega
            case rel => exact ⟨(t188), (y192), H', ⟨by have := HK1.out; omega⟩, ⟨by (with_reducible repeat first | apply va | apply vn | apply vd); exact Kd.V_mono HO190.out (fun _ hk => hk.2)⟩, ⟨tq HO194⟩, ⟨tb HB⟩⟩
          · rw [if_neg c10] at H
            exact absurd H (by simp)
        · rw [if_neg c8] at H
          have c8b0 : decide (0 < (x3_1.length : Int)) = false := decide_eq_false c8
          have c8b1 : decide (0 < x3_1.length) = false := decide_eq_false (by omega)
          clear c8
          have H' := Aside0.mk H
          clear H
          obtain ⟨Ao14, co14, eo14⟩ := Kd.V_slice HO_3.out
          subst eo14
          obtain ⟨Ao15, co15, eo15⟩ := Kd.R_slice HO_4.out
          subst eo15
          go_wp2
          go_loopg [6, 7] k1 (fun kq v6 v7 w' => ∃ (x4_2 : List Int) (x6_2 : Int) (x7_2 : Int), v6 = .int .i64 x6_2 ∧ v7 = .int .i64 x7_2 ∧ Aside0 (nat_Text.l1 kq x4_2 x6_2 x7_2 = some r) ∧ Aside0 (kq ≤ k1) ∧ Aside0 (Kd.R (Kd.int .u8) 5 w' w.heap.size (fun _ => True) (.slice Ao15 x4_1.length co15) x4_2) ∧ Aside0 (Below w.heap.size w w'))
          case atStart => exact ⟨(x4_1), (0), (wrap64 ((x4_1.length : Int) - 1)), (by first | rfl | (simp; done) | (simp [*]; done)), (by first | rfl | (simp; done) | (simp [*]; done)), H', ⟨Nat.le_refl _⟩, ⟨tq HO_4⟩, ⟨tb HB⟩⟩
          case round =>
            clear H'
            (try clear c1); (try clear p2); (try clear c3); (try clear c3b0); (try clear c3b1); (try clear c3b2); (try clear c5); (try clear p6); (try clear c8); (try clear c8b0); (try clear c8b1); (try clear c10); (try clear p2)
            obtain ⟨x4_2, x6_2, x7_2, rfl, rfl, HA, HK2, HO_4, HB⟩ := hrel
            have hl4_2 := (Kd.R_reads' HO_4.out).1
            rw [hl4_2] at HO_4
            (try simp only [hl4_2])
            cases gk with
            | zero => exact absurd HA.out (by simp [nat_Text.l1])
            | succ k2 =>
              have H := HA.out
              clear HA
              simp only [nat_Text.l1] at H
              by_cases c16 : x6_2 < x7_2
              · rw [if_pos c16] at H
                have c16b0 : decide (x6_2 < x7_2) = true := decide_eq_true c16
                clear c16
                by_cases c17 : 0 ≤ x7_2
                · rw [if_pos c17] at H
                  have c17b0 : decide (0 ≤ x7_2) = true := decide_eq_true c17
                  clear c17
                  by_cases c18 : x7_2 < (x4_2.length : Int)
                  · rw [if_pos c18] at H
                    have c18b0 : decide (x7_2 < (x4_2.length : Int)) = true := decide_eq_true c18
                    clear c18
                    by_cases c19 : 0 ≤ x6_2
                    · rw [if_pos c19] at H
                      have c19b0 : decide (0 ≤ x6_2) = true := decide_eq_true c19
                      clear c19
                      by_cases c20 : x6_2 < (x4_2.length : Int)
                      · rw [if_pos c20] at H
                        have c20b0 : decide (x6_2 < (x4_2.length : Int)) = true := decide_eq_true c20
                        clear c20
                        obtain ⟨y197, hy197⟩ : ∃ y_ : List Int, y_ = (x4_2.set (x6_2 : Int).toNat (rd x4_2 x7_2)) := ⟨_, rfl⟩
                        replace H : (nat_Text.l1 k2 (y197.set (x7_2 : Int).toNat (rd x4_2 x6_2)) (wrap64 (x6_2 + 1)) (wrap64 (x7_2 - 1))) = some r := by first | (rw [hy197]; with_reducible exact H) | (have H2_ := (Option.bind_some _ _).symm.trans H; rw [hy197]; with_reducible exact H2_) | (have H2_ := (Option.bind_some _ _).symm.trans H; with_reducible exact H2_) | with_reducible exact H | (rw [hy197]; exact H) | exact H
                        have Ny197 := Aside0.mk hy197
                        clear hy197
                        obtain ⟨y198, hy198⟩ : ∃ y_ : List Int, y_ = (y197.set (x7_2 : Int).toNat (rd x4_2 x6_2)) := ⟨_, rfl⟩
                        replace H : (nat_Text.l1 k2 y198 (wrap64 (x6_2 + 1)) (wrap64 (x7_2 - 1))) = some r := by first | (rw [hy198]; with_reducible exact H) | (have H2_ := (Option.bind_some _ _).symm.trans H; rw [hy198]; with_reducible exact H2_) | (have H2_ := (Option.bind_some _ _).symm.trans H; with_reducible exact H2_) | with_reducible exact H | (rw [hy198]; exact H) | exact H
                        have Ny198 := Aside0.mk hy198
                        clear hy198
                        have H' := Aside0.mk H
                        clear H
                        try go_wp2
                        replace HO_4 := Aside0.mk (Kd.R_drew HO_4.out)
                        replace HB := Aside0.mk (below_drew1 HB.out)
                        have p195 : 0 ≤ (x7_2 : Int) := td
                        have q195 : x7_2 < (x4_2.length : Int) := td
                        obtain ⟨ad195, e195, hx195_0⟩ := Kd.at_int (Kd.R_reads' HO_4.out).2.2 x7_2 p195 q195
                        cases e195
                        replace p195 := eq_true p195
                        replace q195 := eq_true q195
                        have p196 : 0 ≤ (x6_2 : Int) := td
                        have q196 : x6_2 < (x4_2.length : Int) := td
                        obtain ⟨ad196, e196, hx196_0⟩ := Kd.at_int (Kd.R_reads' HO_4.out).2.2 x6_2 p196 q196
                        obtain rfl : ad195 = ad196 := (by injection e196)
                        replace p196 := eq_true p196
                        replace q196 := eq_true q196
                        have p21 : 0 ≤ (x6_2 : Int) := td
                        have q21 : (x6_2 : Int) < ((x4_2.length : Int) : Int) := td
                        obtain ⟨go21, co21, eo21, gb21, gl21, cl21, HG21⟩ := Kd.R_form HO_4.out (by omega)
                        (first | cases eo21 | (injection eo21 with ea_ en_ ec_; (first | subst ea_ | (injection ea_ with ea_; subst ea_)); subst ec_; clear en_))
                        have GB21 := Aside0.mk gb21
                        have GG21 := Aside0.mk HG21
                        clear gb21 gl21 HG21
                        (first | simp only [add_plain] at hx195_0 | skip)
                        (first | simp only [add_plain] at hx196_0 | skip)
                        obtain ⟨hx21_0, hf21_0⟩ := Kd.R_celln 0 HO_4.out (x6_2 : Int) p21 q21
                        replace p21 := eq_true p21
                        replace q21 := eq_true q21
                        have HP24 := Kd.R_putn HO_4.out (x6_2 : Int) (rd x4_2 x7_2)
                        rw [← Ny197.out] at HP24
                        have HQ24 := Aside0.mk HP24
                        clear HP24
                        have p22 : 0 ≤ (x7_2 : Int) := td
                        have q22 : (x7_2 : Int) < ((x4_2.length : Int) : Int) := td
                        obtain ⟨hx22_0, hf22_0⟩ := Kd.R_celln 0 HQ24.out (x7_2 : Int) p22 q22
                        replace p22 := eq_true p22
                        replace q22 := eq_true q22
                        have HP25 := Kd.R_putn HQ24.out (x7_2 : Int) (rd x4_2 x6_2)
                        rw [← Ny198.out] at HP25
                        have HQ25 := Aside0.mk HP25
                        clear HP25
                        refine start_ (n := 16) (S := fun w' => w'.cell? ⟨go21, (x7_2).toNat, none⟩ = some (.int .u8 (rd x4_2 x7_2)) ∧ w'.cell? ⟨go21, (x6_2).toNat, none⟩ = some (.int .u8 (rd x4_2 x6_2))) (ds := [13, 15]) #[false, false, false, false, false, false, false, false, false, false, false, false, false, false, false, false] (by kernel_rfl) rfl rfl ⟨hx195_0, hx196_0⟩ (fun hHeld => ?_); refine with_tabW nat_Text.tab12 nat_Text.bits12 (fun HT_ HW_ => ?_)
                        generalize wr.drew = w23 at HB GG21 HQ24 HQ25 hf21_0 hf22_0 hx195_0 hx196_0 hx21_0 hx22_0 hHeld ⊢
                        refine pT (i := 0) (N := some 37) (bb 16 1) HT_ ?_
                        refine pT (i := 1) (N := some 38) (bb 16 3) HT_ ?_
                        refine pT (i := 2) (N := some 39) (bb 16 7) HT_ ?_
                        refine pT (i := 3) (N := some 40) (bb 16 15) HT_ ?_
                        refine pT (i := 4) (N := some 41) (bb 16 31) HT_ ?_
                        refine pT (i := 5) (N := some 42) (bb 16 63) HT_ ?_
                        refine pT (i := 6) (N := some 43) (bb 16 127) HT_ ?_
                        refine pT (i := 8) (N := some 45) (bb 16 383) HT_ ?_
                        refine pT (i := 9) (N := some 46) (bb 16 895) HT_ ?_
                        refine pT (i := 10) (N := some 47) (bb 16 1919) HT_ ?_
                        refine tW (i := 7) (N := some 44) (bb 16 2047) HT_ HW_ hHeld ?_
                        refine tW (i := 11) (N := some 48) (bb 16 4095) HT_ HW_ hHeld ?_
                        refine pT (i := 12) (N := some 49) (bb 16 8191) HT_ ?_
                        refine last_ (i := 13) (N := none) #[true, true, true, true, true, true, true, true, true, true, true, true, true, true, false, false] rfl rfl (one_of HT_.out (by kernel_rfl)) (by decide) (fun K hK => ?_)
                        refine skip_ (w1 := ?_) (by rfl) rfl ?_ ?_
                        rotate_left
                        · go_simp
                          rfl
                        refine hK.out _ _ ?_
                        clear hK K
                        refine pT (i := 14) (N := some 50) (bb 16 32767) HT_ ?_
                        refine last_ (i := 15) (N := none) #[true, true, true, true, true, true, true, true, true, true, true, true, true, true, true, true] rfl rfl (one_of HT_.out (by kernel_rfl)) (by decide) (fun K hK => ?_)
                        refine skip_ (w1 := ?_) (by rfl) rfl ?_ ?_
                        rotate_left
                        · go_simp
                          rfl
                        refine hK.out _ _ ?_
                        clear hK K
                        refine done_ (done_of HT_.out (by kernel_rfl)) ?_
                        try go_wp2
                        (try simp only [← hl4_2])
                        go_roundg k2
                        case measure => have := HK1.out; have := HK2.out; omega
                        case rel => exact ⟨(y198), (wrap64 (x6_2 + 1)), (wrap64 (x7_2 - 1)), (by first | rfl | (simp; done) | (simp [*]; done)), (by first | rfl | (simp; done) | (simp [*]; done)), H', ⟨by have := HK1.out; have := HK2.out; omega⟩, ⟨by (try simp only [hl4_2]); (with_reducible repeat first | apply qa | apply qn | apply qd); exact HQ25.out⟩, ⟨by repeat (first | (with_reducible first | exact HB.out | apply ba | apply bn | apply bd | refine below_set ?_ GB21.out | refine below_set ?_ GB21.out) | exact HB.out)⟩⟩
                      · rw [if_neg c20] at H
                        exact absurd H (by simp)
                    · rw [if_neg c19] at H
                      exact absurd H (by simp)
                  · rw [if_neg c18] at H
                    exact absurd H (by simp)
                · rw [if_neg c17] at H
                  exact absurd H (by simp)
              · rw [if_neg c16] at H
                have c16b0 : decide (x6_2 < x7_2) = false := decide_eq_false c16
                clear c16
                obtain rfl := Option.some.inj H
                have hcv26 := own_string (P := Try.prog) Try.underlying41 Try.underlying5 Try.underlying9 (Kd.own_of_R HO_4.out); have hcvd26_ := fun m_ : Nat => own_string (P := Try.prog) Try.underlying41 Try.underlying5 Try.underlying9 (Kd.own_of_R (Kd.R_drewN HO_4.out m_))
                go_wp2
                go_ret
                exact ⟨by first | rfl | (simp [errW_none, errW_some] <;> rfl) | (simp [*, errW_none, errW_some] <;> rfl), tb HB⟩

/-! ### nat_Cmp: function 11 -/
attribute [local go_sem] Oper.semAt_some
/-- From the limb m down: the comparison of two rows. -/
def nat_Cmp.g : Nat → List Int → List Int → Int
  | 0, _, _ => 0
  | m + 1, x, y => if x[m]?.getD 0 < y[m]?.getD 0 then -1 else if y[m]?.getD 0 < x[m]?.getD 0 then 1 else nat_Cmp.g m x y
theorem nat_Cmp.g_skip (x y : List Int) {n : Nat} : ∀ {k m : Nat}, m + k = n → (∀ p ∈ nat_limbs.down n k, x[p.1]?.getD 0 = y[p.1]?.getD 0) → nat_Cmp.g n x y = nat_Cmp.g m x y
  | 0, m, h, _ => by obtain rfl : m = n := by omega
                     rfl
  | k + 1, m, h, he => by
    rw [nat_limbs.down_succ (n := n) (k := k) (m := m) (by omega)] at he
    have ih := nat_Cmp.g_skip x y (n := n) (k := k) (m := m + 1) (by omega) (fun p hp => he p (List.mem_append_left _ hp))
    have hm := he ⟨m, by omega⟩ (by simp)
    dsimp only at hm
    rw [ih, nat_Cmp.g, if_neg (by omega), if_neg (by omega)]
def nat_Cmp.f (k : Nat) (l0 : List Int) (l1 : List Int) : Option Int := (nat_trim.f k l0).bind fun x => ((nat_trim.f k l1).bind fun y => (some (if x.length < y.length then -1 else if y.length < x.length then 1 else nat_Cmp.g x.length x y)))
theorem nat_Cmp.mono : ∀ a0 a1 k, LeO (nat_Cmp.f k a0 a1) (nat_Cmp.f (k + 1) a0 a1) := by
  intro a0 a1 k
  unfold nat_Cmp.f
  exact LeO.bind (nat_trim.mono _ _) (fun _ => LeO.bind (nat_trim.mono _ _) (fun _ => LeO.refl _))
set_option maxHeartbeats 8000000 in
set_option maxRecDepth 100000 in
theorem nat_Cmp.calls (k : Nat) (A0 : Option Addr) (c0 : Nat) (l0 : List Int) (A1 : Option Addr) (c1 : Nat) (l1 : List Int) (r : Int) (w : World) (hr0 : Kd.C (Kd.int .u32) w A0 l0.length l0) (hc0 : l0.length ≤ c0) (hr1 : Kd.C (Kd.int .u32) w A1 l1.length l1) (hc1 : l1.length ≤ c1) (h : nat_Cmp.f k l0 l1 = some r) :
    Calls Try.prog 11 #[.slice A0 l0.length c0, .slice A1 l1.length c1] w fun e w' => e = .returned (.int .i64 r) ∧ Below w.heap.size w w' := by
  obtain ⟨x, hx, h⟩ := Option.bind_eq_some_iff.mp h
  obtain ⟨y, hy, h⟩ := Option.bind_eq_some_iff.mp h
  have hr := Option.some.inj h
  clear h
  refine (callsIn_wide (n := 4)).1 ?_
  refine callsIn_of_wp_marks Try.func11 rfl trivial ?_ rfl
  simp only [Try.ntmps11, List.size_toArray, List.length_cons, List.length_nil, Nat.reduceAdd, Nat.reduceSub, Array.replicate_succ, Array.replicate_zero, List.push_toArray, List.append_toArray, List.nil_append, List.cons_append]
  have hV0 : Kd.V (Kd.int .u32) 42 w w.heap.size (fun q => q < w.heap.size) (.slice A0 l0.length c0) l0 := Kd.V_mk hc0 (Kd.C_F (Kd.heap_int .u32) hr0)
  have hV1 : Kd.V (Kd.int .u32) 42 w w.heap.size (fun q => q < w.heap.size) (.slice A1 l1.length c1) l1 := Kd.V_mk hc1 (Kd.C_F (Kd.heap_int .u32) hr1)
  gi_wp2
  have bB := (Boxed.new w 22 (.slice A1 l1.length c1)).alloc (.cells #[.int .i64 0] 3)
  have bR := Boxed.new (w.alloc (.cells #[.slice A1 l1.length c1] 22)) 3 (.int .i64 0)
  rw [World.size_alloc] at bR
  have hB0 : Below w.heap.size w ((w.alloc (.cells #[.slice A1 l1.length c1] 22)).alloc (.cells #[.int .i64 0] 3)) := ((Below.refl _ w).alloc (Nat.le_refl _) _).alloc (by simp) _
  have hV0' := Kd.V_below hV0 hB0
  have hV1' := Kd.V_below hV1 hB0
  have hz0 : ((w.alloc (.cells #[.slice A1 l1.length c1] 22)).alloc (.cells #[.int .i64 0] 3)).heap.size = w.heap.size + 2 := by simp
  generalize (w.alloc (.cells #[.slice A1 l1.length c1] 22)).alloc (.cells #[.int .i64 0] 3) = W0 at *
  have hbc := bB.cell
  have hbf := bB.frozen
  rename_i K0 hK0
  have rest : ∀ (A3 : Option Addr) (c3 : Nat) (A4 : Option Addr) (c4 : Nat) (w2 : World), Boxed w2 w.heap.size 22 (.slice A1 l1.length c1) → Boxed w2 (w.heap.size + 1) 3 (.int .i64 0) → Below w.heap.size w w2 →
      Kd.V (Kd.int .u32) 42 w2 w.heap.size (fun q => q < w.heap.size ∨ w.heap.size + 2 ≤ q) (.slice A3 x.length c3) x → Kd.V (Kd.int .u32) 42 w2 w.heap.size (fun q => q < w.heap.size ∨ w.heap.size + 2 ≤ q) (.slice A4 y.length c4) y → K0 { tmps := #[.slice A3 x.length c3, .slice A1 l1.length c1, undef, .pointer (some ⟨w.heap.size, 0, none⟩), .pointer (some ⟨w.heap.size + 1, 0, none⟩), undef, undef, .slice A0 l0.length c0, .slice A3 x.length c3, .slice A1 l1.length c1, .slice A4 y.length c4, undef, undef, undef, undef, undef, undef, undef, undef, undef, undef, undef, undef, undef, undef, undef, undef, undef, undef, undef, undef, undef, undef, undef, undef, undef, undef, undef, undef, undef, undef], defers := [] } (w2.setCell ⟨w.heap.size, 0, none⟩ (.slice A4 y.length c4)) := by
    intro A3 c3 A4 c4 w2 bB2 bR2 hB2 hX hY
    refine hK0 _ _ ?_
    dsimp only
    have bB3 := bB2.set (.slice A4 y.length c4)
    have bR3 := bR2.other (B' := w.heap.size) (by omega) (.slice A4 y.length c4)
    have hB3 := hB2.setCell (p := ⟨w.heap.size, 0, none⟩) (Nat.le_refl _) (.slice A4 y.length c4)
    have hne : ∀ q, q < w.heap.size ∨ w.heap.size + 2 ≤ q → q ≠ w.heap.size := fun q h => by omega
    have hX3 := Kd.V_far hX (p := ⟨w.heap.size, 0, none⟩) hne (.slice A4 y.length c4)
    have hY3 := Kd.V_far hY (p := ⟨w.heap.size, 0, none⟩) hne (.slice A4 y.length c4)
    clear hK0 bB2 bR2 hB2 hX hY
    generalize w2.setCell ⟨w.heap.size, 0, none⟩ (.slice A4 y.length c4) = W3 at *
    have hx3 := Kd.V_reads' hX3
    have hy3 := Kd.V_reads' hY3
    have hxl : x.length ≤ 9223372036854775807 := hx3.2.2.2.1
    have hyl : y.length ≤ 9223372036854775807 := hy3.2.2.2.1
    have hbc := bB3.cell
    have hrc := bR3.cell
    have hrf := bR3.frozen
    gi_wp2
    · refine ⟨.int .i64 (-1), ?_, ?_⟩
      · have hc5 := World.cell?_setCell_same' W3 ⟨w.heap.size + 1, 0, none⟩ (.int .i64 (-1)) (by rw [hrc]; rfl)
        simp [results, Try.f11, go_sem, hc5]
      · rw [if_pos (by omega)] at hr
        subst hr
        exact ⟨rfl, hB3.setCell (p := ⟨w.heap.size + 1, 0, none⟩) (Nat.le_succ _) _⟩
    · refine ⟨.int .i64 1, ?_, ?_⟩
      · have hc5 := World.cell?_setCell_same' W3 ⟨w.heap.size + 1, 0, none⟩ (.int .i64 1) (by rw [hrc]; rfl)
        simp [results, Try.f11, go_sem, hc5]
      · rw [if_neg (by omega), if_pos (by omega)] at hr
        subst hr
        exact ⟨rfl, hB3.setCell (p := ⟨w.heap.size + 1, 0, none⟩) (Nat.le_succ _) _⟩
    · rw [if_neg (by omega), if_neg (by omega)] at hr
      refine ⟨trivial, ?_⟩
      gi_at_call 22
      refine (nat_limbs_in Fence.wide _ trivial rfl _ _ _ _).mono ?_
      rintro e w' ⟨rfl, rfl⟩
      have bN := Boxed.new W3 22 (.slice A3 x.length c3)
      have bB4 := bB3.alloc (.cells #[.slice A3 x.length c3] 22)
      have bR4 := bR3.alloc (.cells #[.slice A3 x.length c3] 22)
      have hB4 : Below w.heap.size w (W3.alloc (.cells #[.slice A3 x.length c3] 22)) := hB3.alloc hB3.size _
      have hx4 := nat_limbs.At.of (Kd.V_reads' (Kd.V_alloc hX3 (.cells #[.slice A3 x.length c3] 22))).2.2
      have hy4 := nat_limbs.At.of (Kd.V_reads' (Kd.V_alloc hY3 (.cells #[.slice A3 x.length c3] 22))).2.2
      have hlt4 : W3.heap.size < (W3.alloc (.cells #[.slice A3 x.length c3] 22)).heap.size := by simp
      generalize (W3.alloc (.cells #[.slice A3 x.length c3] 22)) = W4 at *
      gi_wp2
      refine wpIn_rangeFunc_ownG rfl (by omega) (gf := 31) (lb := #[.pointer (some ⟨W3.heap.size, 0, none⟩)]) rfl trivial (enters_of Try.func31 (by kernel_rfl) rfl)
        (nat_limbs_stops Fence.wide 3 trivial rfl (by omega) W3.heap.size W4.heap.size c3 A3 x hxl (Below W4.heap.size) (Below.refl _) (fun h h' => h.trans h') (fun h p hp => h.cell (hp.elim id (fun e => e ▸ hlt4))) W4 hlt4 (Nat.le_refl _) bN.cell hx4) belowK_t (belowK_b (Nat.le_refl _)) (Below.refl _ _) (fun _ => rfl)
        (fun pre W => (∀ p ∈ pre, x[p.1]?.getD 0 = y[p.1]?.getD 0) ∧ Below W4.heap.size W4 W)
        (fun c pre W => (c = .ret ∧ ∃ ini last, pre = ini ++ [last] ∧ (∀ p ∈ ini, x[p.1]?.getD 0 = y[p.1]?.getD 0) ∧ ((x[last.1]?.getD 0 < y[last.1]?.getD 0 ∧ W.cell? ⟨w.heap.size + 1, 0, none⟩ = some (.int .i64 (-1))) ∨ (y[last.1]?.getD 0 < x[last.1]?.getD 0 ∧ W.cell? ⟨w.heap.size + 1, 0, none⟩ = some (.int .i64 1)))) ∧ Below w.heap.size W4 W)
        (OwnFrom.and (Own.from (fun s A B row hs hg hr => hs) _) (ownFrom_below (Nat.le_refl _) (Nat.le_refl _)))
        (fun c => OwnFrom.and (Own.from (fun s A B row hs hg hr => by obtain ⟨hc, ini, last, e1, e2, e3⟩ := hs; exact ⟨hc, ini, last, e1, e2, e3.imp (fun h => ⟨h.1, cell_kept h.2 hg hr⟩) (fun h => ⟨h.1, cell_kept h.2 hg hr⟩)⟩) _) (ownFrom_below hB4.size hB4.size))
        ⟨by simp, Below.refl _ _⟩
        (fun z => { tmps := #[.slice A3 x.length c3, .slice A1 l1.length c1, undef, .pointer (some ⟨w.heap.size, 0, none⟩), .pointer (some ⟨w.heap.size + 1, 0, none⟩), .int .i64 (z.1 : Int), .int .u32 (x[z.1]?.getD 0), .slice A0 l0.length c0, .slice A3 x.length c3, .slice A1 l1.length c1, .slice A4 y.length c4, .bool false, .slice A3 x.length c3, .int .i64 x.length, .slice A4 y.length c4, .int .i64 y.length, .bool false, .bool false, .slice A3 x.length c3, .int .i64 x.length, .slice A4 y.length c4, .int .i64 y.length, .bool false, .slice A3 x.length c3, .func (.func 31) #[] #[.pointer (some ⟨W3.heap.size, 0, none⟩)], .int .i64 (z.1 : Int), .int .u32 (x[z.1]?.getD 0), undef, undef, undef, undef, undef, undef, undef, undef, undef, undef, undef, undef, undef, undef], defers := [] }) ?assign ?body ?done ?stop
      case assign =>
        intro l z W K hK
        have hgx : x[z.1]?.getD 0 = x[z.1] := by simp
        dsimp only at hK
        rw [hgx] at hK
        gi_wp2
        exact hK
      case body =>
        rintro l pre z W ⟨hp, hB⟩ _
        have hbc5 := (hB.cell (p := ⟨w.heap.size, 0, none⟩) bB4.lt).trans bB4.cell
        have hrc5 := (hB.cell (p := ⟨w.heap.size + 1, 0, none⟩) bR4.lt).trans bR4.cell
        have hrf5 := (hB.frozen (p := ⟨w.heap.size + 1, 0, none⟩) bR4.lt).trans bR4.frozen
        have hz : z.1 < y.length := by have := z.2; omega
        rcases hy4 with rfl | ⟨ad, rfl, hbd, hcs⟩
        · exact absurd hz (by simp)
        have hcy := (hB.cell (p := ad.add z.1) (by rw [add_block]; exact hbd)).trans (hcs z.1 hz)
        have hgx : x[z.1]?.getD 0 = x[z.1] := by simp
        have hgy : y[z.1]?.getD 0 = y[z.1] := by simp [hz]
        gi_wp2
        · have hlt : x[z.1]?.getD 0 < y[z.1]?.getD 0 := by rw [hgx, hgy]; assumption
          exact ⟨(KeepsOthers.setCell _ _ _).from _, ⟨rfl, pre, z, rfl, hp, .inl ⟨hlt, World.cell?_setCell_same' _ _ _ (by rw [hrc5]; rfl)⟩⟩, (hB.mono hB4.size).setCell (p := ⟨w.heap.size + 1, 0, none⟩) (Nat.le_succ _) _⟩
        · have hlt : y[z.1]?.getD 0 < x[z.1]?.getD 0 := by rw [hgx, hgy]; assumption
          exact ⟨(KeepsOthers.setCell _ _ _).from _, ⟨rfl, pre, z, rfl, hp, .inr ⟨hlt, World.cell?_setCell_same' _ _ _ (by rw [hrc5]; rfl)⟩⟩, (hB.mono hB4.size).setCell (p := ⟨w.heap.size + 1, 0, none⟩) (Nat.le_succ _) _⟩
        · have heq : x[z.1]?.getD 0 = y[z.1]?.getD 0 := by rw [hgx, hgy]; omega
          exact ⟨KeepsFrom.refl _ _, Below.refl _ _, fun p hp' => (List.mem_append.1 hp').elim (hp p) (fun e => by simp at e; subst e; exact heq), hB⟩
      case done =>
        rintro D ys W hD rfl ⟨hne, hB⟩ hK
        have hrc5 := (hB.cell (p := ⟨w.heap.size + 1, 0, none⟩) bR4.lt).trans bR4.cell
        have hrf5 := (hB.frozen (p := ⟨w.heap.size + 1, 0, none⟩) bR4.lt).trans bR4.frozen
        gi_wp2
        have hK' := (KeepsOthers.setCell W ⟨w.heap.size + 1, 0, none⟩ (.int .i64 0)).same D _ hK rfl
        refine ⟨by simp, .inl ⟨_, _, rfl, run_takeDeferred hK', ?_⟩⟩
        have hc5 := cell_kept (World.cell?_setCell_same' W ⟨w.heap.size + 1, 0, none⟩ (.int .i64 0) (by rw [hrc5]; rfl)) (grownBy_putObj' _ D (.deferred none)) (fun r e => by cases e; exact ⟨_, hK', rfl⟩)
        have hg := nat_Cmp.g_skip x y (n := x.length) (k := x.length) (m := 0) (by omega) hne
        have hr0 : r = 0 := by rw [← hr, hg]; rfl
        subst hr0
        refine ⟨.int .i64 0, ?_, rfl, ?_⟩
        · simp [results, Try.f11, go_sem, hc5]
        · have hBW : Below w.heap.size w W := hB4.trans (hB.mono hB4.size)
          exact (hBW.setCell (p := ⟨w.heap.size + 1, 0, none⟩) (Nat.le_succ _) _).trans (belowK_b (w := w) (Nat.le_refl _) _ D _ _ (Nat.le_trans hB4.size hD) hK' rfl rfl)
      case stop =>
        rintro D c pre W hD ⟨k', hk', rfl⟩ ⟨⟨rfl, ini, last, e1, e2, e3⟩, hB⟩ hK
        gi_wp2
        refine ⟨by simp, .inl ⟨_, _, rfl, run_takeDeferred hK, ?_⟩⟩
        have hB5 : Below w.heap.size w (W.putObj D (.deferred none)) := (hB4.trans hB).trans (belowK_b (w := w) (Nat.le_refl _) W D _ _ (Nat.le_trans hB4.size hD) hK rfl rfl)
        obtain ⟨k, rfl⟩ : ∃ k, k' = k + 1 := by
          cases k' with
          | zero => simp [nat_limbs.down] at e1
          | succ k => exact ⟨k, rfl⟩
        obtain ⟨m, hm⟩ : ∃ m, m + 1 + k = x.length := ⟨x.length - 1 - k, by omega⟩
        rw [nat_limbs.down_succ hm] at e1
        obtain ⟨rfl, e5⟩ := List.append_inj' e1 rfl
        obtain rfl : (⟨m, by omega⟩ : Fin x.length) = last := by simpa using e5
        have hg := nat_Cmp.g_skip x y (n := x.length) (k := k) (m := m + 1) (by omega) e2
        rcases e3 with ⟨h1, h2⟩ | ⟨h1, h2⟩
        · have hc5 := cell_kept h2 (grownBy_putObj' _ D (.deferred none)) (fun r e => by cases e; exact ⟨_, hK, rfl⟩)
          have hrr : r = -1 := by rw [← hr, hg, nat_Cmp.g, if_pos h1]
          subst hrr
          exact ⟨.int .i64 (-1), by simp [results, Try.f11, go_sem, hc5], rfl, hB5⟩
        · have hc5 := cell_kept h2 (grownBy_putObj' _ D (.deferred none)) (fun r e => by cases e; exact ⟨_, hK, rfl⟩)
          have hrr : r = 1 := by
            have h1' := h1
            dsimp only at h1'
            rw [← hr, hg, nat_Cmp.g, if_neg (by omega), if_pos h1]
          subst hrr
          exact ⟨.int .i64 1, by simp [results, Try.f11, go_sem, hc5], rfl, hB5⟩
  have hmx : Try.prog.follows .mixedOrders = true := by kernel_rfl
  refine wpIn_region_any (by assumption) ?_
  change wpAnyIn _ _ _ _ _ _ _ _ _ (World.drew _)
  refine wpAnyIn_ready (rs := [0,2]) (by kernel_rfl) (by simp) ?_
  refine AllReadyIn.cons rfl (fun K hK => ?_) ?_
  · go_simp
    refine hK _ _ ?_
    clear hK K
    refine wpAnyIn_ready (rs := [1,2]) (by kernel_rfl) (by simp) ?_
    refine AllReadyIn.cons rfl (fun K hK => ?_) ?_
    · go_simp
      refine ⟨trivial, ?_⟩
      gi_at_call 21
      refine (callsIn_wide.2 (nat_trim.calls k (fun q => q < w.heap.size) _ _ l0 x _ (Kd.V_drew hV0') hx)).mono ?_
      rintro e w1 ⟨v1, rfl, ho1, hb1⟩
      obtain ⟨A3, c3, rfl⟩ := Kd.V_slice ho1
      have bB1 : Boxed w1 _ _ _ := (hb1.block _ bB.lt).trans bB
      have bR1 : Boxed w1 _ _ _ := (hb1.block _ bR.lt).trans bR
      have hbc1 := bB1.cell
      have hbf1 := bB1.frozen
      have hV1'' := Kd.V_below (Kd.V_drew hV1') hb1
      refine hK _ _ ?_
      clear hK K
      refine wpAnyIn_ready (rs := [2]) (by kernel_rfl) (by simp) ?_
      refine AllReadyIn.cons rfl (fun K hK => ?_) AllReadyIn.nil
      go_simp
      refine hK _ _ ?_
      clear hK K
      refine wpAnyIn_ready (rs := [3]) (by kernel_rfl) (by simp) ?_
      refine AllReadyIn.cons rfl (fun K hK => ?_) AllReadyIn.nil
      go_simp
      refine ⟨trivial, ?_⟩
      gi_at_call 21
      refine (callsIn_wide.2 (nat_trim.calls k (fun q => q < w.heap.size) _ _ l1 y _ hV1'' hy)).mono ?_
      rintro e w2 ⟨v2, rfl, ho2, hb2⟩
      obtain ⟨A4, c4, rfl⟩ := Kd.V_slice ho2
      have bB2 : Boxed w2 _ _ _ := (hb2.block _ bB1.lt).trans bB1
      have bR2 : Boxed w2 _ _ _ := (hb2.block _ bR1.lt).trans bR1
      have hbc2 := bB2.cell
      have hbf2 := bB2.frozen
      have hsz1 : w.heap.size + 2 ≤ w1.heap.size := by rw [← hz0]; exact hb1.size
      refine hK _ _ ?_
      clear hK K
      refine wpAnyIn_ready (rs := [4]) (by kernel_rfl) (by simp) ?_
      refine AllReadyIn.cons rfl (fun K hK => ?_) AllReadyIn.nil
      go_simp
      refine hK _ _ ?_
      clear hK K
      refine wpAnyIn_ready (rs := [5]) (by kernel_rfl) (by simp) ?_
      refine AllReadyIn.cons rfl (fun K hK => ?_) AllReadyIn.nil
      go_simp
      refine hK _ _ ?_
      clear hK K
      refine wpAnyIn_done (by kernel_rfl) ?_ _
      exact rest A3 c3 A4 c4 w2 bB2 bR2 (hB0.trans (((below_drew (Below.refl _ W0)).trans hb1 |>.trans (hb2.mono hb1.size)).mono hB0.size)) (Kd.V_below (Kd.V_mono ho1 (fun q hq => hq.imp id (fun h => Nat.le_trans (Nat.le_of_eq hz0.symm) h))) hb2) (Kd.V_mono ho2 (fun q hq => hq.imp id (fun h => Nat.le_trans hsz1 h)))
    · refine AllReadyIn.cons rfl (fun K hK => ?_) AllReadyIn.nil
      go_simp
      refine hK _ _ ?_
      clear hK K
      refine wpAnyIn_ready (rs := [1]) (by kernel_rfl) (by simp) ?_
      refine AllReadyIn.cons rfl (fun K hK => ?_) AllReadyIn.nil
      go_simp
      refine ⟨trivial, ?_⟩
      gi_at_call 21
      refine (callsIn_wide.2 (nat_trim.calls k (fun q => q < w.heap.size) _ _ l0 x _ (Kd.V_drew hV0') hx)).mono ?_
      rintro e w1 ⟨v1, rfl, ho1, hb1⟩
      obtain ⟨A3, c3, rfl⟩ := Kd.V_slice ho1
      have bB1 : Boxed w1 _ _ _ := (hb1.block _ bB.lt).trans bB
      have bR1 : Boxed w1 _ _ _ := (hb1.block _ bR.lt).trans bR
      have hbc1 := bB1.cell
      have hbf1 := bB1.frozen
      have hV1'' := Kd.V_below (Kd.V_drew hV1') hb1
      refine hK _ _ ?_
      clear hK K
      refine wpAnyIn_ready (rs := [3]) (by kernel_rfl) (by simp) ?_
      refine AllReadyIn.cons rfl (fun K hK => ?_) AllReadyIn.nil
      go_simp
      refine ⟨trivial, ?_⟩
      gi_at_call 21
      refine (callsIn_wide.2 (nat_trim.calls k (fun q => q < w.heap.size) _ _ l1 y _ hV1'' hy)).mono ?_
      rintro e w2 ⟨v2, rfl, ho2, hb2⟩
      obtain ⟨A4, c4, rfl⟩ := Kd.V_slice ho2
      have bB2 : Boxed w2 _ _ _ := (hb2.block _ bB1.lt).trans bB1
      have bR2 : Boxed w2 _ _ _ := (hb2.block _ bR1.lt).trans bR1
      have hbc2 := bB2.cell
      have hbf2 := bB2.frozen
      have hsz1 : w.heap.size + 2 ≤ w1.heap.size := by rw [← hz0]; exact hb1.size
      refine hK _ _ ?_
      clear hK K
      refine wpAnyIn_ready (rs := [4]) (by kernel_rfl) (by simp) ?_
      refine AllReadyIn.cons rfl (fun K hK => ?_) AllReadyIn.nil
      go_simp
      refine hK _ _ ?_
      clear hK K
      refine wpAnyIn_ready (rs := [5]) (by kernel_rfl) (by simp) ?_
      refine AllReadyIn.cons rfl (fun K hK => ?_) AllReadyIn.nil
      go_simp
      refine hK _ _ ?_
      clear hK K
      refine wpAnyIn_done (by kernel_rfl) ?_ _
      exact rest A3 c3 A4 c4 w2 bB2 bR2 (hB0.trans (((below_drew (Below.refl _ W0)).trans hb1 |>.trans (hb2.mono hb1.size)).mono hB0.size)) (Kd.V_below (Kd.V_mono ho1 (fun q hq => hq.imp id (fun h => Nat.le_trans (Nat.le_of_eq hz0.symm) h))) hb2) (Kd.V_mono ho2 (fun q hq => hq.imp id (fun h => Nat.le_trans hsz1 h)))
  · refine AllReadyIn.cons rfl (fun K hK => ?_) AllReadyIn.nil
    go_simp
    refine hK _ _ ?_
    clear hK K
    refine wpAnyIn_ready (rs := [0]) (by kernel_rfl) (by simp) ?_
    refine AllReadyIn.cons rfl (fun K hK => ?_) AllReadyIn.nil
    go_simp
    refine hK _ _ ?_
    clear hK K
    refine wpAnyIn_ready (rs := [1]) (by kernel_rfl) (by simp) ?_
    refine AllReadyIn.cons rfl (fun K hK => ?_) AllReadyIn.nil
    go_simp
    refine ⟨trivial, ?_⟩
    gi_at_call 21
    refine (callsIn_wide.2 (nat_trim.calls k (fun q => q < w.heap.size) _ _ l0 x _ (Kd.V_drew hV0') hx)).mono ?_
    rintro e w1 ⟨v1, rfl, ho1, hb1⟩
    obtain ⟨A3, c3, rfl⟩ := Kd.V_slice ho1
    have bB1 : Boxed w1 _ _ _ := (hb1.block _ bB.lt).trans bB
    have bR1 : Boxed w1 _ _ _ := (hb1.block _ bR.lt).trans bR
    have hbc1 := bB1.cell
    have hbf1 := bB1.frozen
    have hV1'' := Kd.V_below (Kd.V_drew hV1') hb1
    refine hK _ _ ?_
    clear hK K
    refine wpAnyIn_ready (rs := [3]) (by kernel_rfl) (by simp) ?_
    refine AllReadyIn.cons rfl (fun K hK => ?_) AllReadyIn.nil
    go_simp
    refine ⟨trivial, ?_⟩
    gi_at_call 21
    refine (callsIn_wide.2 (nat_trim.calls k (fun q => q < w.heap.size) _ _ l1 y _ hV1'' hy)).mono ?_
    rintro e w2 ⟨v2, rfl, ho2, hb2⟩
    obtain ⟨A4, c4, rfl⟩ := Kd.V_slice ho2
    have bB2 : Boxed w2 _ _ _ := (hb2.block _ bB1.lt).trans bB1
    have bR2 : Boxed w2 _ _ _ := (hb2.block _ bR1.lt).trans bR1
    have hbc2 := bB2.cell
    have hbf2 := bB2.frozen
    have hsz1 : w.heap.size + 2 ≤ w1.heap.size := by rw [← hz0]; exact hb1.size
    refine hK _ _ ?_
    clear hK K
    refine wpAnyIn_ready (rs := [4]) (by kernel_rfl) (by simp) ?_
    refine AllReadyIn.cons rfl (fun K hK => ?_) AllReadyIn.nil
    go_simp
    refine hK _ _ ?_
    clear hK K
    refine wpAnyIn_ready (rs := [5]) (by kernel_rfl) (by simp) ?_
    refine AllReadyIn.cons rfl (fun K hK => ?_) AllReadyIn.nil
    go_simp
    refine hK _ _ ?_
    clear hK K
    refine wpAnyIn_done (by kernel_rfl) ?_ _
    exact rest A3 c3 A4 c4 w2 bB2 bR2 (hB0.trans (((below_drew (Below.refl _ W0)).trans hb1 |>.trans (hb2.mono hb1.size)).mono hB0.size)) (Kd.V_below (Kd.V_mono ho1 (fun q hq => hq.imp id (fun h => Nat.le_trans (Nat.le_of_eq hz0.symm) h))) hb2) (Kd.V_mono ho2 (fun q hq => hq.imp id (fun h => Nat.le_trans hsz1 h)))

/-! ### bits_Sub32: function 29 -/
def bits_Sub32.f (a0 : Int) (a1 : Int) (a2 : Int) : Option (Int × Int) := some ((((a0 - a1) % 4294967296) - a2) % 4294967296, (Go.bits .or .u32 (Go.bits .and .u32 (Go.bits .xor .u32 4294967295 a0) a1) (Go.bits .and .u32 (Go.bits .xor .u32 4294967295 (Go.bits .xor .u32 a0 a1)) ((((a0 - a1) % 4294967296) - a2) % 4294967296))) / 2147483648)
set_option maxHeartbeats 8000000 in
set_option maxRecDepth 100000 in
theorem bits_Sub32.calls (a0 : Int) (a1 : Int) (a2 : Int) (r1 : Int) (r2 : Int) (w : World) (h : bits_Sub32.f a0 a1 a2 = some (r1, r2)) :
    Calls Try.prog 29 #[.int .u32 a0, .int .u32 a1, .int .u32 a2] w fun e w' => e = .returned (.tuple #[.int .u32 r1, .int .u32 r2]) ∧ Drawn0 w w' := by
  have H : (some ((((a0 - a1) % 4294967296) - a2) % 4294967296, (Go.bits .or .u32 (Go.bits .and .u32 (Go.bits .xor .u32 4294967295 a0) a1) (Go.bits .and .u32 (Go.bits .xor .u32 4294967295 (Go.bits .xor .u32 a0 a1)) ((((a0 - a1) % 4294967296) - a2) % 4294967296))) / 2147483648)) = some (r1, r2) := h
  clear h
  simp only [Option.some.injEq, Prod.mk.injEq] at H
  obtain ⟨rfl, rfl⟩ := H
  go_enter Try.func29, Try.ntmps29
  go_wp2
  go_ret2
  exact ⟨by first | rfl | (simp; done) | (simp [*]; done), by repeat (first | exact Drawn0.refl _ | apply Drawn0.step)⟩

end Go.Proofs.Ytfcnmgeokjemmaa.QTopNumbers
