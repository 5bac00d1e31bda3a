-- written by wip/wprint, a program of this session
import Derived.Test.YtfcnmgeokjemmaaQTopNumbersx0
import Derived.Test.YtfcnmgeokjemmaaQTopNumbersx3
import Derived.Test.YtfcnmgeokjemmaaQTopNumbersx4
import Derived.Test.YtfcnmgeokjemmaaQTopNumbersx6
import Derived.Test.YtfcnmgeokjemmaaQTopNumbersx7
import Derived.Test.YtfcnmgeokjemmaaQTopNumbersx8
import Derived.Test.YtfcnmgeokjemmaaQTopNumbersx12
import Derived.Test.YtfcnmgeokjemmaaQTopNumbersx13d
namespace Go.Proofs.Ytfcnmgeokjemmaa.QTopNumbers
open Go.RowKit Go.Proofs.YtfcnmgeokjemmaaW.PrintWords Go.Proofs.YtfcnmgeokjemmaaW.PrintLast Go.Proofs.YtfcnmgeokjemmaaW.PrintMore
open Go.Proofs.YtfcnmgeokjemmaaW.PrintWords.Kd renaming R_alloc → qa, R_drewN → qn, R_drew → qd, V_alloc → va, V_drewN → vn, V_drew → vd
open Go.Proofs.YtfcnmgeokjemmaaW.PrintWords renaming below_alloc → ba, pw_below_drewN → bn, below_drew1 → bd
attribute [local go_sem] max2_int min2_int max_two min_two max_three min_three max_four min_four   -- for this text's walks alone
set_option linter.unusedVariables false
set_option linter.unusedSimpArgs false

set_option maxHeartbeats 8000000 in
set_option maxRecDepth 100000 in
theorem whetstonetop_TopNumbers.calls (k : Nat) (a0_0 : Bool) (A0_1 : Option Addr) (c0_1 : Nat) (l0_1 : List Int) (a1_0 : Bool) (A1_1 : Option Addr) (c1_1 : Nat) (l1_1 : List Int) (a2_0 : Bool) (A2_1 : Option Addr) (c2_1 : Nat) (l2_1 : List Int) (r : Bool) (w : World) (hr0_1 : Kd.C (Kd.int .u32) w A0_1 l0_1.length l0_1) (hc0_1 : l0_1.length ≤ c0_1) (hr1_1 : Kd.C (Kd.int .u32) w A1_1 l1_1.length l1_1) (hc1_1 : l1_1.length ≤ c1_1) (hr2_1 : Kd.C (Kd.int .u32) w A2_1 l2_1.length l2_1) (hc2_1 : l2_1.length ≤ c2_1) (h : whetstonetop_TopNumbers.f k a0_0 l0_1 a1_0 l1_1 a2_0 l2_1 = some r) :
  Calls Try.prog 3 #[.agg #[.bool a0_0, .slice A0_1 l0_1.length c0_1], .agg #[.bool a1_0, .slice A1_1 l1_1.length c1_1], .agg #[.bool a2_0, .slice A2_1 l2_1.length c2_1]] w fun e w' => e = .returned (.bool r) ∧ Below w.heap.size w w' := by
 have hu24 := Try.underlying24
 have HR0_1 := Aside0.mk hr0_1
 have HC0_1 := Aside0.mk hc0_1
 clear hr0_1 hc0_1
 have HR1_1 := Aside0.mk hr1_1
 have HC1_1 := Aside0.mk hc1_1
 clear hr1_1 hc1_1
 have HR2_1 := Aside0.mk hr2_1
 have HC2_1 := Aside0.mk hc2_1
 clear hr2_1 hc2_1
 have HB := Aside0.mk (Below.refl w.heap.size w)
 have H : ((big_Parse.f k (⟨#[45, 49, 56, 52, 52, 54, 55, 52, 52, 48, 55, 51, 55, 48, 57, 53, 53, 49, 54, 49, 54]⟩ : ByteArray)).bind fun bt436 => (if bt436.2.2 = 0 then (if (bt436.2.1.length : Int) = 3 then (if bt436.1 = true then ((nat_Text.f k bt436.2.1).bind fun t442 => (whetstonetop_TopNumbers.j0 k (t442.toList != ([49, 56, 52, 52, 54, 55, 52, 52, 48, 55, 51, 55, 48, 57, 53, 53, 49, 54, 49, 54] : List UInt8)) a0_0 l0_1 a1_0 l1_1 a2_0 l2_1)) else (whetstonetop_TopNumbers.j0 k true a0_0 l0_1 a1_0 l1_1 a2_0 l2_1)) else (whetstonetop_TopNumbers.j0 k true a0_0 l0_1 a1_0 l1_1 a2_0 l2_1)) else (whetstonetop_TopNumbers.j0 k true a0_0 l0_1 a1_0 l1_1 a2_0 l2_1))) = some r := h
 clear h
 replace H := bi H
 obtain ⟨⟨t436, t437, t440⟩, A40, H⟩ := H
 try dsimp only at H
 have A4 := Aside0.mk A40
 clear A40
 have HC5 := Aside0.mk H
 clear H
 go_enter Try.func3, Try.ntmps3
 go_upto_region 2 with (first | ((with_reducible refine gate_dst (N := 3) rfl ?_); (try (refine gate_guard (by rfl) ?_; dsimp only)); refine bx (N := 3) #[.bool a0_0, .slice A0_1 l0_1.length c0_1] 24 ?_; intro gb433 hg w6 hbox hb; have BK433 := Aside0.mk (hbox); have GW433 := bz hg HB; have GE433 := bz hg HB; replace HB := bs HB hb; clear hb hbox hg) | ((with_reducible refine gate_dst (N := 4) rfl ?_); (try (refine gate_guard (by rfl) ?_; dsimp only)); refine bx (N := 4) #[.bool a1_0, .slice A1_1 l1_1.length c1_1] 24 ?_; intro gb434 hg w7 hbox hb; have BK434 := Aside0.mk (hbox); have GW434 := bz hg HB; have GE434 := bz hg HB; replace HB := bs HB hb; have NB433_434 := nl hg BK433; have NB434_433 := ng hg BK433; replace BK433 := kb BK433 hb; clear hb hbox hg) | ((with_reducible refine gate_dst (N := 5) rfl ?_); (try (refine gate_guard (by rfl) ?_; dsimp only)); refine bx (N := 5) #[.bool a2_0, .slice A2_1 l2_1.length c2_1] 24 ?_; intro gb435 hg w8 hbox hb; have BK435 := Aside0.mk (hbox); have GW435 := bz hg HB; have GE435 := bz hg HB; replace HB := bs HB hb; have NB433_435 := nl hg BK433; have NB435_433 := ng hg BK433; replace BK433 := kb BK433 hb; have NB434_435 := nl hg BK434; have NB435_434 := ng hg BK434; replace BK434 := kb BK434 hb; clear hb hbox hg) | ((with_reducible refine gate_callee (f := 4) rfl ?_); refine gL (N := some 20) Try.func4 #[.string (⟨#[45, 49, 56, 52, 52, 54, 55, 52, 52, 48, 55, 51, 55, 48, 57, 53, 53, 49, 54, 49, 54]⟩ : ByteArray)] ?_; (with_reducible refine (big_Parse.calls k (⟨#[45, 49, 56, 52, 52, 54, 55, 52, 52, 48, 55, 51, 55, 48, 57, 53, 53, 49, 54, 49, 54]⟩ : ByteArray) t436 t437 t440 _ A4.out).mono ?_); rintro e w9 ⟨v438, rfl, ho0, hb⟩; refine ⟨_, rfl, ?_⟩; have HO439 := rl ho0 HB; replace BK433 := kb BK433 hb; replace BK434 := kb BK434 hb; replace BK435 := kb BK435 hb; replace HB := bs HB hb; (try clear hb); (try clear hb2); (try clear hk); (try clear hi); (try clear ho0)) | ((with_reducible refine gate_dst (N := 7) rfl ?_); (try (refine gate_guard (by rfl) ?_; dsimp only)); refine bx (N := 7) #[.bool false, .slice none 0 0] 24 ?_; intro gb441 hg w10 hbox hb; replace HO439 := rb HO439 hb; have BK441 := Aside0.mk (hbox); have GW441 := bz hg HB; have GE441 := bz hg HB; replace HB := bs HB hb; have NB433_441 := nl hg BK433; have NB441_433 := ng hg BK433; replace BK433 := kb BK433 hb; have NB434_441 := nl hg BK434; have NB441_434 := ng hg BK434; replace BK434 := kb BK434 hb; have NB435_441 := nl hg BK435; have NB441_435 := ng hg BK435; replace BK435 := kb BK435 hb; clear hb hbox hg; have hnb11 := NB441_433.out; have hnc11 := NB433_441.out; have hnb12 := NB441_434.out; have hnc12 := NB434_441.out; have hnb13 := NB441_435.out; have hnc13 := NB435_441.out; have hcz14_0 := bc BK441 0 (.bool false); have hcz14_1 := bc BK441 1 (.slice none 0 0); have hfz14_0 := blk_frozen BK441.out 0; have hfz14_1 := blk_frozen BK441.out 1; obtain ⟨Ao15, co15, eo15⟩ := Kd.R_slice HO439.out; subst eo15))
 (try simp only [Act.put, List.setIfInBounds_toArray, List.set_cons_zero, List.set_cons_succ])
 go_cut [41] from 1 to 0 (fun v41 wc => ∃ (kq : Nat) (x41_4 : Bool), v41 = .bool x41_4 ∧ Aside0 (whetstonetop_TopNumbers.j0 kq x41_4 a0_0 l0_1 a1_0 l1_1 a2_0 l2_1 = some r) ∧ Aside0 (kq ≤ k) ∧ Aside0 (Kd.R (Kd.int .u32) 42 wc w.heap.size (fun _ => True) (.slice Ao15 t437.length co15) t437) ∧ Aside0 (wc.heap[gb433]? = some (.cells #[.bool a0_0, (.slice A0_1 l0_1.length c0_1)] 24 (0, 0))) ∧ Aside0 (wc.heap[gb434]? = some (.cells #[.bool a1_0, (.slice A1_1 l1_1.length c1_1)] 24 (0, 0))) ∧ Aside0 (wc.heap[gb435]? = some (.cells #[.bool a2_0, (.slice A2_1 l2_1.length c2_1)] 24 (0, 0))) ∧ Aside0 (wc.heap[gb441]? = some (.cells #[.bool t436, (.slice Ao15 t437.length co15)] 24 (0, 0))) ∧ Aside0 (Below w.heap.size w wc))
 case first =>
  have H := HC5.out
  clear HC5
  by_cases c16 : t440 = 0
  ·rw [if_pos c16] at H
   have c16b0 : (t440 == 0) = true := beq_iff_eq.mpr c16
   have c16b1 : (t440 != 0) = false := bne_eq_false_iff_eq.mpr c16
   clear c16
   (first | rw [c16b0] | rw [c16b1] | (simp only [i64_w, i32_w]; rw [c16b0]) | skip)
   by_cases c17 : (t437.length : Int) = 3
   ·rw [if_pos c17] at H
    have c17b0 : ((t437.length : Int) == 3) = true := beq_iff_eq.mpr c17
    have c17b1 : ((t437.length : Int) != 3) = false := bne_eq_false_iff_eq.mpr c17
    clear c17
    by_cases c18 : t436 = true
    ·subst c18
     have H1 : ((nat_Text.f k t437).bind fun t442 => (whetstonetop_TopNumbers.j0 k (t442.toList != ([49, 56, 52, 52, 54, 55, 52, 52, 48, 55, 51, 55, 48, 57, 53, 53, 49, 54, 49, 54] : List UInt8)) a0_0 l0_1 a1_0 l1_1 a2_0 l2_1)) = some r := by rw [if_pos rfl] at H; exact H
     clear H
     have H := H1
     clear H1
     replace H := bi H
     obtain ⟨t442, A190, H⟩ := H
     have A19 := Aside0.mk A190
     clear A190
     have H' := Aside0.mk H
     clear H
     have hnb20 := NB441_433.out
     have hnc20 := NB433_441.out
     have hnb21 := NB441_434.out
     have hnc21 := NB434_441.out
     have hnb22 := NB441_435.out
     have hnc22 := NB435_441.out
     have hcz23_0 := bc BK441 0 (.bool false)
     have hcz23_1 := bc BK441 1 (.slice none 0 0)
     have hfz23_0 := blk_frozen BK441.out 0
     have hfz23_1 := blk_frozen BK441.out 1
     go_wp2_with (first | (go_at_call 5; (with_reducible refine (nat_Text.calls k _ _ t437 t442 _ ?side1 ?side2 A19.out).mono ?_); (case side1 => refine (Kd.R_reads' (e := 42) (base := w.heap.size) (ok := fun k_ => True) (n := t437.length) (c := co15) ?_).2.2; exact (by (with_reducible repeat first | apply qa | apply qn | apply qd); exact (Kd.R_mono (Kd.R_far (p := ⟨gb441, 1, none⟩) (Kd.R_far (p := ⟨gb441, 0, none⟩) (Kd.R_types HO439.out BK441.out (by decide)) (fun _ hk => hk.2) (.bool true)) (fun _ hk => hk.2) (.slice Ao15 t437.length co15)) (fun _ h_ => h_.1)))); (case side2 => exact (Kd.R_reads' HO439.out).2.1); rintro e w24 ⟨rfl, hb⟩; replace HO439 := rt HO439 hb; replace BK433 := kb BK433 hb; replace BK434 := kb BK434 hb; replace BK435 := kb BK435 hb; replace BK441 := kb (o' := .cells #[.bool true, .slice Ao15 t437.length co15] 24 (0, 0)) BK441 hb; replace HB := bs HB hb; (try clear hb); (try clear hb2); (try clear hk); (try clear hi)))
     go_meet
     case rel => exact ⟨_, ((t442.toList != ([49, 56, 52, 52, 54, 55, 52, 52, 48, 55, 51, 55, 48, 57, 53, 53, 49, 54, 49, 54] : List UInt8))), (by first | rfl | (simp; done) | (simp [*]; done)), H', ⟨by first | omega | exact Nat.le_refl _⟩, ⟨tq HO439⟩, ⟨tk BK433⟩, ⟨tk BK434⟩, ⟨tk BK435⟩, ⟨tk BK441⟩, ⟨tb HB⟩⟩
    ·replace c18 := Bool.eq_false_iff.mpr c18
     subst c18
     have H1 : (whetstonetop_TopNumbers.j0 k true a0_0 l0_1 a1_0 l1_1 a2_0 l2_1) = some r := by rw [if_neg (show ¬ (false = true) by decide)] at H; exact H
     clear H
     have H := H1
     clear H1
     have H' := Aside0.mk H
     clear H
     have hnb25 := NB441_433.out
     have hnc25 := NB433_441.out
     have hnb26 := NB441_434.out
     have hnc26 := NB434_441.out
     have hnb27 := NB441_435.out
     have hnc27 := NB435_441.out
     have hcz28_0 := bc BK441 0 (.bool false)
     have hcz28_1 := bc BK441 1 (.slice none 0 0)
     have hfz28_0 := blk_frozen BK441.out 0
     have hfz28_1 := blk_frozen BK441.out 1
     go_wp2
     go_meet
     case rel => exact ⟨_, (true), (by first | rfl | (simp; done) | (simp [*]; done)), H', ⟨by first | omega | exact Nat.le_refl _⟩, ⟨by (with_reducible repeat first | apply qa | apply qn | apply qd); exact Kd.R_mono (Kd.R_far (p := ⟨gb441, 1, none⟩) (Kd.R_far (p := ⟨gb441, 0, none⟩) (Kd.R_types HO439.out BK441.out (by decide)) (fun _ hk => hk.2) (.bool false)) (fun _ hk => hk.2) (.slice Ao15 t437.length co15)) (fun _ hk => trivial)⟩, ⟨tk BK433⟩, ⟨tk BK434⟩, ⟨tk BK435⟩, ⟨tk BK441⟩, ⟨tb HB⟩⟩
   ·rw [if_neg c17] at H
    have c17b0 : ((t437.length : Int) == 3) = false := beq_eq_false_iff_ne.mpr c17
    have c17b1 : ((t437.length : Int) != 3) = true := bne_iff_ne.mpr c17
    have H' := Aside0.mk H
    clear H
    have hnb29 := NB441_433.out
    have hnc29 := NB433_441.out
    have hnb30 := NB441_434.out
    have hnc30 := NB434_441.out
    have hnb31 := NB441_435.out
    have hnc31 := NB435_441.out
    have hcz32_0 := bc BK441 0 (.bool false)
    have hcz32_1 := bc BK441 1 (.slice none 0 0)
    have hfz32_0 := blk_frozen BK441.out 0
    have hfz32_1 := blk_frozen BK441.out 1
    go_wp2
    go_meet
    case rel => exact ⟨_, (true), (by first | rfl | (simp; done) | (simp [*]; done)), H', ⟨by first | omega | exact Nat.le_refl _⟩, ⟨by (with_reducible repeat first | apply qa | apply qn | apply qd); exact Kd.R_mono (Kd.R_far (p := ⟨gb441, 1, none⟩) (Kd.R_far (p := ⟨gb441, 0, none⟩) (Kd.R_types HO439.out BK441.out (by decide)) (fun _ hk => hk.2) (.bool t436)) (fun _ hk => hk.2) (.slice Ao15 t437.length co15)) (fun _ hk => trivial)⟩, ⟨tk BK433⟩, ⟨tk BK434⟩, ⟨tk BK435⟩, ⟨tk BK441⟩, ⟨tb HB⟩⟩
  ·rw [if_neg c16] at H
   have c16b0 : (t440 == 0) = false := beq_eq_false_iff_ne.mpr c16
   have c16b1 : (t440 != 0) = true := bne_iff_ne.mpr c16
   (first | rw [c16b0] | rw [c16b1] | (simp only [i64_w, i32_w]; rw [c16b0]) | skip)
   have H' := Aside0.mk H
   clear H
   go_wp2
   go_meet
   case rel => exact ⟨_, (true), (by first | rfl | (simp; done) | (simp [*]; done)), H', ⟨by first | omega | exact Nat.le_refl _⟩, ⟨by (with_reducible repeat first | apply qa | apply qn | apply qd); exact Kd.R_mono (Kd.R_far (p := ⟨gb441, 1, none⟩) (Kd.R_far (p := ⟨gb441, 0, none⟩) (Kd.R_types HO439.out BK441.out (by decide)) (fun _ hk => hk.2) (.bool t436)) (fun _ hk => hk.2) (.slice Ao15 t437.length co15)) (fun _ hk => trivial)⟩, ⟨tk BK433⟩, ⟨tk BK434⟩, ⟨tk BK435⟩, ⟨tk BK441⟩, ⟨tb HB⟩⟩
 case rest =>
  clear HC5
  (try clear c1); (try clear c2); (try clear p2); (try clear c3); (try clear c4); (try clear c11); (try clear c12); (try clear c13); (try clear c16); (try clear c16b0); (try clear c16b1); (try clear c17); (try clear c17b0); (try clear c17b1); (try clear c18); (try clear c20); (try clear c21); (try clear c22); (try clear c25); (try clear c26); (try clear c27); (try clear c29); (try clear c30); (try clear c31); (try clear hcz14_0); (try clear hcz14_1); (try clear hcz23_0); (try clear hcz23_1); (try clear hcz28_0); (try clear hcz28_1); (try clear hcz32_0); (try clear hcz32_1); (try clear hfz14_0); (try clear hfz14_1); (try clear hfz23_0); (try clear hfz23_1); (try clear hfz28_0); (try clear hfz28_1); (try clear hfz32_0); (try clear hfz32_1)
  obtain ⟨kq, x41_4, rfl, HA, HJ4, HO_442001, BK433, BK434, BK435, BK441, HB⟩ := hcut
  cases kq with
  | zero => exact absurd HA.out (by simp [whetstonetop_TopNumbers.j0])
  | succ kj4 =>
   have H := HA.out
   clear HA
   simp only [whetstonetop_TopNumbers.j0] at H
   by_cases c33 : x41_4 = true
   ·subst c33
    have H1 : (none) = some r := by rw [if_pos rfl] at H; exact H
    clear H
    have H := H1
    clear H1
    exact absurd H (by simp)
   ·replace c33 := Bool.eq_false_iff.mpr c33
    subst c33
    have H1 : (if (l0_1.length : Int) > 8 then (whetstonetop_TopNumbers.j1 kj4 true a0_0 l0_1 a1_0 l1_1 a2_0 l2_1) else (if (l1_1.length : Int) > 8 then (whetstonetop_TopNumbers.j1 kj4 true a0_0 l0_1 a1_0 l1_1 a2_0 l2_1) else (whetstonetop_TopNumbers.j1 kj4 (decide ((l2_1.length : Int) > 8)) a0_0 l0_1 a1_0 l1_1 a2_0 l2_1))) = some r := by rw [if_neg (show ¬ (false = true) by decide)] at H; exact H
    clear H
    have H := H1
    clear H1
    have HC34 := Aside0.mk H
    clear H
    go_upto_region 4 with (fail)
    go_cut [57] from 1 to 0 (fun v57 wc => ∃ (kq : Nat) (x57_33 : Bool), v57 = .bool x57_33 ∧ Aside0 (whetstonetop_TopNumbers.j1 kq x57_33 a0_0 l0_1 a1_0 l1_1 a2_0 l2_1 = some r) ∧ Aside0 (kq ≤ kj4) ∧ Aside0 (Kd.R (Kd.int .u32) 42 wc w.heap.size (fun _ => True) (.slice Ao15 t437.length co15) t437) ∧ Aside0 (wc.heap[gb433]? = some (.cells #[.bool a0_0, (.slice A0_1 l0_1.length c0_1)] 24 (0, 0))) ∧ Aside0 (wc.heap[gb434]? = some (.cells #[.bool a1_0, (.slice A1_1 l1_1.length c1_1)] 24 (0, 0))) ∧ Aside0 (wc.heap[gb435]? = some (.cells #[.bool a2_0, (.slice A2_1 l2_1.length c2_1)] 24 (0, 0))) ∧ Aside0 (wc.heap[gb441]? = some (.cells #[.bool t436, (.slice Ao15 t437.length co15)] 24 (0, 0))) ∧ Aside0 (Below w.heap.size w wc))
    case first =>
     have H := HC34.out
     clear HC34
     by_cases c35 : (l0_1.length : Int) > 8
     ·rw [if_pos c35] at H
      have c35b0 : decide (8 < (l0_1.length : Int)) = true := decide_eq_true c35
      have c35b1 : decide (8 < l0_1.length) = true := decide_eq_true (by omega)
      clear c35
      (first | rw [c35b0] | rw [c35b1] | (simp only [i64_w, i32_w]; rw [c35b0]) | skip)
      have H' := Aside0.mk H
      clear H
      have hnb36 := NB433_434.out
      have hnc36 := NB434_433.out
      have hnb37 := NB433_435.out
      have hnc37 := NB435_433.out
      have hnb38 := NB433_441.out
      have hnc38 := NB441_433.out
      have hcz39_0 := bc BK433 0 (.bool a0_0)
      have hcz39_1 := bc BK433 1 (.slice A0_1 l0_1.length c0_1)
      have hfz39_0 := blk_frozen BK433.out 0
      have hfz39_1 := blk_frozen BK433.out 1
      go_wp2
      go_meet
      case rel => exact ⟨_, (true), (by first | rfl | (simp; done) | (simp [*]; done)), H', ⟨by have := HJ4.out; first | omega | exact Nat.le_refl _⟩, ⟨tq HO_442001⟩, ⟨tk BK433⟩, ⟨tk BK434⟩, ⟨tk BK435⟩, ⟨tk BK441⟩, ⟨tb HB⟩⟩
     ·rw [if_neg c35] at H
      have c35b0 : decide (8 < (l0_1.length : Int)) = false := decide_eq_false c35
      have c35b1 : decide (8 < l0_1.length) = false := decide_eq_false (by omega)
      clear c35
      (first | rw [c35b0] | rw [c35b1] | (simp only [i64_w, i32_w]; rw [c35b0]) | skip)
      by_cases c40 : (l1_1.length : Int) > 8
      ·rw [if_pos c40] at H
       have c40b0 : decide (8 < (l1_1.length : Int)) = true := decide_eq_true c40
       have c40b1 : decide (8 < l1_1.length) = true := decide_eq_true (by omega)
       clear c40
       have H' := Aside0.mk H
       clear H
       have hnb41 := NB433_434.out
       have hnc41 := NB434_433.out
       have hnb42 := NB433_435.out
       have hnc42 := NB435_433.out
       have hnb43 := NB433_441.out
       have hnc43 := NB441_433.out
       have hcz44_0 := bc BK433 0 (.bool a0_0)
       have hcz44_1 := bc BK433 1 (.slice A0_1 l0_1.length c0_1)
       have hfz44_0 := blk_frozen BK433.out 0
       have hfz44_1 := blk_frozen BK433.out 1
       have hnb45 := NB434_435.out
       have hnc45 := NB435_434.out
       have hnb46 := NB434_441.out
       have hnc46 := NB441_434.out
       have hcz47_0 := bc BK434 0 (.bool a1_0)
       have hcz47_1 := bc BK434 1 (.slice A1_1 l1_1.length c1_1)
       have hfz47_0 := blk_frozen BK434.out 0
       have hfz47_1 := blk_frozen BK434.out 1
       go_wp2
       go_meet
       case rel => exact ⟨_, (true), (by first | rfl | (simp; done) | (simp [*]; done)), H', ⟨by have := HJ4.out; first | omega | exact Nat.le_refl _⟩, ⟨tq HO_442001⟩, ⟨tk BK433⟩, ⟨tk BK434⟩, ⟨tk BK435⟩, ⟨tk BK441⟩, ⟨tb HB⟩⟩
      ·rw [if_neg c40] at H
       have c40b0 : decide (8 < (l1_1.length : Int)) = false := decide_eq_false c40
       have c40b1 : decide (8 < l1_1.length) = false := decide_eq_false (by omega)
       clear c40
       have H' := Aside0.mk H
       clear H
       have hnb48 := NB433_434.out
       have hnc48 := NB434_433.out
       have hnb49 := NB433_435.out
       have hnc49 := NB435_433.out
       have hnb50 := NB433_441.out
       have hnc50 := NB441_433.out
       have hcz51_0 := bc BK433 0 (.bool a0_0)
       have hcz51_1 := bc BK433 1 (.slice A0_1 l0_1.length c0_1)
       have hfz51_0 := blk_frozen BK433.out 0
       have hfz51_1 := blk_frozen BK433.out 1
       have hnb52 := NB434_435.out
       have hnc52 := NB435_434.out
       have hnb53 := NB434_441.out
       have hnc53 := NB441_434.out
       have hcz54_0 := bc BK434 0 (.bool a1_0)
       have hcz54_1 := bc BK434 1 (.slice A1_1 l1_1.length c1_1)
       have hfz54_0 := blk_frozen BK434.out 0
       have hfz54_1 := blk_frozen BK434.out 1
       have hnb55 := NB435_441.out
       have hnc55 := NB441_435.out
       have hcz56_0 := bc BK435 0 (.bool a2_0)
       have hcz56_1 := bc BK435 1 (.slice A2_1 l2_1.length c2_1)
       have hfz56_0 := blk_frozen BK435.out 0
       have hfz56_1 := blk_frozen BK435.out 1
       go_wp2
       go_meet
       case rel => exact ⟨_, (decide ((l2_1.length : Int) > 8)), (by first | rfl | (simp; done) | (simp [*]; done)), H', ⟨by have := HJ4.out; first | omega | exact Nat.le_refl _⟩, ⟨tq HO_442001⟩, ⟨tk BK433⟩, ⟨tk BK434⟩, ⟨tk BK435⟩, ⟨tk BK441⟩, ⟨tb HB⟩⟩
    case rest =>
     clear HC34
     (try clear c1); (try clear c2); (try clear p2); (try clear c3); (try clear c4); (try clear c5); (try clear c11); (try clear c12); (try clear c13); (try clear c16); (try clear c16b0); (try clear c16b1); (try clear c17); (try clear c17b0); (try clear c17b1); (try clear c18); (try clear c20); (try clear c21); (try clear c22); (try clear c25); (try clear c26); (try clear c27); (try clear c29); (try clear c30); (try clear c31); (try clear c33); (try clear c35); (try clear c35b0); (try clear c35b1); (try clear c36); (try clear c37); (try clear c38); (try clear c40); (try clear c40b0); (try clear c40b1); (try clear c41); (try clear c42); (try clear c43); (try clear c45); (try clear c46); (try clear c48); (try clear c49); (try clear c50); (try clear c52); (try clear c53); (try clear c55); (try clear hcz14_0); (try clear hcz14_1); (try clear hcz23_0); (try clear hcz23_1); (try clear hcz28_0); (try clear hcz28_1); (try clear hcz32_0); (try clear hcz32_1); (try clear hcz39_0); (try clear hcz39_1); (try clear hcz44_0); (try clear hcz44_1); (try clear hcz47_0); (try clear hcz47_1); (try clear hcz51_0); (try clear hcz51_1); (try clear hcz54_0); (try clear hcz54_1); (try clear hcz56_0); (try clear hcz56_1); (try clear hfz14_0); (try clear hfz14_1); (try clear hfz23_0); (try clear hfz23_1); (try clear hfz28_0); (try clear hfz28_1); (try clear hfz32_0); (try clear hfz32_1); (try clear hfz39_0); (try clear hfz39_1); (try clear hfz44_0); (try clear hfz44_1); (try clear hfz47_0); (try clear hfz47_1); (try clear hfz51_0); (try clear hfz51_1); (try clear hfz54_0); (try clear hfz54_1); (try clear hfz56_0); (try clear hfz56_1); (try clear p2)
     obtain ⟨kq, x57_33, rfl, HA, HJ33, HO_442001, BK433, BK434, BK435, BK441, HB⟩ := hcut
     cases kq with
     | zero => exact absurd HA.out (by simp [whetstonetop_TopNumbers.j1])
     | succ kj33 =>
      have H := HA.out
      clear HA
      simp only [whetstonetop_TopNumbers.j1] at H
      by_cases c57 : x57_33 = true
      ·subst c57
       have H1 : (some true) = some r := by rw [if_pos rfl] at H; exact H
       clear H
       have H := H1
       clear H1
       obtain rfl := Option.some.inj H
       go_wp2
       go_ret
       exact ⟨by first | rfl | (simp [errW_none, errW_some] <;> rfl) | (simp [*, errW_none, errW_some] <;> rfl), tb HB⟩
      ·replace c57 := Bool.eq_false_iff.mpr c57
       subst c57
       have H1 : ((big_Mul.f kj33 a0_0 l0_1 a1_0 l1_1).bind fun bt443 => ((big_Add.f kj33 bt443.1 bt443.2 a2_0 l2_1).bind fun bt447 => ((big_Text.f kj33 bt447.1 bt447.2).bind fun t452 => ((big_Parse.f kj33 t452).bind fun bt453 => ((nat_Text.f kj33 bt447.2).bind fun t459 => ((nat_Parse.f kj33 t459).bind fun bt460 => (if bt453.2.2 = 0 then (if bt460.2 = 0 then ((big_Cmp.f kj33 bt453.1 bt453.2.1 bt447.1 bt447.2).bind fun t464 => (if t464 = 0 then ((nat_Cmp.f kj33 bt460.1 bt447.2).bind fun t465 => (if t465 = 0 then ((big_Sub.f kj33 bt453.1 bt453.2.1 a2_0 l2_1).bind fun bt466 => ((big_Mul.f kj33 a1_0 l1_1 a0_0 l0_1).bind fun bt470 => ((big_Cmp.f kj33 bt466.1 bt466.2 bt470.1 bt470.2).bind fun t474 => (whetstonetop_TopNumbers.j2 kj33 (t474 != 0) a0_0 l0_1 a1_0 l1_1 a2_0 l2_1 bt447.1 bt447.2)))) else (whetstonetop_TopNumbers.j2 kj33 true a0_0 l0_1 a1_0 l1_1 a2_0 l2_1 bt447.1 bt447.2))) else (whetstonetop_TopNumbers.j2 kj33 true a0_0 l0_1 a1_0 l1_1 a2_0 l2_1 bt447.1 bt447.2))) else (whetstonetop_TopNumbers.j2 kj33 true a0_0 l0_1 a1_0 l1_1 a2_0 l2_1 bt447.1 bt447.2)) else (whetstonetop_TopNumbers.j2 kj33 true a0_0 l0_1 a1_0 l1_1 a2_0 l2_1 bt447.1 bt447.2)))))))) = some r := by rw [if_neg (show ¬ (false = true) by decide)] at H; exact H
       clear H
       have H := H1
       clear H1
       replace H := bi H
       obtain ⟨⟨t443, t444⟩, A580, H⟩ := H
       try dsimp only at H
       have A58 := Aside0.mk A580
       clear A580
       replace H := bi H
       obtain ⟨⟨t447, t448⟩, A590, H⟩ := H
       try dsimp only at H
       have A59 := Aside0.mk A590
       clear A590
       replace H := bi H
       obtain ⟨t452, A600, H⟩ := H
       have A60 := Aside0.mk A600
       clear A600
       replace H := bi H
       obtain ⟨⟨t453, t454, t457⟩, A610, H⟩ := H
       try dsimp only at H
       have A61 := Aside0.mk A610
       clear A610
       replace H := bi H
       obtain ⟨t459, A620, H⟩ := H
       have A62 := Aside0.mk A620
       clear A620
       replace H := bi H
       obtain ⟨⟨t460, t463⟩, A630, H⟩ := H
       try dsimp only at H
       have A63 := Aside0.mk A630
       clear A630
       have HC64 := Aside0.mk H
       clear H
       try go_wp2
       replace HO_442001 := Aside0.mk (Kd.R_drew HO_442001.out)
       replace BK433 := Aside0.mk (blk_drew BK433.out)
       replace BK434 := Aside0.mk (blk_drew BK434.out)
       replace BK435 := Aside0.mk (blk_drew BK435.out)
       replace BK441 := Aside0.mk (blk_drew BK441.out)
       replace HB := Aside0.mk (below_drew1 HB.out)
       refine start_ (n := 7) (S := fun w' => w'.cell? ⟨gb433, 0, none⟩ = some (.bool a0_0) ∧ w'.cell? ⟨gb433, 1, none⟩ = some (.slice A0_1 l0_1.length c0_1) ∧ w'.cell? ⟨gb434, 0, none⟩ = some (.bool a1_0) ∧ w'.cell? ⟨gb434, 1, none⟩ = some (.slice A1_1 l1_1.length c1_1) ∧ w'.cell? ⟨gb435, 0, none⟩ = some (.bool a2_0) ∧ w'.cell? ⟨gb435, 1, none⟩ = some (.slice A2_1 l2_1.length c2_1)) (ds := []) #[false, false, false, false, false, false, false] (by kernel_rfl) rfl rfl ⟨(blk_cell BK433.out 0).trans rfl, (blk_cell BK433.out 1).trans rfl, (blk_cell BK434.out 0).trans rfl, (blk_cell BK434.out 1).trans rfl, (blk_cell BK435.out 0).trans rfl, (blk_cell BK435.out 1).trans rfl⟩ (fun hHeld => ?_)
       generalize wc.drew = w65 at HO_442001 BK433 BK434 BK435 BK441 HB hHeld ⊢
       refine t0 (i := 0) (N := some 58) (bb 7 1) hHeld ?_
       refine t0 (i := 1) (N := some 59) (bb 7 3) hHeld ?_
       refine t0 (i := 3) (N := some 61) (bb 7 11) hHeld ?_
       refine join_ (σ := Value × Value × Nat) 1 (bb 7 63) (fun s_ => [(60, .agg #[.bool t443, s_.1]), (62, .agg #[.bool t447, s_.2.1]), (9, .pointer (some ⟨s_.2.2, 0, none⟩))]) (fun s_ w' => (w'.cell? ⟨gb433, 0, none⟩ = some (.bool a0_0) ∧ w'.cell? ⟨gb433, 1, none⟩ = some (.slice A0_1 l0_1.length c0_1) ∧ w'.cell? ⟨gb434, 0, none⟩ = some (.bool a1_0) ∧ w'.cell? ⟨gb434, 1, none⟩ = some (.slice A1_1 l1_1.length c1_1) ∧ w'.cell? ⟨gb435, 0, none⟩ = some (.bool a2_0) ∧ w'.cell? ⟨gb435, 1, none⟩ = some (.slice A2_1 l2_1.length c2_1)) ∧ Aside0 (Kd.R (Kd.int .u32) 42 w' w.heap.size (fun k_ => some k_ ≠ (s_.2.1 : Value).ownBlock ∧ some k_ ≠ (.slice Ao15 t437.length co15 : Value).ownBlock) s_.1 t444) ∧ Aside0 (Kd.R (Kd.int .u32) 42 w' w.heap.size (fun k_ => some k_ ≠ (s_.1 : Value).ownBlock ∧ some k_ ≠ (.slice Ao15 t437.length co15 : Value).ownBlock) s_.2.1 t448) ∧ Aside0 (Kd.R (Kd.int .u32) 42 w' w.heap.size (fun k_ => some k_ ≠ (s_.1 : Value).ownBlock ∧ some k_ ≠ (s_.2.1 : Value).ownBlock) (.slice Ao15 t437.length co15) t437) ∧ Aside0 (w'.heap[gb433]? = some (.cells #[.bool a0_0, .slice A0_1 l0_1.length c0_1] 24 (0, 0))) ∧ Aside0 (w'.heap[gb434]? = some (.cells #[.bool a1_0, .slice A1_1 l1_1.length c1_1] 24 (0, 0))) ∧ Aside0 (w'.heap[gb435]? = some (.cells #[.bool a2_0, .slice A2_1 l2_1.length c2_1] 24 (0, 0))) ∧ Aside0 (w'.heap[gb441]? = some (.cells #[.bool t436, .slice Ao15 t437.length co15] 24 (0, 0))) ∧ Aside0 (w'.heap[s_.2.2]? = some (.cells #[.bool false, .slice none 0 0] 24 (0, 0))) ∧ Aside0 (w.heap.size ≤ s_.2.2) ∧ Aside0 (w.heap.size ≤ s_.2.2) ∧ Aside0 (gb433 ≠ s_.2.2) ∧ Aside0 (s_.2.2 ≠ gb433) ∧ Aside0 (gb434 ≠ s_.2.2) ∧ Aside0 (s_.2.2 ≠ gb434) ∧ Aside0 (gb435 ≠ s_.2.2) ∧ Aside0 (s_.2.2 ≠ gb435) ∧ Aside0 (gb441 ≠ s_.2.2) ∧ Aside0 (s_.2.2 ≠ gb441) ∧ Aside0 (Below w.heap.size w w')) ?_ ?_
       ·skip
        clear HO_442001 BK433 BK434 BK435 BK441 HB
        rintro ⟨v445, v449, gb451⟩ w70 ⟨hHeld, HO446, HO450, HO_442001, BK433, BK434, BK435, BK441, BK451, GW451, GE451, NB433_451, NB451_433, NB434_451, NB451_434, NB435_451, NB451_435, NB441_451, NB451_441, HB⟩
        try dsimp only at hHeld HO446 HO450 HO_442001 BK433 BK434 BK435 BK441 BK451 GW451 GE451 NB433_451 NB451_433 NB434_451 NB451_434 NB435_451 NB451_435 NB441_451 NB451_441 HB
        obtain ⟨Ao72, co72, eo72⟩ := Kd.R_slice HO450.out
        (first | subst eo72 | (injection eo72 with f1_ f2_ f3_; have f4_ := f1_.symm; have f5_ := f3_.symm; clear f1_ f2_ f3_; subst f4_; subst f5_))
        refine nP ?_
        refine o0 (i := 6) (N := none) (bb 7 127) fun K hK => ?_
        have hs71 := bc BK451 0 (.bool false)
        have hfs71 := blk_frozen BK451.out 0
        have hns71_0 := NB433_451.out
        have hns71_1 := NB434_451.out
        have hns71_2 := NB435_451.out
        have hns71_3 := NB441_451.out
        have hms71_0 := NB451_433.out
        have hms71_1 := NB451_434.out
        have hms71_2 := NB451_435.out
        have hms71_3 := NB451_441.out
        have hs73 := bc BK451 1 (.slice none 0 0)
        have hfs73 := blk_frozen BK451.out 1
        have hns73_0 := NB433_451.out
        have hns73_1 := NB434_451.out
        have hns73_2 := NB435_451.out
        have hns73_3 := NB441_451.out
        have hms73_0 := NB451_433.out
        have hms73_1 := NB451_434.out
        have hms73_2 := NB451_435.out
        have hms73_3 := NB451_441.out
        refine skip_ (w1 := ?_) (by rfl) rfl ?_ ?_
        rotate_left
        ·go_simp
         rfl
        refine hK.out _ _ ⟨((cell_far (p := ⟨gb451, _, none⟩) NB433_451.out _).trans (((cell_far (p := ⟨gb451, _, none⟩) NB433_451.out _).trans (hHeld.1)))), ((cell_far (p := ⟨gb451, _, none⟩) NB433_451.out _).trans (((cell_far (p := ⟨gb451, _, none⟩) NB433_451.out _).trans (hHeld.2.1)))), ((cell_far (p := ⟨gb451, _, none⟩) NB434_451.out _).trans (((cell_far (p := ⟨gb451, _, none⟩) NB434_451.out _).trans (hHeld.2.2.1)))), ((cell_far (p := ⟨gb451, _, none⟩) NB434_451.out _).trans (((cell_far (p := ⟨gb451, _, none⟩) NB434_451.out _).trans (hHeld.2.2.2.1)))), ((cell_far (p := ⟨gb451, _, none⟩) NB435_451.out _).trans (((cell_far (p := ⟨gb451, _, none⟩) NB435_451.out _).trans (hHeld.2.2.2.2.1)))), ((cell_far (p := ⟨gb451, _, none⟩) NB435_451.out _).trans (((cell_far (p := ⟨gb451, _, none⟩) NB435_451.out _).trans (hHeld.2.2.2.2.2))))⟩ (fun hHeld => ?_)
        clear hK K
        refine done_ (by kernel_rfl) ?_
        have hnb74 := NB451_433.out
        have hnc74 := NB433_451.out
        have hnb75 := NB451_434.out
        have hnc75 := NB434_451.out
        have hnb76 := NB451_435.out
        have hnc76 := NB435_451.out
        have hnb77 := NB451_441.out
        have hnc77 := NB441_451.out
        have hcz78_0 := bc BK451 0 (.bool false)
        have hcz78_1 := bc BK451 1 (.slice none 0 0)
        have hfz78_0 := blk_frozen BK451.out 0
        have hfz78_1 := blk_frozen BK451.out 1
        go_upto_region 9 with (first | ((with_reducible refine gate_callee (f := 8) rfl ?_); refine gL (N := some 65) Try.func8 #[.agg #[.bool t447, .slice Ao72 t448.length co72]] ?_; (with_reducible refine (big_Text.calls kj33 t447 _ _ t448 t452 _ ?side1 ?side2 A60.out).mono ?_); (case side1 => refine (Kd.R_reads' (e := 42) (base := w.heap.size) (ok := fun k_ => (some k_ ≠ (v445 : Value).ownBlock ∧ some k_ ≠ (.slice Ao15 t437.length co15 : Value).ownBlock)) (n := t448.length) (c := co72) ?_).2.2; exact (by (with_reducible repeat first | apply qa | apply qn | apply qd); exact (Kd.R_mono (Kd.R_far (p := ⟨gb451, 1, none⟩) (Kd.R_far (p := ⟨gb451, 0, none⟩) (Kd.R_types HO450.out BK451.out (by decide)) (fun _ hk => hk.2) (.bool t447)) (fun _ hk => hk.2) (.slice Ao72 t448.length co72)) (fun _ h_ => h_.1)))); (case side2 => exact (Kd.R_reads' HO450.out).2.1); rintro e w79 ⟨rfl, hb⟩; refine ⟨_, rfl, ?_⟩; replace HO_442001 := rt HO_442001 hb; replace HO446 := rt HO446 hb; replace HO450 := rt HO450 hb; replace BK433 := kb BK433 hb; replace BK434 := kb BK434 hb; replace BK435 := kb BK435 hb; replace BK441 := kb BK441 hb; replace BK451 := kb (o' := .cells #[.bool t447, .slice Ao72 t448.length co72] 24 (0, 0)) BK451 hb; replace HB := bs HB hb; (try clear hb); (try clear hb2); (try clear hk); (try clear hi)) | ((with_reducible refine gate_callee (f := 4) rfl ?_); refine gL (N := some 66) Try.func4 #[.string t452] ?_; (with_reducible refine (big_Parse.calls kj33 t452 t453 t454 t457 _ A61.out).mono ?_); rintro e w80 ⟨v455, rfl, ho0, hb⟩; refine ⟨_, rfl, ?_⟩; have HO456 := Aside0.mk (Kd.R_lower (Kd.R_new' (Kd.R_new' (Kd.R_new' ho0 (Kd.R_lt (tq HO_442001))) (Kd.R_lt (tq HO446))) (Kd.R_lt (tq HO450))) (below_size (tb HB))); replace HO_442001 := re HO_442001 (Kd.R_base ho0) hb; replace HO446 := re HO446 (Kd.R_base ho0) hb; replace HO450 := re HO450 (Kd.R_base ho0) hb; replace BK433 := kb BK433 hb; replace BK434 := kb BK434 hb; replace BK435 := kb BK435 hb; replace BK441 := kb BK441 hb; replace BK451 := kb BK451 hb; replace HB := bs HB hb; (try clear hb); (try clear hb2); (try clear hk); (try clear hi); (try clear ho0)) | ((with_reducible refine gate_dst (N := 10) rfl ?_); (try (refine gate_guard (by rfl) ?_; dsimp only)); refine bx (N := 10) #[.bool false, .slice none 0 0] 24 ?_; intro gb458 hg w81 hbox hb; replace HO_442001 := rb HO_442001 hb; replace HO446 := rb HO446 hb; replace HO450 := rb HO450 hb; replace HO456 := rb HO456 hb; have BK458 := Aside0.mk (hbox); have GW458 := bz hg HB; have GE458 := bz hg HB; replace HB := bs HB hb; have NB433_458 := nl hg BK433; have NB458_433 := ng hg BK433; replace BK433 := kb BK433 hb; have NB434_458 := nl hg BK434; have NB458_434 := ng hg BK434; replace BK434 := kb BK434 hb; have NB435_458 := nl hg BK435; have NB458_435 := ng hg BK435; replace BK435 := kb BK435 hb; have NB441_458 := nl hg BK441; have NB458_441 := ng hg BK441; replace BK441 := kb BK441 hb; have NB451_458 := nl hg BK451; have NB458_451 := ng hg BK451; replace BK451 := kb BK451 hb; clear hb hbox hg; have hnb82 := NB458_433.out; have hnc82 := NB433_458.out; have hnb83 := NB458_434.out; have hnc83 := NB434_458.out; have hnb84 := NB458_435.out; have hnc84 := NB435_458.out; have hnb85 := NB458_441.out; have hnc85 := NB441_458.out; have hnb86 := NB458_451.out; have hnc86 := NB451_458.out; have hcz87_0 := bc BK458 0 (.bool false); have hcz87_1 := bc BK458 1 (.slice none 0 0); have hfz87_0 := blk_frozen BK458.out 0; have hfz87_1 := blk_frozen BK458.out 1; obtain ⟨Ao88, co88, eo88⟩ := Kd.R_slice HO456.out; subst eo88; have hcz89_0 := bc BK451 0 (.bool t447); have hcz89_1 := bc BK451 1 (.slice Ao72 t448.length co72); have hfz89_0 := blk_frozen BK451.out 0; have hfz89_1 := blk_frozen BK451.out 1) | ((with_reducible refine gate_callee (f := 5) rfl ?_); refine gL (N := some 72) Try.func5 #[.slice Ao72 t448.length co72] ?_; (with_reducible refine (nat_Text.calls kj33 _ _ t448 t459 _ ?side1 ?side2 A62.out).mono ?_); (case side1 => refine (Kd.R_reads' (e := 42) (base := w.heap.size) (ok := fun k_ => ((some k_ ≠ (v445 : Value).ownBlock ∧ some k_ ≠ (.slice Ao15 t437.length co15 : Value).ownBlock) ∧ some k_ ≠ (.slice Ao88 t454.length co88 : Value).ownBlock)) (n := t448.length) (c := co72) ?_).2.2; exact (by (with_reducible repeat first | apply qa | apply qn | apply qd); exact (Kd.R_mono (Kd.R_far (p := ⟨gb458, 1, none⟩) (Kd.R_far (p := ⟨gb458, 0, none⟩) (Kd.R_types HO450.out BK458.out (by decide)) (fun _ hk => hk.2) (.bool t453)) (fun _ hk => hk.2) (.slice Ao88 t454.length co88)) (fun _ h_ => h_.1)))); (case side2 => exact (Kd.R_reads' HO450.out).2.1); rintro e w90 ⟨rfl, hb⟩; refine ⟨_, rfl, ?_⟩; replace HO_442001 := rt HO_442001 hb; replace HO446 := rt HO446 hb; replace HO450 := rt HO450 hb; replace HO456 := rt HO456 hb; replace BK433 := kb BK433 hb; replace BK434 := kb BK434 hb; replace BK435 := kb BK435 hb; replace BK441 := kb BK441 hb; replace BK451 := kb BK451 hb; replace BK458 := kb (o' := .cells #[.bool t453, .slice Ao88 t454.length co88] 24 (0, 0)) BK458 hb; replace HB := bs HB hb; (try clear hb); (try clear hb2); (try clear hk); (try clear hi)) | ((with_reducible refine gate_callee (f := 9) rfl ?_); refine gL (N := some 73) Try.func9 #[.string t459] ?_; (with_reducible refine (nat_Parse.calls kj33 t459 t460 t463 _ A63.out).mono ?_); rintro e w91 ⟨v461, rfl, ho0, hb⟩; refine ⟨_, rfl, ?_⟩; have HO462 := Aside0.mk (Kd.V_lower (Kd.V_mono (ok' := fun k_ => some k_ ≠ (.slice Ao15 t437.length co15 : Value).ownBlock ∧ some k_ ≠ (v445 : Value).ownBlock ∧ some k_ ≠ (.slice Ao72 t448.length co72 : Value).ownBlock ∧ some k_ ≠ (.slice Ao88 t454.length co88 : Value).ownBlock ∧ k_ ≠ gb433 ∧ k_ ≠ gb434 ∧ k_ ≠ gb435 ∧ k_ ≠ gb441 ∧ k_ ≠ gb451 ∧ k_ ≠ gb458) ho0 (fun k_ hk_ => ⟨(Kd.fresh' (Kd.R_lt (tq HO_442001)) k_ hk_), (Kd.fresh' (Kd.R_lt (tq HO446)) k_ hk_), (Kd.fresh' (Kd.R_lt (tq HO450)) k_ hk_), (Kd.fresh' (Kd.R_lt (tq HO456)) k_ hk_), (Kd.freshB (g := gb433) (o := .cells #[.bool a0_0, .slice A0_1 l0_1.length c0_1] 24 (0, 0)) (tk BK433) k_ hk_), (Kd.freshB (g := gb434) (o := .cells #[.bool a1_0, .slice A1_1 l1_1.length c1_1] 24 (0, 0)) (tk BK434) k_ hk_), (Kd.freshB (g := gb435) (o := .cells #[.bool a2_0, .slice A2_1 l2_1.length c2_1] 24 (0, 0)) (tk BK435) k_ hk_), (Kd.freshB (g := gb441) (o := .cells #[.bool t436, .slice Ao15 t437.length co15] 24 (0, 0)) (tk BK441) k_ hk_), (Kd.freshB (g := gb451) (o := .cells #[.bool t447, .slice Ao72 t448.length co72] 24 (0, 0)) (tk BK451) k_ hk_), (Kd.freshB (g := gb458) (o := .cells #[.bool t453, .slice Ao88 t454.length co88] 24 (0, 0)) (tk BK458) k_ hk_)⟩)) (below_size (tb HB))); replace HO_442001 := rb HO_442001 hb; replace HO446 := rb HO446 hb; replace HO450 := rb HO450 hb; replace HO456 := rb HO456 hb; replace BK433 := kb BK433 hb; replace BK434 := kb BK434 hb; replace BK435 := kb BK435 hb; replace BK441 := kb BK441 hb; replace BK451 := kb BK451 hb; replace BK458 := kb BK458 hb; replace HB := bs HB hb; (try clear hb); (try clear hb2); (try clear hk); (try clear hi); (try clear ho0)))
        (try simp only [Act.put, List.setIfInBounds_toArray, List.set_cons_zero, List.set_cons_succ])
        go_cut [104] from 1 to 0 (fun v104 wc => ∃ (kq : Nat) (x104_63 : Bool), v104 = .bool x104_63 ∧ Aside0 (whetstonetop_TopNumbers.j2 kq x104_63 a0_0 l0_1 a1_0 l1_1 a2_0 l2_1 t447 t448 = some r) ∧ Aside0 (kq ≤ kj33) ∧ Aside0 (Kd.R (Kd.int .u32) 42 wc w.heap.size (fun k_ => some k_ ≠ ((.slice Ao72 t448.length co72) : Value).ownBlock ∧ some k_ ≠ ((.slice Ao88 t454.length co88) : Value).ownBlock) (.slice Ao15 t437.length co15) t437) ∧ Aside0 (Kd.R (Kd.int .u32) 42 wc w.heap.size (fun k_ => some k_ ≠ ((.slice Ao15 t437.length co15) : Value).ownBlock ∧ some k_ ≠ ((.slice Ao88 t454.length co88) : Value).ownBlock) (.slice Ao72 t448.length co72) t448) ∧ Aside0 (Kd.R (Kd.int .u32) 42 wc w.heap.size (fun k_ => some k_ ≠ ((.slice Ao15 t437.length co15) : Value).ownBlock ∧ some k_ ≠ ((.slice Ao72 t448.length co72) : Value).ownBlock) (.slice Ao88 t454.length co88) t454) ∧ Aside0 (wc.heap[gb433]? = some (.cells #[.bool a0_0, (.slice A0_1 l0_1.length c0_1)] 24 (0, 0))) ∧ Aside0 (wc.heap[gb434]? = some (.cells #[.bool a1_0, (.slice A1_1 l1_1.length c1_1)] 24 (0, 0))) ∧ Aside0 (wc.heap[gb435]? = some (.cells #[.bool a2_0, (.slice A2_1 l2_1.length c2_1)] 24 (0, 0))) ∧ Aside0 (wc.heap[gb441]? = some (.cells #[.bool t436, (.slice Ao15 t437.length co15)] 24 (0, 0))) ∧ Aside0 (wc.heap[gb451]? = some (.cells #[.bool t447, (.slice Ao72 t448.length co72)] 24 (0, 0))) ∧ Aside0 (wc.heap[gb458]? = some (.cells #[.bool t453, (.slice Ao88 t454.length co88)] 24 (0, 0))) ∧ Aside0 (Below w.heap.size w wc))
        case first =>
         have H := HC64.out
         clear HC64
         by_cases c92 : t457 = 0
         ·rw [if_pos c92] at H
          have c92b0 : (t457 == 0) = true := beq_iff_eq.mpr c92
          have c92b1 : (t457 != 0) = false := bne_eq_false_iff_eq.mpr c92
          clear c92
          (first | rw [c92b0] | rw [c92b1] | (simp only [i64_w, i32_w]; rw [c92b0]) | skip)
          by_cases c93 : t463 = 0
          ·rw [if_pos c93] at H
           have c93b0 : (t463 == 0) = true := beq_iff_eq.mpr c93
           have c93b1 : (t463 != 0) = false := bne_eq_false_iff_eq.mpr c93
           clear c93
           replace H := bi H
           obtain ⟨t464, A940, H⟩ := H
           have A94 := Aside0.mk A940
           clear A940
           by_cases c95 : t464 = 0
           ·rw [if_pos c95] at H
            have c95b0 : (t464 == 0) = true := beq_iff_eq.mpr c95
            have c95b1 : (t464 != 0) = false := bne_eq_false_iff_eq.mpr c95
            clear c95
            replace H := bi H
            obtain ⟨t465, A960, H⟩ := H
            have A96 := Aside0.mk A960
            clear A960
            by_cases c97 : t465 = 0
            ·rw [if_pos c97] at H
             have c97b0 : (t465 == 0) = true := beq_iff_eq.mpr c97
             have c97b1 : (t465 != 0) = false := bne_eq_false_iff_eq.mpr c97
             clear c97
             replace H := bi H
             obtain ⟨⟨t466, t467⟩, A980, H⟩ := H
             try dsimp only at H
             have A98 := Aside0.mk A980
             clear A980
             replace H := bi H
             obtain ⟨⟨t470, t471⟩, A990, H⟩ := H
             try dsimp only at H
             have A99 := Aside0.mk A990
             clear A990
             replace H := bi H
             obtain ⟨t474, A1000, H⟩ := H
             have A100 := Aside0.mk A1000
             clear A1000
             have H' := Aside0.mk H
             clear H
             try go_wp2
             replace HO_442001 := Aside0.mk (Kd.R_drew HO_442001.out)
             replace HO446 := Aside0.mk (Kd.R_drew HO446.out)
             replace HO450 := Aside0.mk (Kd.R_drew HO450.out)
             replace HO456 := Aside0.mk (Kd.R_drew HO456.out)
             replace HO462 := Aside0.mk (Kd.V_drew HO462.out)
             replace BK433 := Aside0.mk (blk_drew BK433.out)
             replace BK434 := Aside0.mk (blk_drew BK434.out)
             replace BK435 := Aside0.mk (blk_drew BK435.out)
             replace BK441 := Aside0.mk (blk_drew BK441.out)
             replace BK451 := Aside0.mk (blk_drew BK451.out)
             replace BK458 := Aside0.mk (blk_drew BK458.out)
             replace HB := Aside0.mk (below_drew1 HB.out)
             refine start_ (n := 29) (S := fun w' => w'.cell? ⟨gb458, 0, none⟩ = some (.bool t453) ∧ w'.cell? ⟨gb458, 1, none⟩ = some (.slice Ao88 t454.length co88) ∧ w'.cell? ⟨gb451, 0, none⟩ = some (.bool t447) ∧ w'.cell? ⟨gb451, 1, none⟩ = some (.slice Ao72 t448.length co72) ∧ w'.cell? ⟨gb435, 0, none⟩ = some (.bool a2_0) ∧ w'.cell? ⟨gb435, 1, none⟩ = some (.slice A2_1 l2_1.length c2_1) ∧ w'.cell? ⟨gb434, 0, none⟩ = some (.bool a1_0) ∧ w'.cell? ⟨gb434, 1, none⟩ = some (.slice A1_1 l1_1.length c1_1) ∧ w'.cell? ⟨gb433, 0, none⟩ = some (.bool a0_0) ∧ w'.cell? ⟨gb433, 1, none⟩ = some (.slice A0_1 l0_1.length c0_1)) (ds := []) #[false, false, false, false, false, false, false, false, false, false, false, false, false, false, false, false, false, false, false, false, false, false, false, false, false, false, false, false, false] (by kernel_rfl) rfl rfl ⟨(blk_cell BK458.out 0).trans rfl, (blk_cell BK458.out 1).trans rfl, (blk_cell BK451.out 0).trans rfl, (blk_cell BK451.out 1).trans rfl, (blk_cell BK435.out 0).trans rfl, (blk_cell BK435.out 1).trans rfl, (blk_cell BK434.out 0).trans rfl, (blk_cell BK434.out 1).trans rfl, (blk_cell BK433.out 0).trans rfl, (blk_cell BK433.out 1).trans rfl⟩ (fun hHeld => ?_); refine with_tabW whetstonetop_TopNumbers.tab9 whetstonetop_TopNumbers.bits9 (fun HT_ HW_ => ?_)
             generalize w91.drew = w101 at HO_442001 HO446 HO450 HO456 HO462 BK433 BK434 BK435 BK441 BK451 BK458 HB hHeld ⊢
             refine pT (i := 0) (N := some 76) (bb 29 1) HT_ ?_
             refine pT (i := 1) (N := some 77) (bb 29 3) HT_ ?_
             refine pT (i := 2) (N := some 78) (bb 29 7) HT_ ?_
             refine pT (i := 3) (N := some 79) (bb 29 15) HT_ ?_
             refine pT (i := 4) (N := some 80) (bb 29 31) HT_ ?_
             refine pT (i := 5) (N := some 81) (bb 29 63) HT_ ?_
             refine pT (i := 6) (N := some 82) (bb 29 127) HT_ ?_
             refine tW (i := 7) (N := some 83) (bb 29 255) HT_ HW_ hHeld ?_
             refine tW (i := 8) (N := some 84) (bb 29 511) HT_ HW_ hHeld ?_
             refine oT (i := 9) (N := some 85) (bb 29 1023) HT_ fun K hK => ?_
             refine gS Try.func10 #[.agg #[.bool t453, .slice Ao88 t454.length co88], .agg #[.bool t447, .slice Ao72 t448.length co72]] ?_
             with_reducible refine (big_Cmp.calls kj33 t453 _ _ t454 t447 _ _ t448 t464 _ ?side1 ?side2 ?side3 ?side4 A94.out).mono ?_
             (case side1 => exact tc (Kd.R_reads' HO456.out).2.2)
             (case side2 => exact (Kd.R_reads' HO456.out).2.1)
             (case side3 => exact tc (Kd.R_reads' HO450.out).2.2)
             (case side4 => exact (Kd.R_reads' HO450.out).2.1)
             rintro e w102 ⟨rfl, hb⟩
             refine ⟨_, rfl, ?_⟩
             replace HO_442001 := rb HO_442001 hb
             replace HO446 := rb HO446 hb
             replace HO450 := rb HO450 hb
             replace HO456 := rb HO456 hb
             replace HO462 := vb HO462 hb
             replace BK433 := kb BK433 hb
             replace BK434 := kb BK434 hb
             replace BK435 := kb BK435 hb
             replace BK441 := kb BK441 hb
             replace BK451 := kb BK451 hb
             replace BK458 := kb BK458 hb
             replace HB := bs HB hb
             (try clear hb); (try clear hb2); (try clear hk); (try clear hi)
             obtain ⟨Ao103, co103, eo103⟩ := Kd.V_slice HO462.out
             (first | subst eo103 | (injection eo103 with f1_ f2_ f3_; have f4_ := f1_.symm; have f5_ := f3_.symm; clear f1_ f2_ f3_; subst f4_; subst f5_))
             refine hK.out _ _ held fun hHeld => nT (N := some 85) ?_
             clear hK K
             refine pT (i := 10) (N := some 86) (bb 29 2047) HT_ ?_
             refine pT (i := 11) (N := some 87) (bb 29 4095) HT_ ?_
             refine pT (i := 12) (N := some 88) (bb 29 8191) HT_ ?_
             refine pT (i := 13) (N := some 89) (bb 29 16383) HT_ ?_
             refine pT (i := 14) (N := some 90) (bb 29 32767) HT_ ?_
             refine tW (i := 15) (N := some 91) (bb 29 65535) HT_ HW_ hHeld ?_
             refine oT (i := 16) (N := some 92) (bb 29 131071) HT_ fun K hK => ?_
             refine gS Try.func11 #[.slice Ao103 t460.length co103, .slice Ao72 t448.length co72] ?_
             with_reducible refine (nat_Cmp.calls kj33 _ _ t460 _ _ t448 t465 _ ?side1 ?side2 ?side3 ?side4 A96.out).mono ?_
             (case side1 => exact tc (Kd.V_reads' HO462.out).2.2)
             (case side2 => exact (Kd.V_reads' HO462.out).2.1)
             (case side3 => exact tc (Kd.R_reads' HO450.out).2.2)
             (case side4 => exact (Kd.R_reads' HO450.out).2.1)
             rintro e w104 ⟨rfl, hb⟩
             refine ⟨_, rfl, ?_⟩
             replace HO_442001 := rb HO_442001 hb
             replace HO446 := rb HO446 hb
             replace HO450 := rb HO450 hb
             replace HO456 := rb HO456 hb
             replace BK433 := kb BK433 hb
             replace BK434 := kb BK434 hb
             replace BK435 := kb BK435 hb
             replace BK441 := kb BK441 hb
             replace BK451 := kb BK451 hb
             replace BK458 := kb BK458 hb
             replace HB := bs HB hb
             (try clear hb); (try clear hb2); (try clear hk); (try clear hi)
             refine hK.out _ _ held fun hHeld => nT (N := some 92) ?_
             clear hK K
             refine pT (i := 17) (N := some 93) (bb 29 262143) HT_ ?_
             refine pT (i := 18) (N := some 94) (bb 29 524287) HT_ ?_
             refine pT (i := 19) (N := some 95) (bb 29 1048575) HT_ ?_
             refine tW (i := 20) (N := some 96) (bb 29 2097151) HT_ HW_ hHeld ?_
             refine tW (i := 21) (N := some 97) (bb 29 4194303) HT_ HW_ hHeld ?_
             refine tW (i := 23) (N := some 99) (bb 29 12582911) HT_ HW_ hHeld ?_
             refine tW (i := 24) (N := some 100) (bb 29 29360127) HT_ HW_ hHeld ?_
             refine oT (i := 22) (N := some 98) (bb 29 33554431) HT_ fun K hK => ?_
             refine gS Try.func12 #[.agg #[.bool t453, .slice Ao88 t454.length co88], .agg #[.bool a2_0, .slice A2_1 l2_1.length c2_1]] ?_
             with_reducible refine (big_Sub.calls kj33 t453 _ _ t454 a2_0 _ _ l2_1 t466 t467 _ ?side1 ?side2 ?side3 ?side4 A98.out).mono ?_
             (case side1 => exact tc (Kd.R_reads' HO456.out).2.2)
             (case side2 => exact (Kd.R_reads' HO456.out).2.1)
             (case side3 => exact tc (Kd.C_below HR2_1.out HB.out))
             (case side4 => exact HC2_1.out)
             rintro e w105 ⟨v468, rfl, ho0, hb⟩
             refine ⟨_, rfl, ?_⟩
             have HO469 := Aside0.mk (Kd.R_lower (Kd.R_new' (Kd.R_new' (Kd.R_new' (Kd.R_new' ho0 (Kd.R_lt (tq HO_442001))) (Kd.R_lt (tq HO446))) (Kd.R_lt (tq HO450))) (Kd.R_lt (tq HO456))) (below_size (tb HB)))
             replace HO_442001 := re HO_442001 (Kd.R_base ho0) hb
             replace HO446 := re HO446 (Kd.R_base ho0) hb
             replace HO450 := re HO450 (Kd.R_base ho0) hb
             replace HO456 := re HO456 (Kd.R_base ho0) hb
             replace BK433 := kb BK433 hb
             replace BK434 := kb BK434 hb
             replace BK435 := kb BK435 hb
             replace BK441 := kb BK441 hb
             replace BK451 := kb BK451 hb
             replace BK458 := kb BK458 hb
             replace HB := bs HB hb
             (try clear hb); (try clear hb2); (try clear hk); (try clear hi); (try clear ho0)
             refine hK.out _ _ held fun hHeld => nT (N := some 98) ?_
             clear hK K
             refine oT (i := 25) (N := some 101) (bb 29 67108863) HT_ fun K hK => ?_
             refine gS Try.func7 #[.agg #[.bool a1_0, .slice A1_1 l1_1.length c1_1], .agg #[.bool a0_0, .slice A0_1 l0_1.length c0_1]] ?_
             with_reducible refine (big_Mul.calls kj33 a1_0 _ _ l1_1 a0_0 _ _ l0_1 t470 t471 _ ?side1 ?side2 ?side3 ?side4 A99.out).mono ?_
             (case side1 => exact tc (Kd.C_below HR1_1.out HB.out))
             (case side2 => exact HC1_1.out)
             (case side3 => exact tc (Kd.C_below HR0_1.out HB.out))
             (case side4 => exact HC0_1.out)
             rintro e w106 ⟨v472, rfl, ho0, hb⟩
             refine ⟨_, rfl, ?_⟩
             have HO473 := Aside0.mk (Kd.R_lower (Kd.R_new' (Kd.R_new' (Kd.R_new' (Kd.R_new' (Kd.R_new' ho0 (Kd.R_lt (tq HO_442001))) (Kd.R_lt (tq HO446))) (Kd.R_lt (tq HO450))) (Kd.R_lt (tq HO456))) (Kd.R_lt (tq HO469))) (below_size (tb HB)))
             replace HO_442001 := re HO_442001 (Kd.R_base ho0) hb
             replace HO450 := re HO450 (Kd.R_base ho0) hb
             replace HO456 := re HO456 (Kd.R_base ho0) hb
             replace HO469 := re HO469 (Kd.R_base ho0) hb
             replace BK433 := kb BK433 hb
             replace BK434 := kb BK434 hb
             replace BK435 := kb BK435 hb
             replace BK441 := kb BK441 hb
             replace BK451 := kb BK451 hb
             replace BK458 := kb BK458 hb
             replace HB := bs HB hb
             (try clear hb); (try clear hb2); (try clear hk); (try clear hi); (try clear ho0)
             obtain ⟨Ao107, co107, eo107⟩ := Kd.R_slice HO469.out
             (first | subst eo107 | (injection eo107 with f1_ f2_ f3_; have f4_ := f1_.symm; have f5_ := f3_.symm; clear f1_ f2_ f3_; subst f4_; subst f5_))
             obtain ⟨Ao108, co108, eo108⟩ := Kd.R_slice HO473.out
             (first | subst eo108 | (injection eo108 with f1_ f2_ f3_; have f4_ := f1_.symm; have f5_ := f3_.symm; clear f1_ f2_ f3_; subst f4_; subst f5_))
             refine hK.out _ _ held fun hHeld => nT (N := some 101) ?_
             clear hK K
             refine oT (i := 26) (N := some 102) (bb 29 134217727) HT_ fun K hK => ?_
             refine gS Try.func10 #[.agg #[.bool t466, .slice Ao107 t467.length co107], .agg #[.bool t470, .slice Ao108 t471.length co108]] ?_
             with_reducible refine (big_Cmp.calls kj33 t466 _ _ t467 t470 _ _ t471 t474 _ ?side1 ?side2 ?side3 ?side4 A100.out).mono ?_
             (case side1 => exact tc (Kd.R_reads' HO469.out).2.2)
             (case side2 => exact (Kd.R_reads' HO469.out).2.1)
             (case side3 => exact tc (Kd.R_reads' HO473.out).2.2)
             (case side4 => exact (Kd.R_reads' HO473.out).2.1)
             rintro e w109 ⟨rfl, hb⟩
             refine ⟨_, rfl, ?_⟩
             replace HO_442001 := rb HO_442001 hb
             replace HO450 := rb HO450 hb
             replace HO456 := rb HO456 hb
             replace BK433 := kb BK433 hb
             replace BK434 := kb BK434 hb
             replace BK435 := kb BK435 hb
             replace BK441 := kb BK441 hb
             replace BK451 := kb BK451 hb
             replace BK458 := kb BK458 hb
             replace HB := bs HB hb
             (try clear hb); (try clear hb2); (try clear hk); (try clear hi)
             refine hK.out _ _ held fun hHeld => nT (N := some 102) ?_
             clear hK K
             refine pT (i := 27) (N := some 103) (bb 29 268435455) HT_ ?_
             refine pT (i := 28) (N := some 104) (bb 29 536870911) HT_ ?_
             refine done_ (done_of HT_.out (by kernel_rfl)) ?_
             try go_wp2
             go_meet
             case rel => exact ⟨_, ((t474 != 0)), (by first | rfl | (simp; done) | (simp [*]; done)), H', ⟨by have := HJ4.out; have := HJ33.out; first | omega | exact Nat.le_refl _⟩, ⟨by (with_reducible repeat first | apply qa | apply qn | apply qd); exact Kd.R_mono HO_442001.out (fun _ hk => ⟨hk.1.1.1.2, hk.1.1.2⟩)⟩, ⟨by (with_reducible repeat first | apply qa | apply qn | apply qd); exact Kd.R_mono HO450.out (fun _ hk => ⟨hk.1.1.1.2, hk.1.1.2⟩)⟩, ⟨by (with_reducible repeat first | apply qa | apply qn | apply qd); exact Kd.R_mono HO456.out (fun _ hk => ⟨hk.1.1.1.1.2, hk.1.1.2⟩)⟩, ⟨tk BK433⟩, ⟨tk BK434⟩, ⟨tk BK435⟩, ⟨tk BK441⟩, ⟨tk BK451⟩, ⟨tk BK458⟩, ⟨tb HB⟩⟩
            ·rw [if_neg c97] at H
             have c97b0 : (t465 == 0) = false := beq_eq_false_iff_ne.mpr c97
             have c97b1 : (t465 != 0) = true := bne_iff_ne.mpr c97
             have H' := Aside0.mk H
             clear H
             try go_wp2
             replace HO_442001 := Aside0.mk (Kd.R_drew HO_442001.out)
             replace HO450 := Aside0.mk (Kd.R_drew HO450.out)
             replace HO456 := Aside0.mk (Kd.R_drew HO456.out)
             replace HO462 := Aside0.mk (Kd.V_drew HO462.out)
             replace BK433 := Aside0.mk (blk_drew BK433.out)
             replace BK434 := Aside0.mk (blk_drew BK434.out)
             replace BK435 := Aside0.mk (blk_drew BK435.out)
             replace BK441 := Aside0.mk (blk_drew BK441.out)
             replace BK451 := Aside0.mk (blk_drew BK451.out)
             replace BK458 := Aside0.mk (blk_drew BK458.out)
             replace HB := Aside0.mk (below_drew1 HB.out)
             refine start_ (n := 29) (S := fun w' => w'.cell? ⟨gb458, 0, none⟩ = some (.bool t453) ∧ w'.cell? ⟨gb458, 1, none⟩ = some (.slice Ao88 t454.length co88) ∧ w'.cell? ⟨gb451, 0, none⟩ = some (.bool t447) ∧ w'.cell? ⟨gb451, 1, none⟩ = some (.slice Ao72 t448.length co72)) (ds := []) #[false, false, false, false, false, false, false, false, false, false, false, false, false, false, false, false, false, false, false, false, false, false, false, false, false, false, false, false, false] (by kernel_rfl) rfl rfl ⟨(blk_cell BK458.out 0).trans rfl, (blk_cell BK458.out 1).trans rfl, (blk_cell BK451.out 0).trans rfl, (blk_cell BK451.out 1).trans rfl⟩ (fun hHeld => ?_); refine with_tabW whetstonetop_TopNumbers.tab9 whetstonetop_TopNumbers.bits9 (fun HT_ HW_ => ?_)
             generalize w91.drew = w110 at HO_442001 HO450 HO456 HO462 BK433 BK434 BK435 BK441 BK451 BK458 HB hHeld ⊢
             refine pT (i := 0) (N := some 76) (bb 29 1) HT_ ?_
             refine pT (i := 1) (N := some 77) (bb 29 3) HT_ ?_
             refine pT (i := 2) (N := some 78) (bb 29 7) HT_ ?_
             refine pT (i := 3) (N := some 79) (bb 29 15) HT_ ?_
             refine pT (i := 4) (N := some 80) (bb 29 31) HT_ ?_
             refine pT (i := 5) (N := some 81) (bb 29 63) HT_ ?_
             refine pT (i := 6) (N := some 82) (bb 29 127) HT_ ?_
             refine tW (i := 7) (N := some 83) (bb 29 255) HT_ HW_ hHeld ?_
             refine tW (i := 8) (N := some 84) (bb 29 511) HT_ HW_ hHeld ?_
             refine oT (i := 9) (N := some 85) (bb 29 1023) HT_ fun K hK => ?_
             refine gS Try.func10 #[.agg #[.bool t453, .slice Ao88 t454.length co88], .agg #[.bool t447, .slice Ao72 t448.length co72]] ?_
             with_reducible refine (big_Cmp.calls kj33 t453 _ _ t454 t447 _ _ t448 t464 _ ?side1 ?side2 ?side3 ?side4 A94.out).mono ?_
             (case side1 => exact tc (Kd.R_reads' HO456.out).2.2)
             (case side2 => exact (Kd.R_reads' HO456.out).2.1)
             (case side3 => exact tc (Kd.R_reads' HO450.out).2.2)
             (case side4 => exact (Kd.R_reads' HO450.out).2.1)
             rintro e w111 ⟨rfl, hb⟩
             refine ⟨_, rfl, ?_⟩
             replace HO_442001 := rb HO_442001 hb
             replace HO450 := rb HO450 hb
             replace HO456 := rb HO456 hb
             replace HO462 := vb HO462 hb
             replace BK433 := kb BK433 hb
             replace BK434 := kb BK434 hb
             replace BK435 := kb BK435 hb
             replace BK441 := kb BK441 hb
             replace BK451 := kb BK451 hb
             replace BK458 := kb BK458 hb
             replace HB := bs HB hb
             (try clear hb); (try clear hb2); (try clear hk); (try clear hi)
             obtain ⟨Ao112, co112, eo112⟩ := Kd.V_slice HO462.out
             (first | subst eo112 | (injection eo112 with f1_ f2_ f3_; have f4_ := f1_.symm; have f5_ := f3_.symm; clear f1_ f2_ f3_; subst f4_; subst f5_))
             refine hK.out _ _ held fun hHeld => nT (N := some 85) ?_
             clear hK K
             refine pT (i := 10) (N := some 86) (bb 29 2047) HT_ ?_
             refine pT (i := 11) (N := some 87) (bb 29 4095) HT_ ?_
             refine pT (i := 12) (N := some 88) (bb 29 8191) HT_ ?_
             refine pT (i := 13) (N := some 89) (bb 29 16383) HT_ ?_
             refine pT (i := 14) (N := some 90) (bb 29 32767) HT_ ?_
             refine tW (i := 15) (N := some 91) (bb 29 65535) HT_ HW_ hHeld ?_
             refine oT (i := 16) (N := some 92) (bb 29 131071) HT_ fun K hK => ?_
             refine gS Try.func11 #[.slice Ao112 t460.length co112, .slice Ao72 t448.length co72] ?_
             with_reducible refine (nat_Cmp.calls kj33 _ _ t460 _ _ t448 t465 _ ?side1 ?side2 ?side3 ?side4 A96.out).mono ?_
             (case side1 => exact tc (Kd.V_reads' HO462.out).2.2)
             (case side2 => exact (Kd.V_reads' HO462.out).2.1)
             (case side3 => exact tc (Kd.R_reads' HO450.out).2.2)
             (case side4 => exact (Kd.R_reads' HO450.out).2.1)
             rintro e w113 ⟨rfl, hb⟩
             refine ⟨_, rfl, ?_⟩
             replace HO_442001 := rb HO_442001 hb
             replace HO450 := rb HO450 hb
             replace HO456 := rb HO456 hb
             replace BK433 := kb BK433 hb
             replace BK434 := kb BK434 hb
             replace BK435 := kb BK435 hb
             replace BK441 := kb BK441 hb
             replace BK451 := kb BK451 hb
             replace BK458 := kb BK458 hb
             replace HB := bs HB hb
             (try clear hb); (try clear hb2); (try clear hk); (try clear hi)
             refine hK.out _ _ held fun hHeld => nT (N := some 92) ?_
             clear hK K
             refine pT (i := 17) (N := some 93) (bb 29 262143) HT_ ?_
             refine pT (i := 18) (N := some 94) (bb 29 524287) HT_ ?_
             refine pT (i := 19) (N := some 95) (bb 29 1048575) HT_ ?_
             refine pure_ (i := 20) (N := some 96) (v := undef) (a' := ?_) #[true, true, true, true, true, true, true, true, true, true, true, true, true, true, true, true, true, true, true, true, true, false, false, false, false, false, false, false, false] rfl rfl (any_of HT_.out (by kernel_rfl)) (fun _ _ _ h => h) (Or.inr ⟨by rfl, rfl⟩) ?_ ?_
             rotate_left
             ·simp only [Act.put, List.setIfInBounds_toArray, List.set_cons_zero, List.set_cons_succ, i64_w, i32_w]
              rfl
             refine pure_ (i := 21) (N := some 97) (v := undef) (a' := ?_) #[true, true, true, true, true, true, true, true, true, true, true, true, true, true, true, true, true, true, true, true, true, true, false, false, false, false, false, false, false] rfl rfl (any_of HT_.out (by kernel_rfl)) (fun _ _ _ h => h) (Or.inr ⟨by rfl, rfl⟩) ?_ ?_
             rotate_left
             ·simp only [Act.put, List.setIfInBounds_toArray, List.set_cons_zero, List.set_cons_succ, i64_w, i32_w]
              rfl
             refine pure_ (i := 22) (N := some 98) (v := undef) (a' := ?_) #[true, true, true, true, true, true, true, true, true, true, true, true, true, true, true, true, true, true, true, true, true, true, true, false, false, false, false, false, false] rfl rfl (any_of HT_.out (by kernel_rfl)) (fun _ _ _ h => h) (Or.inr ⟨by rfl, rfl⟩) ?_ ?_
             rotate_left
             ·simp only [Act.put, List.setIfInBounds_toArray, List.set_cons_zero, List.set_cons_succ, i64_w, i32_w]
              rfl
             refine pure_ (i := 23) (N := some 99) (v := undef) (a' := ?_) #[true, true, true, true, true, true, true, true, true, true, true, true, true, true, true, true, true, true, true, true, true, true, true, true, false, false, false, false, false] rfl rfl (any_of HT_.out (by kernel_rfl)) (fun _ _ _ h => h) (Or.inr ⟨by rfl, rfl⟩) ?_ ?_
             rotate_left
             ·simp only [Act.put, List.setIfInBounds_toArray, List.set_cons_zero, List.set_cons_succ, i64_w, i32_w]
              rfl
             refine pure_ (i := 24) (N := some 100) (v := undef) (a' := ?_) #[true, true, true, true, true, true, true, true, true, true, true, true, true, true, true, true, true, true, true, true, true, true, true, true, true, false, false, false, false] rfl rfl (any_of HT_.out (by kernel_rfl)) (fun _ _ _ h => h) (Or.inr ⟨by rfl, rfl⟩) ?_ ?_
             rotate_left
             ·simp only [Act.put, List.setIfInBounds_toArray, List.set_cons_zero, List.set_cons_succ, i64_w, i32_w]
              rfl
             refine pure_ (i := 25) (N := some 101) (v := undef) (a' := ?_) #[true, true, true, true, true, true, true, true, true, true, true, true, true, true, true, true, true, true, true, true, true, true, true, true, true, true, false, false, false] rfl rfl (any_of HT_.out (by kernel_rfl)) (fun _ _ _ h => h) (Or.inr ⟨by rfl, rfl⟩) ?_ ?_
             rotate_left
             ·simp only [Act.put, List.setIfInBounds_toArray, List.set_cons_zero, List.set_cons_succ, i64_w, i32_w]
              rfl
             refine pure_ (i := 26) (N := some 102) (v := undef) (a' := ?_) #[true, true, true, true, true, true, true, true, true, true, true, true, true, true, true, true, true, true, true, true, true, true, true, true, true, true, true, false, false] rfl rfl (any_of HT_.out (by kernel_rfl)) (fun _ _ _ h => h) (Or.inr ⟨by rfl, rfl⟩) ?_ ?_
             rotate_left
             ·simp only [Act.put, List.setIfInBounds_toArray, List.set_cons_zero, List.set_cons_succ, i64_w, i32_w]
              rfl
             refine pure_ (i := 27) (N := some 103) (v := undef) (a' := ?_) #[true, true, true, true, true, true, true, true, true, true, true, true, true, true, true, true, true, true, true, true, true, true, true, true, true, true, true, true, false] rfl rfl (any_of HT_.out (by kernel_rfl)) (fun _ _ _ h => h) (Or.inr ⟨by rfl, rfl⟩) ?_ ?_
             rotate_left
             ·simp only [Act.put, List.setIfInBounds_toArray, List.set_cons_zero, List.set_cons_succ, i64_w, i32_w]
              rfl
             refine pT (i := 28) (N := some 104) (bb 29 536870911) HT_ ?_
             refine done_ (done_of HT_.out (by kernel_rfl)) ?_
             try go_wp2
             go_meet
             case rel => exact ⟨_, (true), (by first | rfl | (simp; done) | (simp [*]; done)), H', ⟨by have := HJ4.out; have := HJ33.out; first | omega | exact Nat.le_refl _⟩, ⟨by (with_reducible repeat first | apply qa | apply qn | apply qd); exact Kd.R_mono HO_442001.out (fun _ hk => ⟨hk.1.2, hk.2⟩)⟩, ⟨by (with_reducible repeat first | apply qa | apply qn | apply qd); exact Kd.R_mono HO450.out (fun _ hk => ⟨hk.1.2, hk.2⟩)⟩, ⟨by (with_reducible repeat first | apply qa | apply qn | apply qd); exact Kd.R_mono HO456.out (fun _ hk => ⟨hk.1.1.2, hk.2⟩)⟩, ⟨tk BK433⟩, ⟨tk BK434⟩, ⟨tk BK435⟩, ⟨tk BK441⟩, ⟨tk BK451⟩, ⟨tk BK458⟩, ⟨tb HB⟩⟩
           ·rw [if_neg c95] at H
            have c95b0 : (t464 == 0) = false := beq_eq_false_iff_ne.mpr c95
            have c95b1 : (t464 != 0) = true := bne_iff_ne.mpr c95
            have H' := Aside0.mk H
            clear H
            try go_wp2
            replace HO_442001 := Aside0.mk (Kd.R_drew HO_442001.out)
            replace HO450 := Aside0.mk (Kd.R_drew HO450.out)
            replace HO456 := Aside0.mk (Kd.R_drew HO456.out)
            replace BK433 := Aside0.mk (blk_drew BK433.out)
            replace BK434 := Aside0.mk (blk_drew BK434.out)
            replace BK435 := Aside0.mk (blk_drew BK435.out)
            replace BK441 := Aside0.mk (blk_drew BK441.out)
            replace BK451 := Aside0.mk (blk_drew BK451.out)
            replace BK458 := Aside0.mk (blk_drew BK458.out)
            replace HB := Aside0.mk (below_drew1 HB.out)
            refine start_ (n := 29) (S := fun w' => w'.cell? ⟨gb458, 0, none⟩ = some (.bool t453) ∧ w'.cell? ⟨gb458, 1, none⟩ = some (.slice Ao88 t454.length co88) ∧ w'.cell? ⟨gb451, 0, none⟩ = some (.bool t447) ∧ w'.cell? ⟨gb451, 1, none⟩ = some (.slice Ao72 t448.length co72)) (ds := []) #[false, false, false, false, false, false, false, false, false, false, false, false, false, false, false, false, false, false, false, false, false, false, false, false, false, false, false, false, false] (by kernel_rfl) rfl rfl ⟨(blk_cell BK458.out 0).trans rfl, (blk_cell BK458.out 1).trans rfl, (blk_cell BK451.out 0).trans rfl, (blk_cell BK451.out 1).trans rfl⟩ (fun hHeld => ?_); refine with_tabW whetstonetop_TopNumbers.tab9 whetstonetop_TopNumbers.bits9 (fun HT_ HW_ => ?_)
            generalize w91.drew = w114 at HO_442001 HO450 HO456 BK433 BK434 BK435 BK441 BK451 BK458 HB hHeld ⊢
            refine pT (i := 0) (N := some 76) (bb 29 1) HT_ ?_
            refine pT (i := 1) (N := some 77) (bb 29 3) HT_ ?_
            refine pT (i := 2) (N := some 78) (bb 29 7) HT_ ?_
            refine pT (i := 3) (N := some 79) (bb 29 15) HT_ ?_
            refine pT (i := 4) (N := some 80) (bb 29 31) HT_ ?_
            refine pT (i := 5) (N := some 81) (bb 29 63) HT_ ?_
            refine pT (i := 6) (N := some 82) (bb 29 127) HT_ ?_
            refine tW (i := 7) (N := some 83) (bb 29 255) HT_ HW_ hHeld ?_
            refine tW (i := 8) (N := some 84) (bb 29 511) HT_ HW_ hHeld ?_
            refine oT (i := 9) (N := some 85) (bb 29 1023) HT_ fun K hK => ?_
            refine gS Try.func10 #[.agg #[.bool t453, .slice Ao88 t454.length co88], .agg #[.bool t447, .slice Ao72 t448.length co72]] ?_
            with_reducible refine (big_Cmp.calls kj33 t453 _ _ t454 t447 _ _ t448 t464 _ ?side1 ?side2 ?side3 ?side4 A94.out).mono ?_
            (case side1 => exact tc (Kd.R_reads' HO456.out).2.2)
            (case side2 => exact (Kd.R_reads' HO456.out).2.1)
            (case side3 => exact tc (Kd.R_reads' HO450.out).2.2)
            (case side4 => exact (Kd.R_reads' HO450.out).2.1)
            rintro e w115 ⟨rfl, hb⟩
            refine ⟨_, rfl, ?_⟩
            replace HO_442001 := rb HO_442001 hb
            replace HO450 := rb HO450 hb
            replace HO456 := rb HO456 hb
            replace BK433 := kb BK433 hb
            replace BK434 := kb BK434 hb
            replace BK435 := kb BK435 hb
            replace BK441 := kb BK441 hb
            replace BK451 := kb BK451 hb
            replace BK458 := kb BK458 hb
            replace HB := bs HB hb
            (try clear hb); (try clear hb2); (try clear hk); (try clear hi)
            refine hK.out _ _ held fun hHeld => nT (N := some 85) ?_
            clear hK K
            refine pT (i := 10) (N := some 86) (bb 29 2047) HT_ ?_
            refine pT (i := 11) (N := some 87) (bb 29 4095) HT_ ?_
            refine pT (i := 12) (N := some 88) (bb 29 8191) HT_ ?_
            refine pure_ (i := 13) (N := some 89) (v := undef) (a' := ?_) #[true, true, true, true, true, true, true, true, true, true, true, true, true, true, false, false, false, false, false, false, false, false, false, false, false, false, false, false, false] rfl rfl (any_of HT_.out (by kernel_rfl)) (fun _ _ _ h => h) (Or.inr ⟨by rfl, rfl⟩) ?_ ?_
            rotate_left
            ·simp only [Act.put, List.setIfInBounds_toArray, List.set_cons_zero, List.set_cons_succ, i64_w, i32_w]
             rfl
            refine pure_ (i := 14) (N := some 90) (v := undef) (a' := ?_) #[true, true, true, true, true, true, true, true, true, true, true, true, true, true, true, false, false, false, false, false, false, false, false, false, false, false, false, false, false] rfl rfl (any_of HT_.out (by kernel_rfl)) (fun _ _ _ h => h) (Or.inr ⟨by rfl, rfl⟩) ?_ ?_
            rotate_left
            ·simp only [Act.put, List.setIfInBounds_toArray, List.set_cons_zero, List.set_cons_succ, i64_w, i32_w]
             rfl
            refine pure_ (i := 15) (N := some 91) (v := undef) (a' := ?_) #[true, true, true, true, true, true, true, true, true, true, true, true, true, true, true, true, false, false, false, false, false, false, false, false, false, false, false, false, false] rfl rfl (any_of HT_.out (by kernel_rfl)) (fun _ _ _ h => h) (Or.inr ⟨by rfl, rfl⟩) ?_ ?_
            rotate_left
            ·simp only [Act.put, List.setIfInBounds_toArray, List.set_cons_zero, List.set_cons_succ, i64_w, i32_w]
             rfl
            refine pure_ (i := 16) (N := some 92) (v := undef) (a' := ?_) #[true, true, true, true, true, true, true, true, true, true, true, true, true, true, true, true, true, false, false, false, false, false, false, false, false, false, false, false, false] rfl rfl (any_of HT_.out (by kernel_rfl)) (fun _ _ _ h => h) (Or.inr ⟨by rfl, rfl⟩) ?_ ?_
            rotate_left
            ·simp only [Act.put, List.setIfInBounds_toArray, List.set_cons_zero, List.set_cons_succ, i64_w, i32_w]
             rfl
            refine pure_ (i := 17) (N := some 93) (v := undef) (a' := ?_) #[true, true, true, true, true, true, true, true, true, true, true, true, true, true, true, true, true, true, false, false, false, false, false, false, false, false, false, false, false] rfl rfl (any_of HT_.out (by kernel_rfl)) (fun _ _ _ h => h) (Or.inr ⟨by rfl, rfl⟩) ?_ ?_
            rotate_left
            ·simp only [Act.put, List.setIfInBounds_toArray, List.set_cons_zero, List.set_cons_succ, i64_w, i32_w]
             rfl
            refine pT (i := 18) (N := some 94) (bb 29 524287) HT_ ?_
            refine pT (i := 19) (N := some 95) (bb 29 1048575) HT_ ?_
            refine pure_ (i := 20) (N := some 96) (v := undef) (a' := ?_) #[true, true, true, true, true, true, true, true, true, true, true, true, true, true, true, true, true, true, true, true, true, false, false, false, false, false, false, false, false] rfl rfl (any_of HT_.out (by kernel_rfl)) (fun _ _ _ h => h) (Or.inr ⟨by rfl, rfl⟩) ?_ ?_
            rotate_left
            ·simp only [Act.put, List.setIfInBounds_toArray, List.set_cons_zero, List.set_cons_succ, i64_w, i32_w]
             rfl
            refine pure_ (i := 21) (N := some 97) (v := undef) (a' := ?_) #[true, true, true, true, true, true, true, true, true, true, true, true, true, true, true, true, true, true, true, true, true, true, false, false, false, false, false, false, false] rfl rfl (any_of HT_.out (by kernel_rfl)) (fun _ _ _ h => h) (Or.inr ⟨by rfl, rfl⟩) ?_ ?_
            rotate_left
            ·simp only [Act.put, List.setIfInBounds_toArray, List.set_cons_zero, List.set_cons_succ, i64_w, i32_w]
             rfl
            refine pure_ (i := 22) (N := some 98) (v := undef) (a' := ?_) #[true, true, true, true, true, true, true, true, true, true, true, true, true, true, true, true, true, true, true, true, true, true, true, false, false, false, false, false, false] rfl rfl (any_of HT_.out (by kernel_rfl)) (fun _ _ _ h => h) (Or.inr ⟨by rfl, rfl⟩) ?_ ?_
            rotate_left
            ·simp only [Act.put, List.setIfInBounds_toArray, List.set_cons_zero, List.set_cons_succ, i64_w, i32_w]
             rfl
            refine pure_ (i := 23) (N := some 99) (v := undef) (a' := ?_) #[true, true, true, true, true, true, true, true, true, true, true, true, true, true, true, true, true, true, true, true, true, true, true, true, false, false, false, false, false] rfl rfl (any_of HT_.out (by kernel_rfl)) (fun _ _ _ h => h) (Or.inr ⟨by rfl, rfl⟩) ?_ ?_
            rotate_left
            ·simp only [Act.put, List.setIfInBounds_toArray, List.set_cons_zero, List.set_cons_succ, i64_w, i32_w]
             rfl
            refine pure_ (i := 24) (N := some 100) (v := undef) (a' := ?_) #[true, true, true, true, true, true, true, true, true, true, true, true, true, true, true, true, true, true, true, true, true, true, true, true, true, false, false, false, false] rfl rfl (any_of HT_.out (by kernel_rfl)) (fun _ _ _ h => h) (Or.inr ⟨by rfl, rfl⟩) ?_ ?_
            rotate_left
            ·simp only [Act.put, List.setIfInBounds_toArray, List.set_cons_zero, List.set_cons_succ, i64_w, i32_w]
             rfl
            refine pure_ (i := 25) (N := some 101) (v := undef) (a' := ?_) #[true, true, true, true, true, true, true, true, true, true, true, true, true, true, true, true, true, true, true, true, true, true, true, true, true, true, false, false, false] rfl rfl (any_of HT_.out (by kernel_rfl)) (fun _ _ _ h => h) (Or.inr ⟨by rfl, rfl⟩) ?_ ?_
            rotate_left
            ·simp only [Act.put, List.setIfInBounds_toArray, List.set_cons_zero, List.set_cons_succ, i64_w, i32_w]
             rfl
            refine pure_ (i := 26) (N := some 102) (v := undef) (a' := ?_) #[true, true, true, true, true, true, true, true, true, true, true, true, true, true, true, true, true, true, true, true, true, true, true, true, true, true, true, false, false] rfl rfl (any_of HT_.out (by kernel_rfl)) (fun _ _ _ h => h) (Or.inr ⟨by rfl, rfl⟩) ?_ ?_
            rotate_left
            ·simp only [Act.put, List.setIfInBounds_toArray, List.set_cons_zero, List.set_cons_succ, i64_w, i32_w]
             rfl
            refine pure_ (i := 27) (N := some 103) (v := undef) (a' := ?_) #[true, true, true, true, true, true, true, true, true, true, true, true, true, true, true, true, true, true, true, true, true, true, true, true, true, true, true, true, false] rfl rfl (any_of HT_.out (by kernel_rfl)) (fun _ _ _ h => h) (Or.inr ⟨by rfl, rfl⟩) ?_ ?_
            rotate_left
            ·simp only [Act.put, List.setIfInBounds_toArray, List.set_cons_zero, List.set_cons_succ, i64_w, i32_w]
             rfl
            refine pT (i := 28) (N := some 104) (bb 29 536870911) HT_ ?_
            refine done_ (done_of HT_.out (by kernel_rfl)) ?_
            try go_wp2
            go_meet
            case rel => exact ⟨_, (true), (by first | rfl | (simp; done) | (simp [*]; done)), H', ⟨by have := HJ4.out; have := HJ33.out; first | omega | exact Nat.le_refl _⟩, ⟨by (with_reducible repeat first | apply qa | apply qn | apply qd); exact Kd.R_mono HO_442001.out (fun _ hk => ⟨hk.1.2, hk.2⟩)⟩, ⟨by (with_reducible repeat first | apply qa | apply qn | apply qd); exact Kd.R_mono HO450.out (fun _ hk => ⟨hk.1.2, hk.2⟩)⟩, ⟨by (with_reducible repeat first | apply qa | apply qn | apply qd); exact Kd.R_mono HO456.out (fun _ hk => ⟨hk.1.1.2, hk.2⟩)⟩, ⟨tk BK433⟩, ⟨tk BK434⟩, ⟨tk BK435⟩, ⟨tk BK441⟩, ⟨tk BK451⟩, ⟨tk BK458⟩, ⟨tb HB⟩⟩
          ·rw [if_neg c93] at H
           have c93b0 : (t463 == 0) = false := beq_eq_false_iff_ne.mpr c93
           have c93b1 : (t463 != 0) = true := bne_iff_ne.mpr c93
           have H' := Aside0.mk H
           clear H
           try go_wp2
           replace HO_442001 := Aside0.mk (Kd.R_drew HO_442001.out)
           replace HO450 := Aside0.mk (Kd.R_drew HO450.out)
           replace HO456 := Aside0.mk (Kd.R_drew HO456.out)
           replace BK433 := Aside0.mk (blk_drew BK433.out)
           replace BK434 := Aside0.mk (blk_drew BK434.out)
           replace BK435 := Aside0.mk (blk_drew BK435.out)
           replace BK441 := Aside0.mk (blk_drew BK441.out)
           replace BK451 := Aside0.mk (blk_drew BK451.out)
           replace BK458 := Aside0.mk (blk_drew BK458.out)
           replace HB := Aside0.mk (below_drew1 HB.out)
           refine start_ (n := 29) (S := fun w' => True) (ds := []) #[false, false, false, false, false, false, false, false, false, false, false, false, false, false, false, false, false, false, false, false, false, false, false, false, false, false, false, false, false] (by kernel_rfl) rfl rfl trivial (fun hHeld => ?_); refine with_tabW whetstonetop_TopNumbers.tab9 whetstonetop_TopNumbers.bits9 (fun HT_ HW_ => ?_)
           generalize w91.drew = w116 at HO_442001 HO450 HO456 BK433 BK434 BK435 BK441 BK451 BK458 HB hHeld ⊢
           refine pT (i := 0) (N := some 76) (bb 29 1) HT_ ?_
           refine pT (i := 1) (N := some 77) (bb 29 3) HT_ ?_
           refine pT (i := 2) (N := some 78) (bb 29 7) HT_ ?_
           refine pT (i := 3) (N := some 79) (bb 29 15) HT_ ?_
           refine pT (i := 4) (N := some 80) (bb 29 31) HT_ ?_
           refine pT (i := 5) (N := some 81) (bb 29 63) HT_ ?_
           refine pT (i := 6) (N := some 82) (bb 29 127) HT_ ?_
           refine pure_ (i := 7) (N := some 83) (v := undef) (a' := ?_) #[true, true, true, true, true, true, true, true, false, false, false, false, false, false, false, false, false, false, false, false, false, false, false, false, false, false, false, false, false] rfl rfl (any_of HT_.out (by kernel_rfl)) (fun _ _ _ h => h) (Or.inr ⟨by rfl, rfl⟩) ?_ ?_
           rotate_left
           ·simp only [Act.put, List.setIfInBounds_toArray, List.set_cons_zero, List.set_cons_succ, i64_w, i32_w]
            rfl
           refine pure_ (i := 8) (N := some 84) (v := undef) (a' := ?_) #[true, true, true, true, true, true, true, true, true, false, false, false, false, false, false, false, false, false, false, false, false, false, false, false, false, false, false, false, false] rfl rfl (any_of HT_.out (by kernel_rfl)) (fun _ _ _ h => h) (Or.inr ⟨by rfl, rfl⟩) ?_ ?_
           rotate_left
           ·simp only [Act.put, List.setIfInBounds_toArray, List.set_cons_zero, List.set_cons_succ, i64_w, i32_w]
            rfl
           refine pure_ (i := 9) (N := some 85) (v := undef) (a' := ?_) #[true, true, true, true, true, true, true, true, true, true, false, false, false, false, false, false, false, false, false, false, false, false, false, false, false, false, false, false, false] rfl rfl (any_of HT_.out (by kernel_rfl)) (fun _ _ _ h => h) (Or.inr ⟨by rfl, rfl⟩) ?_ ?_
           rotate_left
           ·simp only [Act.put, List.setIfInBounds_toArray, List.set_cons_zero, List.set_cons_succ, i64_w, i32_w]
            rfl
           refine pure_ (i := 10) (N := some 86) (v := undef) (a' := ?_) #[true, true, true, true, true, true, true, true, true, true, true, false, false, false, false, false, false, false, false, false, false, false, false, false, false, false, false, false, false] rfl rfl (any_of HT_.out (by kernel_rfl)) (fun _ _ _ h => h) (Or.inr ⟨by rfl, rfl⟩) ?_ ?_
           rotate_left
           ·simp only [Act.put, List.setIfInBounds_toArray, List.set_cons_zero, List.set_cons_succ, i64_w, i32_w]
            rfl
           refine pT (i := 11) (N := some 87) (bb 29 4095) HT_ ?_
           refine pT (i := 12) (N := some 88) (bb 29 8191) HT_ ?_
           refine pure_ (i := 13) (N := some 89) (v := undef) (a' := ?_) #[true, true, true, true, true, true, true, true, true, true, true, true, true, true, false, false, false, false, false, false, false, false, false, false, false, false, false, false, false] rfl rfl (any_of HT_.out (by kernel_rfl)) (fun _ _ _ h => h) (Or.inr ⟨by rfl, rfl⟩) ?_ ?_
           rotate_left
           ·simp only [Act.put, List.setIfInBounds_toArray, List.set_cons_zero, List.set_cons_succ, i64_w, i32_w]
            rfl
           refine pure_ (i := 14) (N := some 90) (v := undef) (a' := ?_) #[true, true, true, true, true, true, true, true, true, true, true, true, true, true, true, false, false, false, false, false, false, false, false, false, false, false, false, false, false] rfl rfl (any_of HT_.out (by kernel_rfl)) (fun _ _ _ h => h) (Or.inr ⟨by rfl, rfl⟩) ?_ ?_
           rotate_left
           ·simp only [Act.put, List.setIfInBounds_toArray, List.set_cons_zero, List.set_cons_succ, i64_w, i32_w]
            rfl
           refine pure_ (i := 15) (N := some 91) (v := undef) (a' := ?_) #[true, true, true, true, true, true, true, true, true, true, true, true, true, true, true, true, false, false, false, false, false, false, false, false, false, false, false, false, false] rfl rfl (any_of HT_.out (by kernel_rfl)) (fun _ _ _ h => h) (Or.inr ⟨by rfl, rfl⟩) ?_ ?_
           rotate_left
           ·simp only [Act.put, List.setIfInBounds_toArray, List.set_cons_zero, List.set_cons_succ, i64_w, i32_w]
            rfl
           refine pure_ (i := 16) (N := some 92) (v := undef) (a' := ?_) #[true, true, true, true, true, true, true, true, true, true, true, true, true, true, true, true, true, false, false, false, false, false, false, false, false, false, false, false, false] rfl rfl (any_of HT_.out (by kernel_rfl)) (fun _ _ _ h => h) (Or.inr ⟨by rfl, rfl⟩) ?_ ?_
           rotate_left
           ·simp only [Act.put, List.setIfInBounds_toArray, List.set_cons_zero, List.set_cons_succ, i64_w, i32_w]
            rfl
           refine pure_ (i := 17) (N := some 93) (v := undef) (a' := ?_) #[true, true, true, true, true, true, true, true, true, true, true, true, true, true, true, true, true, true, false, false, false, false, false, false, false, false, false, false, false] rfl rfl (any_of HT_.out (by kernel_rfl)) (fun _ _ _ h => h) (Or.inr ⟨by rfl, rfl⟩) ?_ ?_
           rotate_left
           ·simp only [Act.put, List.setIfInBounds_toArray, List.set_cons_zero, List.set_cons_succ, i64_w, i32_w]
            rfl
           refine pT (i := 18) (N := some 94) (bb 29 524287) HT_ ?_
           refine pT (i := 19) (N := some 95) (bb 29 1048575) HT_ ?_
           refine pure_ (i := 20) (N := some 96) (v := undef) (a' := ?_) #[true, true, true, true, true, true, true, true, true, true, true, true, true, true, true, true, true, true, true, true, true, false, false, false, false, false, false, false, false] rfl rfl (any_of HT_.out (by kernel_rfl)) (fun _ _ _ h => h) (Or.inr ⟨by rfl, rfl⟩) ?_ ?_
           rotate_left
           ·simp only [Act.put, List.setIfInBounds_toArray, List.set_cons_zero, List.set_cons_succ, i64_w, i32_w]
            rfl
           refine pure_ (i := 21) (N := some 97) (v := undef) (a' := ?_) #[true, true, true, true, true, true, true, true, true, true, true, true, true, true, true, true, true, true, true, true, true, true, false, false, false, false, false, false, false] rfl rfl (any_of HT_.out (by kernel_rfl)) (fun _ _ _ h => h) (Or.inr ⟨by rfl, rfl⟩) ?_ ?_
           rotate_left
           ·simp only [Act.put, List.setIfInBounds_toArray, List.set_cons_zero, List.set_cons_succ, i64_w, i32_w]
            rfl
           refine pure_ (i := 22) (N := some 98) (v := undef) (a' := ?_) #[true, true, true, true, true, true, true, true, true, true, true, true, true, true, true, true, true, true, true, true, true, true, true, false, false, false, false, false, false] rfl rfl (any_of HT_.out (by kernel_rfl)) (fun _ _ _ h => h) (Or.inr ⟨by rfl, rfl⟩) ?_ ?_
           rotate_left
           ·simp only [Act.put, List.setIfInBounds_toArray, List.set_cons_zero, List.set_cons_succ, i64_w, i32_w]
            rfl
           refine pure_ (i := 23) (N := some 99) (v := undef) (a' := ?_) #[true, true, true, true, true, true, true, true, true, true, true, true, true, true, true, true, true, true, true, true, true, true, true, true, false, false, false, false, false] rfl rfl (any_of HT_.out (by kernel_rfl)) (fun _ _ _ h => h) (Or.inr ⟨by rfl, rfl⟩) ?_ ?_
           rotate_left
           ·simp only [Act.put, List.setIfInBounds_toArray, List.set_cons_zero, List.set_cons_succ, i64_w, i32_w]
            rfl
           refine pure_ (i := 24) (N := some 100) (v := undef) (a' := ?_) #[true, true, true, true, true, true, true, true, true, true, true, true, true, true, true, true, true, true, true, true, true, true, true, true, true, false, false, false, false] rfl rfl (any_of HT_.out (by kernel_rfl)) (fun _ _ _ h => h) (Or.inr ⟨by rfl, rfl⟩) ?_ ?_
           rotate_left
           ·simp only [Act.put, List.setIfInBounds_toArray, List.set_cons_zero, List.set_cons_succ, i64_w, i32_w]
            rfl
           refine pure_ (i := 25) (N := some 101) (v := undef) (a' := ?_) #[true, true, true, true, true, true, true, true, true, true, true, true, true, true, true, true, true, true, true, true, true, true, true, true, true, true, false, false, false] rfl rfl (any_of HT_.out (by kernel_rfl)) (fun _ _ _ h => h) (Or.inr ⟨by rfl, rfl⟩) ?_ ?_
           rotate_left
           ·simp only [Act.put, List.setIfInBounds_toArray, List.set_cons_zero, List.set_cons_succ, i64_w, i32_w]
            rfl
           refine pure_ (i := 26) (N := some 102) (v := undef) (a' := ?_) #[true, true, true, true, true, true, true, true, true, true, true, true, true, true, true, true, true, true, true, true, true, true, true, true, true, true, true, false, false] rfl rfl (any_of HT_.out (by kernel_rfl)) (fun _ _ _ h => h) (Or.inr ⟨by rfl, rfl⟩) ?_ ?_
           rotate_left
           ·simp only [Act.put, List.setIfInBounds_toArray, List.set_cons_zero, List.set_cons_succ, i64_w, i32_w]
            rfl
           refine pure_ (i := 27) (N := some 103) (v := undef) (a' := ?_) #[true, true, true, true, true, true, true, true, true, true, true, true, true, true, true, true, true, true, true, true, true, true, true, true, true, true, true, true, false] rfl rfl (any_of HT_.out (by kernel_rfl)) (fun _ _ _ h => h) (Or.inr ⟨by rfl, rfl⟩) ?_ ?_
           rotate_left
           ·simp only [Act.put, List.setIfInBounds_toArray, List.set_cons_zero, List.set_cons_succ, i64_w, i32_w]
            rfl
           refine pT (i := 28) (N := some 104) (bb 29 536870911) HT_ ?_
           refine done_ (done_of HT_.out (by kernel_rfl)) ?_
           try go_wp2
           go_meet
           case rel => exact ⟨_, (true), (by first | rfl | (simp; done) | (simp [*]; done)), H', ⟨by have := HJ4.out; have := HJ33.out; first | omega | exact Nat.le_refl _⟩, ⟨by (with_reducible repeat first | apply qa | apply qn | apply qd); exact Kd.R_mono HO_442001.out (fun _ hk => ⟨hk.1.2, hk.2⟩)⟩, ⟨by (with_reducible repeat first | apply qa | apply qn | apply qd); exact Kd.R_mono HO450.out (fun _ hk => ⟨hk.1.2, hk.2⟩)⟩, ⟨by (with_reducible repeat first | apply qa | apply qn | apply qd); exact Kd.R_mono HO456.out (fun _ hk => ⟨hk.1.1.2, hk.2⟩)⟩, ⟨tk BK433⟩, ⟨tk BK434⟩, ⟨tk BK435⟩, ⟨tk BK441⟩, ⟨tk BK451⟩, ⟨tk BK458⟩, ⟨tb HB⟩⟩
         ·rw [if_neg c92] at H
          have c92b0 : (t457 == 0) = false := beq_eq_false_iff_ne.mpr c92
          have c92b1 : (t457 != 0) = true := bne_iff_ne.mpr c92
          (first | rw [c92b0] | rw [c92b1] | (simp only [i64_w, i32_w]; rw [c92b0]) | skip)
          have H' := Aside0.mk H
          clear H
          try go_wp2
          replace HO_442001 := Aside0.mk (Kd.R_drew HO_442001.out)
          replace HO450 := Aside0.mk (Kd.R_drew HO450.out)
          replace HO456 := Aside0.mk (Kd.R_drew HO456.out)
          replace BK433 := Aside0.mk (blk_drew BK433.out)
          replace BK434 := Aside0.mk (blk_drew BK434.out)
          replace BK435 := Aside0.mk (blk_drew BK435.out)
          replace BK441 := Aside0.mk (blk_drew BK441.out)
          replace BK451 := Aside0.mk (blk_drew BK451.out)
          replace BK458 := Aside0.mk (blk_drew BK458.out)
          replace HB := Aside0.mk (below_drew1 HB.out)
          refine start_ (n := 29) (S := fun w' => True) (ds := []) #[false, false, false, false, false, false, false, false, false, false, false, false, false, false, false, false, false, false, false, false, false, false, false, false, false, false, false, false, false] (by kernel_rfl) rfl rfl trivial (fun hHeld => ?_); refine with_tabW whetstonetop_TopNumbers.tab9 whetstonetop_TopNumbers.bits9 (fun HT_ HW_ => ?_)
          generalize w91.drew = w117 at HO_442001 HO450 HO456 BK433 BK434 BK435 BK441 BK451 BK458 HB hHeld ⊢
          refine pT (i := 0) (N := some 76) (bb 29 1) HT_ ?_
          refine pT (i := 1) (N := some 77) (bb 29 3) HT_ ?_
          refine pT (i := 2) (N := some 78) (bb 29 7) HT_ ?_
          refine pure_ (i := 3) (N := some 79) (v := undef) (a' := ?_) #[true, true, true, true, false, false, false, false, false, false, false, false, false, false, false, false, false, false, false, false, false, false, false, false, false, false, false, false, false] rfl rfl (any_of HT_.out (by kernel_rfl)) (fun _ _ _ h => h) (Or.inr ⟨by rfl, rfl⟩) ?_ ?_
          rotate_left
          ·simp only [Act.put, List.setIfInBounds_toArray, List.set_cons_zero, List.set_cons_succ, i64_w, i32_w]
           rfl
          refine pure_ (i := 4) (N := some 80) (v := undef) (a' := ?_) #[true, true, true, true, true, false, false, false, false, false, false, false, false, false, false, false, false, false, false, false, false, false, false, false, false, false, false, false, false] rfl rfl (any_of HT_.out (by kernel_rfl)) (fun _ _ _ h => h) (Or.inr ⟨by rfl, rfl⟩) ?_ ?_
          rotate_left
          ·simp only [Act.put, List.setIfInBounds_toArray, List.set_cons_zero, List.set_cons_succ, i64_w, i32_w]
           rfl
          refine pT (i := 5) (N := some 81) (bb 29 63) HT_ ?_
          refine pT (i := 6) (N := some 82) (bb 29 127) HT_ ?_
          refine pure_ (i := 7) (N := some 83) (v := undef) (a' := ?_) #[true, true, true, true, true, true, true, true, false, false, false, false, false, false, false, false, false, false, false, false, false, false, false, false, false, false, false, false, false] rfl rfl (any_of HT_.out (by kernel_rfl)) (fun _ _ _ h => h) (Or.inr ⟨by rfl, rfl⟩) ?_ ?_
          rotate_left
          ·simp only [Act.put, List.setIfInBounds_toArray, List.set_cons_zero, List.set_cons_succ, i64_w, i32_w]
           rfl
          refine pure_ (i := 8) (N := some 84) (v := undef) (a' := ?_) #[true, true, true, true, true, true, true, true, true, false, false, false, false, false, false, false, false, false, false, false, false, false, false, false, false, false, false, false, false] rfl rfl (any_of HT_.out (by kernel_rfl)) (fun _ _ _ h => h) (Or.inr ⟨by rfl, rfl⟩) ?_ ?_
          rotate_left
          ·simp only [Act.put, List.setIfInBounds_toArray, List.set_cons_zero, List.set_cons_succ, i64_w, i32_w]
           rfl
          refine pure_ (i := 9) (N := some 85) (v := undef) (a' := ?_) #[true, true, true, true, true, true, true, true, true, true, false, false, false, false, false, false, false, false, false, false, false, false, false, false, false, false, false, false, false] rfl rfl (any_of HT_.out (by kernel_rfl)) (fun _ _ _ h => h) (Or.inr ⟨by rfl, rfl⟩) ?_ ?_
          rotate_left
          ·simp only [Act.put, List.setIfInBounds_toArray, List.set_cons_zero, List.set_cons_succ, i64_w, i32_w]
           rfl
          refine pure_ (i := 10) (N := some 86) (v := undef) (a' := ?_) #[true, true, true, true, true, true, true, true, true, true, true, false, false, false, false, false, false, false, false, false, false, false, false, false, false, false, false, false, false] rfl rfl (any_of HT_.out (by kernel_rfl)) (fun _ _ _ h => h) (Or.inr ⟨by rfl, rfl⟩) ?_ ?_
          rotate_left
          ·simp only [Act.put, List.setIfInBounds_toArray, List.set_cons_zero, List.set_cons_succ, i64_w, i32_w]
           rfl
          refine pT (i := 11) (N := some 87) (bb 29 4095) HT_ ?_
          refine pT (i := 12) (N := some 88) (bb 29 8191) HT_ ?_
          refine pure_ (i := 13) (N := some 89) (v := undef) (a' := ?_) #[true, true, true, true, true, true, true, true, true, true, true, true, true, true, false, false, false, false, false, false, false, false, false, false, false, false, false, false, false] rfl rfl (any_of HT_.out (by kernel_rfl)) (fun _ _ _ h => h) (Or.inr ⟨by rfl, rfl⟩) ?_ ?_
          rotate_left
          ·simp only [Act.put, List.setIfInBounds_toArray, List.set_cons_zero, List.set_cons_succ, i64_w, i32_w]
           rfl
          refine pure_ (i := 14) (N := some 90) (v := undef) (a' := ?_) #[true, true, true, true, true, true, true, true, true, true, true, true, true, true, true, false, false, false, false, false, false, false, false, false, false, false, false, false, false] rfl rfl (any_of HT_.out (by kernel_rfl)) (fun _ _ _ h => h) (Or.inr ⟨by rfl, rfl⟩) ?_ ?_
          rotate_left
          ·simp only [Act.put, List.setIfInBounds_toArray, List.set_cons_zero, List.set_cons_succ, i64_w, i32_w]
           rfl
          refine pure_ (i := 15) (N := some 91) (v := undef) (a' := ?_) #[true, true, true, true, true, true, true, true, true, true, true, true, true, true, true, true, false, false, false, false, false, false, false, false, false, false, false, false, false] rfl rfl (any_of HT_.out (by kernel_rfl)) (fun _ _ _ h => h) (Or.inr ⟨by rfl, rfl⟩) ?_ ?_
          rotate_left
          ·simp only [Act.put, List.setIfInBounds_toArray, List.set_cons_zero, List.set_cons_succ, i64_w, i32_w]
           rfl
          refine pure_ (i := 16) (N := some 92) (v := undef) (a' := ?_) #[true, true, true, true, true, true, true, true, true, true, true, true, true, true, true, true, true, false, false, false, false, false, false, false, false, false, false, false, false] rfl rfl (any_of HT_.out (by kernel_rfl)) (fun _ _ _ h => h) (Or.inr ⟨by rfl, rfl⟩) ?_ ?_
          rotate_left
          ·simp only [Act.put, List.setIfInBounds_toArray, List.set_cons_zero, List.set_cons_succ, i64_w, i32_w]
           rfl
          refine pure_ (i := 17) (N := some 93) (v := undef) (a' := ?_) #[true, true, true, true, true, true, true, true, true, true, true, true, true, true, true, true, true, true, false, false, false, false, false, false, false, false, false, false, false] rfl rfl (any_of HT_.out (by kernel_rfl)) (fun _ _ _ h => h) (Or.inr ⟨by rfl, rfl⟩) ?_ ?_
          rotate_left
          ·simp only [Act.put, List.setIfInBounds_toArray, List.set_cons_zero, List.set_cons_succ, i64_w, i32_w]
           rfl
          refine pT (i := 18) (N := some 94) (bb 29 524287) HT_ ?_
          refine pT (i := 19) (N := some 95) (bb 29 1048575) HT_ ?_
          refine pure_ (i := 20) (N := some 96) (v := undef) (a' := ?_) #[true, true, true, true, true, true, true, true, true, true, true, true, true, true, true, true, true, true, true, true, true, false, false, false, false, false, false, false, false] rfl rfl (any_of HT_.out (by kernel_rfl)) (fun _ _ _ h => h) (Or.inr ⟨by rfl, rfl⟩) ?_ ?_
          rotate_left
          ·simp only [Act.put, List.setIfInBounds_toArray, List.set_cons_zero, List.set_cons_succ, i64_w, i32_w]
           rfl
          refine pure_ (i := 21) (N := some 97) (v := undef) (a' := ?_) #[true, true, true, true, true, true, true, true, true, true, true, true, true, true, true, true, true, true, true, true, true, true, false, false, false, false, false, false, false] rfl rfl (any_of HT_.out (by kernel_rfl)) (fun _ _ _ h => h) (Or.inr ⟨by rfl, rfl⟩) ?_ ?_
          rotate_left
          ·simp only [Act.put, List.setIfInBounds_toArray, List.set_cons_zero, List.set_cons_succ, i64_w, i32_w]
           rfl
          refine pure_ (i := 22) (N := some 98) (v := undef) (a' := ?_) #[true, true, true, true, true, true, true, true, true, true, true, true, true, true, true, true, true, true, true, true, true, true, true, false, false, false, false, false, false] rfl rfl (any_of HT_.out (by kernel_rfl)) (fun _ _ _ h => h) (Or.inr ⟨by rfl, rfl⟩) ?_ ?_
          rotate_left
          ·simp only [Act.put, List.setIfInBounds_toArray, List.set_cons_zero, List.set_cons_succ, i64_w, i32_w]
           rfl
          refine pure_ (i := 23) (N := some 99) (v := undef) (a' := ?_) #[true, true, true, true, true, true, true, true, true, true, true, true, true, true, true, true, true, true, true, true, true, true, true, true, false, false, false, false, false] rfl rfl (any_of HT_.out (by kernel_rfl)) (fun _ _ _ h => h) (Or.inr ⟨by rfl, rfl⟩) ?_ ?_
          rotate_left
          ·simp only [Act.put, List.setIfInBounds_toArray, List.set_cons_zero, List.set_cons_succ, i64_w, i32_w]
           rfl
          refine pure_ (i := 24) (N := some 100) (v := undef) (a' := ?_) #[true, true, true, true, true, true, true, true, true, true, true, true, true, true, true, true, true, true, true, true, true, true, true, true, true, false, false, false, false] rfl rfl (any_of HT_.out (by kernel_rfl)) (fun _ _ _ h => h) (Or.inr ⟨by rfl, rfl⟩) ?_ ?_
          rotate_left
          ·simp only [Act.put, List.setIfInBounds_toArray, List.set_cons_zero, List.set_cons_succ, i64_w, i32_w]
           rfl
          refine pure_ (i := 25) (N := some 101) (v := undef) (a' := ?_) #[true, true, true, true, true, true, true, true, true, true, true, true, true, true, true, true, true, true, true, true, true, true, true, true, true, true, false, false, false] rfl rfl (any_of HT_.out (by kernel_rfl)) (fun _ _ _ h => h) (Or.inr ⟨by rfl, rfl⟩) ?_ ?_
          rotate_left
          ·simp only [Act.put, List.setIfInBounds_toArray, List.set_cons_zero, List.set_cons_succ, i64_w, i32_w]
           rfl
          refine pure_ (i := 26) (N := some 102) (v := undef) (a' := ?_) #[true, true, true, true, true, true, true, true, true, true, true, true, true, true, true, true, true, true, true, true, true, true, true, true, true, true, true, false, false] rfl rfl (any_of HT_.out (by kernel_rfl)) (fun _ _ _ h => h) (Or.inr ⟨by rfl, rfl⟩) ?_ ?_
          rotate_left
          ·simp only [Act.put, List.setIfInBounds_toArray, List.set_cons_zero, List.set_cons_succ, i64_w, i32_w]
           rfl
          refine pure_ (i := 27) (N := some 103) (v := undef) (a' := ?_) #[true, true, true, true, true, true, true, true, true, true, true, true, true, true, true, true, true, true, true, true, true, true, true, true, true, true, true, true, false] rfl rfl (any_of HT_.out (by kernel_rfl)) (fun _ _ _ h => h) (Or.inr ⟨by rfl, rfl⟩) ?_ ?_
          rotate_left
          ·simp only [Act.put, List.setIfInBounds_toArray, List.set_cons_zero, List.set_cons_succ, i64_w, i32_w]
           rfl
          refine pT (i := 28) (N := some 104) (bb 29 536870911) HT_ ?_
          refine done_ (done_of HT_.out (by kernel_rfl)) ?_
          try go_wp2
          go_meet
          case rel => exact ⟨_, (true), (by first | rfl | (simp; done) | (simp [*]; done)), H', ⟨by have := HJ4.out; have := HJ33.out; first | omega | exact Nat.le_refl _⟩, ⟨by (with_reducible repeat first | apply qa | apply qn | apply qd); exact Kd.R_mono HO_442001.out (fun _ hk => ⟨hk.1.2, hk.2⟩)⟩, ⟨by (with_reducible repeat first | apply qa | apply qn | apply qd); exact Kd.R_mono HO450.out (fun _ hk => ⟨hk.1.2, hk.2⟩)⟩, ⟨by (with_reducible repeat first | apply qa | apply qn | apply qd); exact Kd.R_mono HO456.out (fun _ hk => ⟨hk.1.1.2, hk.2⟩)⟩, ⟨tk BK433⟩, ⟨tk BK434⟩, ⟨tk BK435⟩, ⟨tk BK441⟩, ⟨tk BK451⟩, ⟨tk BK458⟩, ⟨tb HB⟩⟩
        case rest =>
         clear HC64
         (try clear c1); (try clear c2); (try clear p2); (try clear c9); (try clear c10); (try clear c92); (try clear c92b0); (try clear c92b1); (try clear c93); (try clear c93b0); (try clear c93b1)
         obtain ⟨kq, x104_63, rfl, HA, HJ63, HO_442001, HO_452001, HO_459001, BK433, BK434, BK435, BK441, BK451, BK458, HB⟩ := hcut
         cases kq with
         | zero => exact absurd HA.out (by simp [whetstonetop_TopNumbers.j2])
         | succ kj63 =>
          have H := HA.out
          clear HA
          simp only [whetstonetop_TopNumbers.j2] at H
          by_cases c118 : x104_63 = true
          ·subst c118
           have H1 : (none) = some r := by rw [if_pos rfl] at H; exact H
           clear H
           have H := H1
           clear H1
           exact absurd H (by simp)
          ·replace c118 := Bool.eq_false_iff.mpr c118
           subst c118
           have H1 : ((big_Sign.f kj63 a1_0 l1_1).bind fun t475 => (if t475 = 0 then ((big_Cmp.f kj63 t447 t448 a2_0 l2_1).bind fun t476 => (some (t476 == 0))) else ((big_DivMod.f kj63 t447 t448 a1_0 l1_1).bind fun bt477 => ((big_DivMod.f kj63 a2_0 l2_1 a1_0 l1_1).bind fun bt488 => (if bt477.2.2.2.2 = 0 then (if bt488.2.2.2.2 = 0 then ((big_Cmp.f kj63 bt477.2.2.1 bt477.2.2.2.1 bt488.2.2.1 bt488.2.2.2.1).bind fun t499 => (if t499 = 0 then ((big_Add.f kj63 a0_0 l0_1 bt488.1 bt488.2.1).bind fun bt500 => ((big_Cmp.f kj63 bt477.1 bt477.2.1 bt500.1 bt500.2).bind fun t504 => (some (t504 == 0)))) else (none))) else (none)) else (none)))))) = some r := by rw [if_neg (show ¬ (false = true) by decide)] at H; exact H
           clear H
           have H := H1
           clear H1
           replace H := bi H
           obtain ⟨t475, A1190, H⟩ := H
           have A119 := Aside0.mk A1190
           clear A1190
           by_cases c120 : t475 = 0
           ·rw [if_pos c120] at H
            have c120b0 : (t475 == 0) = true := beq_iff_eq.mpr c120
            have c120b1 : (t475 != 0) = false := bne_eq_false_iff_eq.mpr c120
            clear c120
            replace H := bi H
            obtain ⟨t476, A1210, H⟩ := H
            have A121 := Aside0.mk A1210
            clear A1210
            obtain rfl := Option.some.inj H
            have hnb122 := NB434_433.out
            have hnc122 := NB433_434.out
            have hnb123 := NB434_435.out
            have hnc123 := NB435_434.out
            have hnb124 := NB434_441.out
            have hnc124 := NB441_434.out
            have hnb125 := NB434_451.out
            have hnc125 := NB451_434.out
            have hnb126 := NB434_458.out
            have hnc126 := NB458_434.out
            have hcz127_0 := bc BK434 0 (.bool a1_0)
            have hcz127_1 := bc BK434 1 (.slice A1_1 l1_1.length c1_1)
            have hfz127_0 := blk_frozen BK434.out 0
            have hfz127_1 := blk_frozen BK434.out 1
            go_wp2_with (first | ((with_reducible refine gate_callee (f := 13) rfl ?_); refine gL (N := some 106) Try.func13 #[.agg #[.bool a1_0, .slice A1_1 l1_1.length c1_1]] ?_; (with_reducible refine (big_Sign.calls kj63 a1_0 _ _ l1_1 t475 _ ?side1 ?side2 A119.out).mono ?_); (case side1 => exact tc (Kd.C_below HR1_1.out HB.out)); (case side2 => exact HC1_1.out); rintro e w128 ⟨rfl, hb⟩; refine ⟨_, rfl, ?_⟩; replace HO_452001 := rb HO_452001 hb; replace BK435 := kb BK435 hb; replace BK451 := kb BK451 hb; replace HB := bs HB hb; (try clear hb); (try clear hb2); (try clear hk); (try clear hi); have hnb129 := NB451_433.out; have hnc129 := NB433_451.out; have hnb130 := NB451_435.out; have hnc130 := NB435_451.out; have hnb131 := NB451_441.out; have hnc131 := NB441_451.out; have hnb132 := NB451_458.out; have hnc132 := NB458_451.out; have hcz133_0 := bc BK451 0 (.bool t447); have hcz133_1 := bc BK451 1 (.slice Ao72 t448.length co72); have hfz133_0 := blk_frozen BK451.out 0; have hfz133_1 := blk_frozen BK451.out 1; have hnb134 := NB435_433.out; have hnc134 := NB433_435.out; have hnb135 := NB435_441.out; have hnc135 := NB441_435.out; have hnb136 := NB435_458.out; have hnc136 := NB458_435.out; have hcz137_0 := bc BK435 0 (.bool a2_0); have hcz137_1 := bc BK435 1 (.slice A2_1 l2_1.length c2_1); have hfz137_0 := blk_frozen BK435.out 0; have hfz137_1 := blk_frozen BK435.out 1) | ((with_reducible refine gate_callee (f := 10) rfl ?_); refine gL (N := some 110) Try.func10 #[.agg #[.bool t447, .slice Ao72 t448.length co72], .agg #[.bool a2_0, .slice A2_1 l2_1.length c2_1]] ?_; (with_reducible refine (big_Cmp.calls kj63 t447 _ _ t448 a2_0 _ _ l2_1 t476 _ ?side1 ?side2 ?side3 ?side4 A121.out).mono ?_); (case side1 => exact tc (Kd.R_reads' HO_452001.out).2.2); (case side2 => exact (Kd.R_reads' HO_452001.out).2.1); (case side3 => exact tc (Kd.C_below HR2_1.out HB.out)); (case side4 => exact HC2_1.out); rintro e w138 ⟨rfl, hb⟩; refine ⟨_, rfl, ?_⟩; replace HB := bs HB hb; (try clear hb); (try clear hb2); (try clear hk); (try clear hi)))
            go_ret
            exact ⟨by first | rfl | (simp [errW_none, errW_some] <;> rfl) | (simp [*, errW_none, errW_some] <;> rfl), tb HB⟩
           ·rw [if_neg c120] at H
            have c120b0 : (t475 == 0) = false := beq_eq_false_iff_ne.mpr c120
            have c120b1 : (t475 != 0) = true := bne_iff_ne.mpr c120
            replace H := bi H
            obtain ⟨⟨t477, t478, t481, t482, t485⟩, A1390, H⟩ := H
            try dsimp only at H
            have A139 := Aside0.mk A1390
            clear A1390
            replace H := bi H
            obtain ⟨⟨t488, t489, t492, t493, t496⟩, A1400, H⟩ := H
            try dsimp only at H
            have A140 := Aside0.mk A1400
            clear A1400
            by_cases c141 : t485 = 0
            ·rw [if_pos c141] at H
             have c141b0 : (t485 == 0) = true := beq_iff_eq.mpr c141
             have c141b1 : (t485 != 0) = false := bne_eq_false_iff_eq.mpr c141
             clear c141
             by_cases c142 : t496 = 0
             ·rw [if_pos c142] at H
              have c142b0 : (t496 == 0) = true := beq_iff_eq.mpr c142
              have c142b1 : (t496 != 0) = false := bne_eq_false_iff_eq.mpr c142
              clear c142
              replace H := bi H
              obtain ⟨t499, A1430, H⟩ := H
              have A143 := Aside0.mk A1430
              clear A1430
              by_cases c144 : t499 = 0
              ·rw [if_pos c144] at H
               have c144b0 : (t499 == 0) = true := beq_iff_eq.mpr c144
               have c144b1 : (t499 != 0) = false := bne_eq_false_iff_eq.mpr c144
               clear c144
               replace H := bi H
               obtain ⟨⟨t500, t501⟩, A1450, H⟩ := H
               try dsimp only at H
               have A145 := Aside0.mk A1450
               clear A1450
               replace H := bi H
               obtain ⟨t504, A1460, H⟩ := H
               have A146 := Aside0.mk A1460
               clear A1460
               obtain rfl := Option.some.inj H
               have hnb147 := NB434_433.out
               have hnc147 := NB433_434.out
               have hnb148 := NB434_435.out
               have hnc148 := NB435_434.out
               have hnb149 := NB434_441.out
               have hnc149 := NB441_434.out
               have hnb150 := NB434_451.out
               have hnc150 := NB451_434.out
               have hnb151 := NB434_458.out
               have hnc151 := NB458_434.out
               have hcz152_0 := bc BK434 0 (.bool a1_0)
               have hcz152_1 := bc BK434 1 (.slice A1_1 l1_1.length c1_1)
               have hfz152_0 := blk_frozen BK434.out 0
               have hfz152_1 := blk_frozen BK434.out 1
               try go_wp2_with (first | ((with_reducible refine gate_callee (f := 13) rfl ?_); refine gL (N := some 106) Try.func13 #[.agg #[.bool a1_0, .slice A1_1 l1_1.length c1_1]] ?_; (with_reducible refine (big_Sign.calls kj63 a1_0 _ _ l1_1 t475 _ ?side1 ?side2 A119.out).mono ?_); (case side1 => exact tc (Kd.C_below HR1_1.out HB.out)); (case side2 => exact HC1_1.out); rintro e w153 ⟨rfl, hb⟩; refine ⟨_, rfl, ?_⟩; replace HO_442001 := rb HO_442001 hb; replace HO_452001 := rb HO_452001 hb; replace HO_459001 := rb HO_459001 hb; replace BK433 := kb BK433 hb; replace BK434 := kb BK434 hb; replace BK435 := kb BK435 hb; replace BK441 := kb BK441 hb; replace BK451 := kb BK451 hb; replace BK458 := kb BK458 hb; replace HB := bs HB hb; (try clear hb); (try clear hb2); (try clear hk); (try clear hi); have hnb154 := NB451_433.out; have hnc154 := NB433_451.out; have hnb155 := NB451_435.out; have hnc155 := NB435_451.out; have hnb156 := NB451_441.out; have hnc156 := NB441_451.out; have hnb157 := NB451_458.out; have hnc157 := NB458_451.out; have hcz158_0 := bc BK451 0 (.bool t447); have hcz158_1 := bc BK451 1 (.slice Ao72 t448.length co72); have hfz158_0 := blk_frozen BK451.out 0; have hfz158_1 := blk_frozen BK451.out 1; have hcz159_0 := bc BK434 0 (.bool a1_0); have hcz159_1 := bc BK434 1 (.slice A1_1 l1_1.length c1_1); have hfz159_0 := blk_frozen BK434.out 0; have hfz159_1 := blk_frozen BK434.out 1) | ((with_reducible refine gate_callee (f := 14) rfl ?_); refine gL (N := some 115) Try.func14 #[.agg #[.bool t447, .slice Ao72 t448.length co72], .agg #[.bool a1_0, .slice A1_1 l1_1.length c1_1]] ?_; (with_reducible refine (big_DivMod.calls kj63 t447 _ _ t448 a1_0 _ _ l1_1 t477 t478 t481 t482 t485 _ ?side1 ?side2 ?side3 ?side4 A139.out).mono ?_); (case side1 => exact tc (Kd.R_reads' HO_452001.out).2.2); (case side2 => exact (Kd.R_reads' HO_452001.out).2.1); (case side3 => exact tc (Kd.C_below HR1_1.out HB.out)); (case side4 => exact HC1_1.out); rintro e w160 ⟨v479, v483, rfl, ho0, ho1, hb⟩; refine ⟨_, rfl, ?_⟩; have HO480 := Aside0.mk (Kd.R_lower (Kd.R_new' (Kd.R_new' (Kd.R_new' ho0 (Kd.R_lt (tq HO_442001))) (Kd.R_lt (tq HO_452001))) (Kd.R_lt (tq HO_459001))) (below_size (tb HB))); have HO484 := Aside0.mk (Kd.R_lower (Kd.R_new' (Kd.R_new' (Kd.R_new' ho1 (Kd.R_lt (tq HO_442001))) (Kd.R_lt (tq HO_452001))) (Kd.R_lt (tq HO_459001))) (below_size (tb HB))); replace HO_442001 := Aside0.mk (Kd.R_mono (Kd.R_told (Kd.R_told (Kd.R_old (tq HO_442001) hb) (Kd.R_base ho0)) (Kd.R_base ho1)) (fun _ h_ => h_.1)); replace HO_452001 := Aside0.mk (Kd.R_mono (Kd.R_told (Kd.R_told (Kd.R_old (tq HO_452001) hb) (Kd.R_base ho0)) (Kd.R_base ho1)) (fun _ h_ => h_.1)); replace HO_459001 := Aside0.mk (Kd.R_mono (Kd.R_told (Kd.R_told (Kd.R_old (tq HO_459001) hb) (Kd.R_base ho0)) (Kd.R_base ho1)) (fun _ h_ => h_.1)); replace BK433 := kb BK433 hb; replace BK434 := kb BK434 hb; replace BK435 := kb BK435 hb; replace BK441 := kb BK441 hb; replace BK451 := kb BK451 hb; replace BK458 := kb BK458 hb; replace HB := bs HB hb; (try clear hb); (try clear hb2); (try clear hk); (try clear hi); (try clear ho0); (try clear ho1)) | ((with_reducible refine gate_dst (N := 13) rfl ?_); (try (refine gate_guard (by rfl) ?_; dsimp only)); refine bx (N := 13) #[.bool false, .slice none 0 0] 24 ?_; intro gb486 hg w161 hbox hb; replace HO_442001 := rb HO_442001 hb; replace HO_452001 := rb HO_452001 hb; replace HO_459001 := rb HO_459001 hb; replace HO480 := rb HO480 hb; replace HO484 := rb HO484 hb; have BK486 := Aside0.mk (hbox); have GW486 := bz hg HB; have GE486 := bz hg HB; replace HB := bs HB hb; have NB433_486 := nl hg BK433; have NB486_433 := ng hg BK433; replace BK433 := kb BK433 hb; have NB434_486 := nl hg BK434; have NB486_434 := ng hg BK434; replace BK434 := kb BK434 hb; have NB435_486 := nl hg BK435; have NB486_435 := ng hg BK435; replace BK435 := kb BK435 hb; have NB441_486 := nl hg BK441; have NB486_441 := ng hg BK441; replace BK441 := kb BK441 hb; have NB451_486 := nl hg BK451; have NB486_451 := ng hg BK451; replace BK451 := kb BK451 hb; have NB458_486 := nl hg BK458; have NB486_458 := ng hg BK458; replace BK458 := kb BK458 hb; clear hb hbox hg) | ((with_reducible refine gate_dst (N := 14) rfl ?_); (try (refine gate_guard (by rfl) ?_; dsimp only)); refine bx (N := 14) #[.bool false, .slice none 0 0] 24 ?_; intro gb487 hg w162 hbox hb; replace HO_442001 := rb HO_442001 hb; replace HO_452001 := rb HO_452001 hb; replace HO_459001 := rb HO_459001 hb; replace HO480 := rb HO480 hb; replace HO484 := rb HO484 hb; have BK487 := Aside0.mk (hbox); have GW487 := bz hg HB; have GE487 := bz hg HB; replace HB := bs HB hb; have NB433_487 := nl hg BK433; have NB487_433 := ng hg BK433; replace BK433 := kb BK433 hb; have NB434_487 := nl hg BK434; have NB487_434 := ng hg BK434; replace BK434 := kb BK434 hb; have NB435_487 := nl hg BK435; have NB487_435 := ng hg BK435; replace BK435 := kb BK435 hb; have NB441_487 := nl hg BK441; have NB487_441 := ng hg BK441; replace BK441 := kb BK441 hb; have NB451_487 := nl hg BK451; have NB487_451 := ng hg BK451; replace BK451 := kb BK451 hb; have NB458_487 := nl hg BK458; have NB487_458 := ng hg BK458; replace BK458 := kb BK458 hb; have NB486_487 := nl hg BK486; have NB487_486 := ng hg BK486; replace BK486 := kb BK486 hb; clear hb hbox hg; have hnb163 := NB486_433.out; have hnc163 := NB433_486.out; have hnb164 := NB486_434.out; have hnc164 := NB434_486.out; have hnb165 := NB486_435.out; have hnc165 := NB435_486.out; have hnb166 := NB486_441.out; have hnc166 := NB441_486.out; have hnb167 := NB486_451.out; have hnc167 := NB451_486.out; have hnb168 := NB486_458.out; have hnc168 := NB458_486.out; have hnb169 := NB486_487.out; have hnc169 := NB487_486.out; have hcz170_0 := bc BK486 0 (.bool false); have hcz170_1 := bc BK486 1 (.slice none 0 0); have hfz170_0 := blk_frozen BK486.out 0; have hfz170_1 := blk_frozen BK486.out 1; obtain ⟨Ao171, co171, eo171⟩ := Kd.R_slice HO480.out; subst eo171; have hnb172 := NB487_433.out; have hnc172 := NB433_487.out; have hnb173 := NB487_434.out; have hnc173 := NB434_487.out; have hnb174 := NB487_435.out; have hnc174 := NB435_487.out; have hnb175 := NB487_441.out; have hnc175 := NB441_487.out; have hnb176 := NB487_451.out; have hnc176 := NB451_487.out; have hnb177 := NB487_458.out; have hnc177 := NB458_487.out; have hcz178_0 := bc BK487 0 (.bool false); have hcz178_1 := bc BK487 1 (.slice none 0 0); have hfz178_0 := blk_frozen BK487.out 0; have hfz178_1 := blk_frozen BK487.out 1; obtain ⟨Ao179, co179, eo179⟩ := Kd.R_slice HO484.out; subst eo179; have hnb180 := NB435_433.out; have hnc180 := NB433_435.out; have hnb181 := NB435_441.out; have hnc181 := NB441_435.out; have hnb182 := NB435_458.out; have hnc182 := NB458_435.out; have hcz183_0 := bc BK435 0 (.bool a2_0); have hcz183_1 := bc BK435 1 (.slice A2_1 l2_1.length c2_1); have hfz183_0 := blk_frozen BK435.out 0; have hfz183_1 := blk_frozen BK435.out 1; have hcz184_0 := bc BK434 0 (.bool a1_0); have hcz184_1 := bc BK434 1 (.slice A1_1 l1_1.length c1_1); have hfz184_0 := blk_frozen BK434.out 0; have hfz184_1 := blk_frozen BK434.out 1) | ((with_reducible refine gate_callee (f := 14) rfl ?_); refine gL (N := some 122) Try.func14 #[.agg #[.bool a2_0, .slice A2_1 l2_1.length c2_1], .agg #[.bool a1_0, .slice A1_1 l1_1.length c1_1]] ?_; (with_reducible refine (big_DivMod.calls kj63 a2_0 _ _ l2_1 a1_0 _ _ l1_1 t488 t489 t492 t493 t496 _ ?side1 ?side2 ?side3 ?side4 A140.out).mono ?_); (case side1 => exact Kd.C_below HR2_1.out (tb HB)); (case side2 => exact HC2_1.out); (case side3 => exact Kd.C_below HR1_1.out (tb HB)); (case side4 => exact HC1_1.out); rintro e w185 ⟨v490, v494, rfl, ho0, ho1, hb⟩; refine ⟨_, rfl, ?_⟩; have HO491 := Aside0.mk (Kd.R_lower (Kd.R_new' (Kd.R_new' (Kd.R_new' (Kd.R_new' (Kd.R_new' ho0 (Kd.R_lt (by (with_reducible repeat first | apply qa | apply qn | apply qd); exact (Kd.R_mono (Kd.R_mono (Kd.R_far (p := ⟨gb487, 1, none⟩) (Kd.R_far (p := ⟨gb487, 0, none⟩) (Kd.R_far (p := ⟨gb486, 1, none⟩) (Kd.R_far (p := ⟨gb486, 0, none⟩) (Kd.R_types (Kd.R_types HO_442001.out BK486.out (by decide)) BK487.out (by decide)) (fun _ hk => hk.1.2) (.bool t477)) (fun _ hk => hk.1.2) (.slice Ao171 t478.length co171)) (fun _ hk => hk.2) (.bool t481)) (fun _ hk => hk.2) (.slice Ao179 t482.length co179)) (fun _ h_ => h_.1)) (fun _ h_ => h_.1))))) (Kd.R_lt (by (with_reducible repeat first | apply qa | apply qn | apply qd); exact (Kd.R_mono (Kd.R_mono (Kd.R_far (p := ⟨gb487, 1, none⟩) (Kd.R_far (p := ⟨gb487, 0, none⟩) (Kd.R_far (p := ⟨gb486, 1, none⟩) (Kd.R_far (p := ⟨gb486, 0, none⟩) (Kd.R_types (Kd.R_types HO_452001.out BK486.out (by decide)) BK487.out (by decide)) (fun _ hk => hk.1.2) (.bool t477)) (fun _ hk => hk.1.2) (.slice Ao171 t478.length co171)) (fun _ hk => hk.2) (.bool t481)) (fun _ hk => hk.2) (.slice Ao179 t482.length co179)) (fun _ h_ => h_.1)) (fun _ h_ => h_.1))))) (Kd.R_lt (by (with_reducible repeat first | apply qa | apply qn | apply qd); exact (Kd.R_mono (Kd.R_mono (Kd.R_far (p := ⟨gb487, 1, none⟩) (Kd.R_far (p := ⟨gb487, 0, none⟩) (Kd.R_far (p := ⟨gb486, 1, none⟩) (Kd.R_far (p := ⟨gb486, 0, none⟩) (Kd.R_types (Kd.R_types HO_459001.out BK486.out (by decide)) BK487.out (by decide)) (fun _ hk => hk.1.2) (.bool t477)) (fun _ hk => hk.1.2) (.slice Ao171 t478.length co171)) (fun _ hk => hk.2) (.bool t481)) (fun _ hk => hk.2) (.slice Ao179 t482.length co179)) (fun _ h_ => h_.1)) (fun _ h_ => h_.1))))) (Kd.R_lt (by (with_reducible repeat first | apply qa | apply qn | apply qd); exact (Kd.R_mono (Kd.R_mono (Kd.R_far (p := ⟨gb487, 1, none⟩) (Kd.R_far (p := ⟨gb487, 0, none⟩) (Kd.R_far (p := ⟨gb486, 1, none⟩) (Kd.R_far (p := ⟨gb486, 0, none⟩) (Kd.R_types (Kd.R_types HO480.out BK486.out (by decide)) BK487.out (by decide)) (fun _ hk => hk.1.2) (.bool t477)) (fun _ hk => hk.1.2) (.slice Ao171 t478.length co171)) (fun _ hk => hk.2) (.bool t481)) (fun _ hk => hk.2) (.slice Ao179 t482.length co179)) (fun _ h_ => h_.1)) (fun _ h_ => h_.1))))) (Kd.R_lt (by (with_reducible repeat first | apply qa | apply qn | apply qd); exact (Kd.R_mono (Kd.R_mono (Kd.R_far (p := ⟨gb487, 1, none⟩) (Kd.R_far (p := ⟨gb487, 0, none⟩) (Kd.R_far (p := ⟨gb486, 1, none⟩) (Kd.R_far (p := ⟨gb486, 0, none⟩) (Kd.R_types (Kd.R_types HO484.out BK486.out (by decide)) BK487.out (by decide)) (fun _ hk => hk.1.2) (.bool t477)) (fun _ hk => hk.1.2) (.slice Ao171 t478.length co171)) (fun _ hk => hk.2) (.bool t481)) (fun _ hk => hk.2) (.slice Ao179 t482.length co179)) (fun _ h_ => h_.1)) (fun _ h_ => h_.1))))) (below_size (tb HB))); have HO495 := Aside0.mk (Kd.R_lower (Kd.R_new' (Kd.R_new' (Kd.R_new' (Kd.R_new' (Kd.R_new' ho1 (Kd.R_lt (by (with_reducible repeat first | apply qa | apply qn | apply qd); exact (Kd.R_mono (Kd.R_mono (Kd.R_far (p := ⟨gb487, 1, none⟩) (Kd.R_far (p := ⟨gb487, 0, none⟩) (Kd.R_far (p := ⟨gb486, 1, none⟩) (Kd.R_far (p := ⟨gb486, 0, none⟩) (Kd.R_types (Kd.R_types HO_442001.out BK486.out (by decide)) BK487.out (by decide)) (fun _ hk => hk.1.2) (.bool t477)) (fun _ hk => hk.1.2) (.slice Ao171 t478.length co171)) (fun _ hk => hk.2) (.bool t481)) (fun _ hk => hk.2) (.slice Ao179 t482.length co179)) (fun _ h_ => h_.1)) (fun _ h_ => h_.1))))) (Kd.R_lt (by (with_reducible repeat first | apply qa | apply qn | apply qd); exact (Kd.R_mono (Kd.R_mono (Kd.R_far (p := ⟨gb487, 1, none⟩) (Kd.R_far (p := ⟨gb487, 0, none⟩) (Kd.R_far (p := ⟨gb486, 1, none⟩) (Kd.R_far (p := ⟨gb486, 0, none⟩) (Kd.R_types (Kd.R_types HO_452001.out BK486.out (by decide)) BK487.out (by decide)) (fun _ hk => hk.1.2) (.bool t477)) (fun _ hk => hk.1.2) (.slice Ao171 t478.length co171)) (fun _ hk => hk.2) (.bool t481)) (fun _ hk => hk.2) (.slice Ao179 t482.length co179)) (fun _ h_ => h_.1)) (fun _ h_ => h_.1))))) (Kd.R_lt (by (with_reducible repeat first | apply qa | apply qn | apply qd); exact (Kd.R_mono (Kd.R_mono (Kd.R_far (p := ⟨gb487, 1, none⟩) (Kd.R_far (p := ⟨gb487, 0, none⟩) (Kd.R_far (p := ⟨gb486, 1, none⟩) (Kd.R_far (p := ⟨gb486, 0, none⟩) (Kd.R_types (Kd.R_types HO_459001.out BK486.out (by decide)) BK487.out (by decide)) (fun _ hk => hk.1.2) (.bool t477)) (fun _ hk => hk.1.2) (.slice Ao171 t478.length co171)) (fun _ hk => hk.2) (.bool t481)) (fun _ hk => hk.2) (.slice Ao179 t482.length co179)) (fun _ h_ => h_.1)) (fun _ h_ => h_.1))))) (Kd.R_lt (by (with_reducible repeat first | apply qa | apply qn | apply qd); exact (Kd.R_mono (Kd.R_mono (Kd.R_far (p := ⟨gb487, 1, none⟩) (Kd.R_far (p := ⟨gb487, 0, none⟩) (Kd.R_far (p := ⟨gb486, 1, none⟩) (Kd.R_far (p := ⟨gb486, 0, none⟩) (Kd.R_types (Kd.R_types HO480.out BK486.out (by decide)) BK487.out (by decide)) (fun _ hk => hk.1.2) (.bool t477)) (fun _ hk => hk.1.2) (.slice Ao171 t478.length co171)) (fun _ hk => hk.2) (.bool t481)) (fun _ hk => hk.2) (.slice Ao179 t482.length co179)) (fun _ h_ => h_.1)) (fun _ h_ => h_.1))))) (Kd.R_lt (by (with_reducible repeat first | apply qa | apply qn | apply qd); exact (Kd.R_mono (Kd.R_mono (Kd.R_far (p := ⟨gb487, 1, none⟩) (Kd.R_far (p := ⟨gb487, 0, none⟩) (Kd.R_far (p := ⟨gb486, 1, none⟩) (Kd.R_far (p := ⟨gb486, 0, none⟩) (Kd.R_types (Kd.R_types HO484.out BK486.out (by decide)) BK487.out (by decide)) (fun _ hk => hk.1.2) (.bool t477)) (fun _ hk => hk.1.2) (.slice Ao171 t478.length co171)) (fun _ hk => hk.2) (.bool t481)) (fun _ hk => hk.2) (.slice Ao179 t482.length co179)) (fun _ h_ => h_.1)) (fun _ h_ => h_.1))))) (below_size (tb HB))); replace HO_442001 := Aside0.mk (Kd.R_mono (Kd.R_told (Kd.R_told (Kd.R_old (by (with_reducible repeat first | apply qa | apply qn | apply qd); exact (Kd.R_mono (Kd.R_mono (Kd.R_far (p := ⟨gb487, 1, none⟩) (Kd.R_far (p := ⟨gb487, 0, none⟩) (Kd.R_far (p := ⟨gb486, 1, none⟩) (Kd.R_far (p := ⟨gb486, 0, none⟩) (Kd.R_types (Kd.R_types HO_442001.out BK486.out (by decide)) BK487.out (by decide)) (fun _ hk => hk.1.2) (.bool t477)) (fun _ hk => hk.1.2) (.slice Ao171 t478.length co171)) (fun _ hk => hk.2) (.bool t481)) (fun _ hk => hk.2) (.slice Ao179 t482.length co179)) (fun _ h_ => h_.1)) (fun _ h_ => h_.1))) hb) (Kd.R_base ho0)) (Kd.R_base ho1)) (fun _ h_ => h_.1)); replace HO_452001 := Aside0.mk (Kd.R_mono (Kd.R_told (Kd.R_told (Kd.R_old (by (with_reducible repeat first | apply qa | apply qn | apply qd); exact (Kd.R_mono (Kd.R_mono (Kd.R_far (p := ⟨gb487, 1, none⟩) (Kd.R_far (p := ⟨gb487, 0, none⟩) (Kd.R_far (p := ⟨gb486, 1, none⟩) (Kd.R_far (p := ⟨gb486, 0, none⟩) (Kd.R_types (Kd.R_types HO_452001.out BK486.out (by decide)) BK487.out (by decide)) (fun _ hk => hk.1.2) (.bool t477)) (fun _ hk => hk.1.2) (.slice Ao171 t478.length co171)) (fun _ hk => hk.2) (.bool t481)) (fun _ hk => hk.2) (.slice Ao179 t482.length co179)) (fun _ h_ => h_.1)) (fun _ h_ => h_.1))) hb) (Kd.R_base ho0)) (Kd.R_base ho1)) (fun _ h_ => h_.1)); replace HO_459001 := Aside0.mk (Kd.R_mono (Kd.R_told (Kd.R_told (Kd.R_old (by (with_reducible repeat first | apply qa | apply qn | apply qd); exact (Kd.R_mono (Kd.R_mono (Kd.R_far (p := ⟨gb487, 1, none⟩) (Kd.R_far (p := ⟨gb487, 0, none⟩) (Kd.R_far (p := ⟨gb486, 1, none⟩) (Kd.R_far (p := ⟨gb486, 0, none⟩) (Kd.R_types (Kd.R_types HO_459001.out BK486.out (by decide)) BK487.out (by decide)) (fun _ hk => hk.1.2) (.bool t477)) (fun _ hk => hk.1.2) (.slice Ao171 t478.length co171)) (fun _ hk => hk.2) (.bool t481)) (fun _ hk => hk.2) (.slice Ao179 t482.length co179)) (fun _ h_ => h_.1)) (fun _ h_ => h_.1))) hb) (Kd.R_base ho0)) (Kd.R_base ho1)) (fun _ h_ => h_.1)); replace HO480 := Aside0.mk (Kd.R_mono (Kd.R_told (Kd.R_told (Kd.R_old (by (with_reducible repeat first | apply qa | apply qn | apply qd); exact (Kd.R_mono (Kd.R_mono (Kd.R_far (p := ⟨gb487, 1, none⟩) (Kd.R_far (p := ⟨gb487, 0, none⟩) (Kd.R_far (p := ⟨gb486, 1, none⟩) (Kd.R_far (p := ⟨gb486, 0, none⟩) (Kd.R_types (Kd.R_types HO480.out BK486.out (by decide)) BK487.out (by decide)) (fun _ hk => hk.1.2) (.bool t477)) (fun _ hk => hk.1.2) (.slice Ao171 t478.length co171)) (fun _ hk => hk.2) (.bool t481)) (fun _ hk => hk.2) (.slice Ao179 t482.length co179)) (fun _ h_ => h_.1)) (fun _ h_ => h_.1))) hb) (Kd.R_base ho0)) (Kd.R_base ho1)) (fun _ h_ => h_.1)); replace HO484 := Aside0.mk (Kd.R_mono (Kd.R_told (Kd.R_told (Kd.R_old (by (with_reducible repeat first | apply qa | apply qn | apply qd); exact (Kd.R_mono (Kd.R_mono (Kd.R_far (p := ⟨gb487, 1, none⟩) (Kd.R_far (p := ⟨gb487, 0, none⟩) (Kd.R_far (p := ⟨gb486, 1, none⟩) (Kd.R_far (p := ⟨gb486, 0, none⟩) (Kd.R_types (Kd.R_types HO484.out BK486.out (by decide)) BK487.out (by decide)) (fun _ hk => hk.1.2) (.bool t477)) (fun _ hk => hk.1.2) (.slice Ao171 t478.length co171)) (fun _ hk => hk.2) (.bool t481)) (fun _ hk => hk.2) (.slice Ao179 t482.length co179)) (fun _ h_ => h_.1)) (fun _ h_ => h_.1))) hb) (Kd.R_base ho0)) (Kd.R_base ho1)) (fun _ h_ => h_.1)); replace BK433 := kb BK433 hb; replace BK434 := kb BK434 hb; replace BK435 := kb BK435 hb; replace BK441 := kb BK441 hb; replace BK451 := kb BK451 hb; replace BK458 := kb BK458 hb; replace BK486 := kb (o' := .cells #[.bool t477, .slice Ao171 t478.length co171] 24 (0, 0)) BK486 hb; replace BK487 := kb (o' := .cells #[.bool t481, .slice Ao179 t482.length co179] 24 (0, 0)) BK487 hb; replace HB := bs HB hb; (try clear hb); (try clear hb2); (try clear hk); (try clear hi); (try clear ho0); (try clear ho1)) | ((with_reducible refine gate_dst (N := 16) rfl ?_); (try (refine gate_guard (by rfl) ?_; dsimp only)); refine bx (N := 16) #[.bool false, .slice none 0 0] 24 ?_; intro gb497 hg w186 hbox hb; replace HO_442001 := rb HO_442001 hb; replace HO_452001 := rb HO_452001 hb; replace HO_459001 := rb HO_459001 hb; replace HO480 := rb HO480 hb; replace HO484 := rb HO484 hb; replace HO491 := rb HO491 hb; replace HO495 := rb HO495 hb; have BK497 := Aside0.mk (hbox); have GW497 := bz hg HB; have GE497 := bz hg HB; replace HB := bs HB hb; have NB433_497 := nl hg BK433; have NB497_433 := ng hg BK433; replace BK433 := kb BK433 hb; have NB434_497 := nl hg BK434; have NB497_434 := ng hg BK434; replace BK434 := kb BK434 hb; have NB435_497 := nl hg BK435; have NB497_435 := ng hg BK435; replace BK435 := kb BK435 hb; have NB441_497 := nl hg BK441; have NB497_441 := ng hg BK441; replace BK441 := kb BK441 hb; have NB451_497 := nl hg BK451; have NB497_451 := ng hg BK451; replace BK451 := kb BK451 hb; have NB458_497 := nl hg BK458; have NB497_458 := ng hg BK458; replace BK458 := kb BK458 hb; have NB486_497 := nl hg BK486; have NB497_486 := ng hg BK486; replace BK486 := kb BK486 hb; have NB487_497 := nl hg BK487; have NB497_487 := ng hg BK487; replace BK487 := kb BK487 hb; clear hb hbox hg) | ((with_reducible refine gate_dst (N := 17) rfl ?_); (try (refine gate_guard (by rfl) ?_; dsimp only)); refine bx (N := 17) #[.bool false, .slice none 0 0] 24 ?_; intro gb498 hg w187 hbox hb; replace HO_442001 := rb HO_442001 hb; replace HO_452001 := rb HO_452001 hb; replace HO_459001 := rb HO_459001 hb; replace HO480 := rb HO480 hb; replace HO484 := rb HO484 hb; replace HO491 := rb HO491 hb; replace HO495 := rb HO495 hb; have BK498 := Aside0.mk (hbox); have GW498 := bz hg HB; have GE498 := bz hg HB; replace HB := bs HB hb; have NB433_498 := nl hg BK433; have NB498_433 := ng hg BK433; replace BK433 := kb BK433 hb; have NB434_498 := nl hg BK434; have NB498_434 := ng hg BK434; have NB435_498 := nl hg BK435; have NB498_435 := ng hg BK435; have NB441_498 := nl hg BK441; have NB498_441 := ng hg BK441; have NB451_498 := nl hg BK451; have NB498_451 := ng hg BK451; have NB458_498 := nl hg BK458; have NB498_458 := ng hg BK458; have NB486_498 := nl hg BK486; have NB498_486 := ng hg BK486; replace BK486 := kb BK486 hb; have NB487_498 := nl hg BK487; have NB498_487 := ng hg BK487; replace BK487 := kb BK487 hb; have NB497_498 := nl hg BK497; have NB498_497 := ng hg BK497; replace BK497 := kb BK497 hb; clear hb hbox hg; have hnb188 := NB497_433.out; have hnc188 := NB433_497.out; have hnb189 := NB497_434.out; have hnc189 := NB434_497.out; have hnb190 := NB497_435.out; have hnc190 := NB435_497.out; have hnb191 := NB497_441.out; have hnc191 := NB441_497.out; have hnb192 := NB497_451.out; have hnc192 := NB451_497.out; have hnb193 := NB497_458.out; have hnc193 := NB458_497.out; have hnb194 := NB497_486.out; have hnc194 := NB486_497.out; have hnb195 := NB497_487.out; have hnc195 := NB487_497.out; have hnb196 := NB497_498.out; have hnc196 := NB498_497.out; have hcz197_0 := bc BK497 0 (.bool false); have hcz197_1 := bc BK497 1 (.slice none 0 0); have hfz197_0 := blk_frozen BK497.out 0; have hfz197_1 := blk_frozen BK497.out 1; obtain ⟨Ao198, co198, eo198⟩ := Kd.R_slice HO491.out; subst eo198; have hnb199 := NB498_433.out; have hnc199 := NB433_498.out; have hnb200 := NB498_434.out; have hnc200 := NB434_498.out; have hnb201 := NB498_435.out; have hnc201 := NB435_498.out; have hnb202 := NB498_441.out; have hnc202 := NB441_498.out; have hnb203 := NB498_451.out; have hnc203 := NB451_498.out; have hnb204 := NB498_458.out; have hnc204 := NB458_498.out; have hnb205 := NB498_486.out; have hnc205 := NB486_498.out; have hnb206 := NB498_487.out; have hnc206 := NB487_498.out; have hcz207_0 := bc BK498 0 (.bool false); have hcz207_1 := bc BK498 1 (.slice none 0 0); have hfz207_0 := blk_frozen BK498.out 0; have hfz207_1 := blk_frozen BK498.out 1; obtain ⟨Ao208, co208, eo208⟩ := Kd.R_slice HO495.out; subst eo208))
               have n0_ : Aside0 (Kd.R (Kd.int .u32) 42 ((((w187.setCell ⟨gb497, 0, none⟩ (.bool t488)).setCell ⟨gb497, 1, none⟩ (.slice Ao198 t489.length co198)).setCell ⟨gb498, 0, none⟩ (.bool t492)).setCell ⟨gb498, 1, none⟩ (.slice Ao208 t493.length co208)) w.heap.size (fun k_ => some k_ ≠ (.slice Ao72 t448.length co72 : Value).ownBlock ∧ some k_ ≠ (.slice Ao88 t454.length co88 : Value).ownBlock ∧ some k_ ≠ (.slice Ao171 t478.length co171 : Value).ownBlock ∧ some k_ ≠ (.slice Ao179 t482.length co179 : Value).ownBlock ∧ some k_ ≠ (.slice Ao198 t489.length co198 : Value).ownBlock ∧ some k_ ≠ (.slice Ao208 t493.length co208 : Value).ownBlock) (.slice Ao15 t437.length co15) t437) := ⟨by (with_reducible repeat first | apply qa | apply qn | apply qd); exact Kd.R_mono (Kd.R_far (p := ⟨gb498, 1, none⟩) (Kd.R_far (p := ⟨gb498, 0, none⟩) (Kd.R_far (p := ⟨gb497, 1, none⟩) (Kd.R_far (p := ⟨gb497, 0, none⟩) (Kd.R_types (Kd.R_types HO_442001.out BK497.out (by decide)) BK498.out (by decide)) (fun _ hk => hk.1.2) (.bool t488)) (fun _ hk => hk.1.2) (.slice Ao198 t489.length co198)) (fun _ hk => hk.2) (.bool t492)) (fun _ hk => hk.2) (.slice Ao208 t493.length co208)) (fun _ hk => ⟨hk.1.1.1.1.1.1.1, ⟨hk.1.1.1.1.1.1.2, ⟨hk.1.1.1.1.1.2, ⟨hk.1.1.1.1.2, ⟨hk.1.1.1.2, hk.1.1.2⟩⟩⟩⟩⟩)⟩
               have n1_ : Aside0 (Kd.R (Kd.int .u32) 42 ((((w187.setCell ⟨gb497, 0, none⟩ (.bool t488)).setCell ⟨gb497, 1, none⟩ (.slice Ao198 t489.length co198)).setCell ⟨gb498, 0, none⟩ (.bool t492)).setCell ⟨gb498, 1, none⟩ (.slice Ao208 t493.length co208)) w.heap.size (fun k_ => some k_ ≠ (.slice Ao15 t437.length co15 : Value).ownBlock ∧ some k_ ≠ (.slice Ao88 t454.length co88 : Value).ownBlock ∧ some k_ ≠ (.slice Ao171 t478.length co171 : Value).ownBlock ∧ some k_ ≠ (.slice Ao179 t482.length co179 : Value).ownBlock ∧ some k_ ≠ (.slice Ao198 t489.length co198 : Value).ownBlock ∧ some k_ ≠ (.slice Ao208 t493.length co208 : Value).ownBlock) (.slice Ao72 t448.length co72) t448) := ⟨by (with_reducible repeat first | apply qa | apply qn | apply qd); exact Kd.R_mono (Kd.R_far (p := ⟨gb498, 1, none⟩) (Kd.R_far (p := ⟨gb498, 0, none⟩) (Kd.R_far (p := ⟨gb497, 1, none⟩) (Kd.R_far (p := ⟨gb497, 0, none⟩) (Kd.R_types (Kd.R_types HO_452001.out BK497.out (by decide)) BK498.out (by decide)) (fun _ hk => hk.1.2) (.bool t488)) (fun _ hk => hk.1.2) (.slice Ao198 t489.length co198)) (fun _ hk => hk.2) (.bool t492)) (fun _ hk => hk.2) (.slice Ao208 t493.length co208)) (fun _ hk => ⟨hk.1.1.1.1.1.1.1, ⟨hk.1.1.1.1.1.1.2, ⟨hk.1.1.1.1.1.2, ⟨hk.1.1.1.1.2, ⟨hk.1.1.1.2, hk.1.1.2⟩⟩⟩⟩⟩)⟩
               have n2_ : Aside0 (Kd.R (Kd.int .u32) 42 ((((w187.setCell ⟨gb497, 0, none⟩ (.bool t488)).setCell ⟨gb497, 1, none⟩ (.slice Ao198 t489.length co198)).setCell ⟨gb498, 0, none⟩ (.bool t492)).setCell ⟨gb498, 1, none⟩ (.slice Ao208 t493.length co208)) w.heap.size (fun k_ => some k_ ≠ (.slice Ao15 t437.length co15 : Value).ownBlock ∧ some k_ ≠ (.slice Ao72 t448.length co72 : Value).ownBlock ∧ some k_ ≠ (.slice Ao171 t478.length co171 : Value).ownBlock ∧ some k_ ≠ (.slice Ao179 t482.length co179 : Value).ownBlock ∧ some k_ ≠ (.slice Ao198 t489.length co198 : Value).ownBlock ∧ some k_ ≠ (.slice Ao208 t493.length co208 : Value).ownBlock) (.slice Ao88 t454.length co88) t454) := ⟨by (with_reducible repeat first | apply qa | apply qn | apply qd); exact Kd.R_mono (Kd.R_far (p := ⟨gb498, 1, none⟩) (Kd.R_far (p := ⟨gb498, 0, none⟩) (Kd.R_far (p := ⟨gb497, 1, none⟩) (Kd.R_far (p := ⟨gb497, 0, none⟩) (Kd.R_types (Kd.R_types HO_459001.out BK497.out (by decide)) BK498.out (by decide)) (fun _ hk => hk.1.2) (.bool t488)) (fun _ hk => hk.1.2) (.slice Ao198 t489.length co198)) (fun _ hk => hk.2) (.bool t492)) (fun _ hk => hk.2) (.slice Ao208 t493.length co208)) (fun _ hk => ⟨hk.1.1.1.1.1.1.1, ⟨hk.1.1.1.1.1.1.2, ⟨hk.1.1.1.1.1.2, ⟨hk.1.1.1.1.2, ⟨hk.1.1.1.2, hk.1.1.2⟩⟩⟩⟩⟩)⟩
               have n3_ : Aside0 (Kd.R (Kd.int .u32) 42 ((((w187.setCell ⟨gb497, 0, none⟩ (.bool t488)).setCell ⟨gb497, 1, none⟩ (.slice Ao198 t489.length co198)).setCell ⟨gb498, 0, none⟩ (.bool t492)).setCell ⟨gb498, 1, none⟩ (.slice Ao208 t493.length co208)) w.heap.size (fun k_ => some k_ ≠ (.slice Ao15 t437.length co15 : Value).ownBlock ∧ some k_ ≠ (.slice Ao72 t448.length co72 : Value).ownBlock ∧ some k_ ≠ (.slice Ao88 t454.length co88 : Value).ownBlock ∧ some k_ ≠ (.slice Ao179 t482.length co179 : Value).ownBlock ∧ some k_ ≠ (.slice Ao198 t489.length co198 : Value).ownBlock ∧ some k_ ≠ (.slice Ao208 t493.length co208 : Value).ownBlock) (.slice Ao171 t478.length co171) t478) := ⟨by (with_reducible repeat first | apply qa | apply qn | apply qd); exact Kd.R_mono (Kd.R_far (p := ⟨gb498, 1, none⟩) (Kd.R_far (p := ⟨gb498, 0, none⟩) (Kd.R_far (p := ⟨gb497, 1, none⟩) (Kd.R_far (p := ⟨gb497, 0, none⟩) (Kd.R_types (Kd.R_types HO480.out BK497.out (by decide)) BK498.out (by decide)) (fun _ hk => hk.1.2) (.bool t488)) (fun _ hk => hk.1.2) (.slice Ao198 t489.length co198)) (fun _ hk => hk.2) (.bool t492)) (fun _ hk => hk.2) (.slice Ao208 t493.length co208)) (fun _ hk => ⟨hk.1.1.1.1.1.1.2, ⟨hk.1.1.1.1.1.2, ⟨hk.1.1.1.1.2, ⟨hk.1.1.1.1.1.1.1, ⟨hk.1.1.1.2, hk.1.1.2⟩⟩⟩⟩⟩)⟩
               have n4_ : Aside0 (Kd.R (Kd.int .u32) 42 ((((w187.setCell ⟨gb497, 0, none⟩ (.bool t488)).setCell ⟨gb497, 1, none⟩ (.slice Ao198 t489.length co198)).setCell ⟨gb498, 0, none⟩ (.bool t492)).setCell ⟨gb498, 1, none⟩ (.slice Ao208 t493.length co208)) w.heap.size (fun k_ => some k_ ≠ (.slice Ao15 t437.length co15 : Value).ownBlock ∧ some k_ ≠ (.slice Ao72 t448.length co72 : Value).ownBlock ∧ some k_ ≠ (.slice Ao88 t454.length co88 : Value).ownBlock ∧ some k_ ≠ (.slice Ao171 t478.length co171 : Value).ownBlock ∧ some k_ ≠ (.slice Ao198 t489.length co198 : Value).ownBlock ∧ some k_ ≠ (.slice Ao208 t493.length co208 : Value).ownBlock) (.slice Ao179 t482.length co179) t482) := ⟨by (with_reducible repeat first | apply qa | apply qn | apply qd); exact Kd.R_mono (Kd.R_far (p := ⟨gb498, 1, none⟩) (Kd.R_far (p := ⟨gb498, 0, none⟩) (Kd.R_far (p := ⟨gb497, 1, none⟩) (Kd.R_far (p := ⟨gb497, 0, none⟩) (Kd.R_types (Kd.R_types HO484.out BK497.out (by decide)) BK498.out (by decide)) (fun _ hk => hk.1.2) (.bool t488)) (fun _ hk => hk.1.2) (.slice Ao198 t489.length co198)) (fun _ hk => hk.2) (.bool t492)) (fun _ hk => hk.2) (.slice Ao208 t493.length co208)) (fun _ hk => ⟨hk.1.1.1.1.1.1.2, ⟨hk.1.1.1.1.1.2, ⟨hk.1.1.1.1.2, ⟨hk.1.1.1.1.1.1.1, ⟨hk.1.1.1.2, hk.1.1.2⟩⟩⟩⟩⟩)⟩
               have n5_ : Aside0 (Kd.R (Kd.int .u32) 42 ((((w187.setCell ⟨gb497, 0, none⟩ (.bool t488)).setCell ⟨gb497, 1, none⟩ (.slice Ao198 t489.length co198)).setCell ⟨gb498, 0, none⟩ (.bool t492)).setCell ⟨gb498, 1, none⟩ (.slice Ao208 t493.length co208)) w.heap.size (fun k_ => some k_ ≠ (.slice Ao15 t437.length co15 : Value).ownBlock ∧ some k_ ≠ (.slice Ao72 t448.length co72 : Value).ownBlock ∧ some k_ ≠ (.slice Ao88 t454.length co88 : Value).ownBlock ∧ some k_ ≠ (.slice Ao171 t478.length co171 : Value).ownBlock ∧ some k_ ≠ (.slice Ao179 t482.length co179 : Value).ownBlock ∧ some k_ ≠ (.slice Ao208 t493.length co208 : Value).ownBlock) (.slice Ao198 t489.length co198) t489) := ⟨by (with_reducible repeat first | apply qa | apply qn | apply qd); exact Kd.R_mono (Kd.R_far (p := ⟨gb498, 1, none⟩) (Kd.R_far (p := ⟨gb498, 0, none⟩) (Kd.R_far (p := ⟨gb497, 1, none⟩) (Kd.R_far (p := ⟨gb497, 0, none⟩) (Kd.R_types (Kd.R_types HO491.out BK497.out (by decide)) BK498.out (by decide)) (fun _ hk => hk.1.2) (.bool t488)) (fun _ hk => hk.1.2) (.slice Ao198 t489.length co198)) (fun _ hk => hk.2) (.bool t492)) (fun _ hk => hk.2) (.slice Ao208 t493.length co208)) (fun _ hk => ⟨hk.1.1.1.1.1.1.2, ⟨hk.1.1.1.1.1.2, ⟨hk.1.1.1.1.2, ⟨hk.1.1.1.2, ⟨hk.1.1.2, hk.1.1.1.1.1.1.1⟩⟩⟩⟩⟩)⟩
               have n6_ : Aside0 (Kd.R (Kd.int .u32) 42 ((((w187.setCell ⟨gb497, 0, none⟩ (.bool t488)).setCell ⟨gb497, 1, none⟩ (.slice Ao198 t489.length co198)).setCell ⟨gb498, 0, none⟩ (.bool t492)).setCell ⟨gb498, 1, none⟩ (.slice Ao208 t493.length co208)) w.heap.size (fun k_ => some k_ ≠ (.slice Ao15 t437.length co15 : Value).ownBlock ∧ some k_ ≠ (.slice Ao72 t448.length co72 : Value).ownBlock ∧ some k_ ≠ (.slice Ao88 t454.length co88 : Value).ownBlock ∧ some k_ ≠ (.slice Ao171 t478.length co171 : Value).ownBlock ∧ some k_ ≠ (.slice Ao179 t482.length co179 : Value).ownBlock ∧ some k_ ≠ (.slice Ao198 t489.length co198 : Value).ownBlock) (.slice Ao208 t493.length co208) t493) := ⟨by (with_reducible repeat first | apply qa | apply qn | apply qd); exact Kd.R_mono (Kd.R_far (p := ⟨gb498, 1, none⟩) (Kd.R_far (p := ⟨gb498, 0, none⟩) (Kd.R_far (p := ⟨gb497, 1, none⟩) (Kd.R_far (p := ⟨gb497, 0, none⟩) (Kd.R_types (Kd.R_types HO495.out BK497.out (by decide)) BK498.out (by decide)) (fun _ hk => hk.1.2) (.bool t488)) (fun _ hk => hk.1.2) (.slice Ao198 t489.length co198)) (fun _ hk => hk.2) (.bool t492)) (fun _ hk => hk.2) (.slice Ao208 t493.length co208)) (fun _ hk => ⟨hk.1.1.1.1.1.1.2, ⟨hk.1.1.1.1.1.2, ⟨hk.1.1.1.1.2, ⟨hk.1.1.1.2, ⟨hk.1.1.2, hk.1.1.1.1.1.1.1⟩⟩⟩⟩⟩)⟩
               have n7_ : Aside0 (((((w187.setCell ⟨gb497, 0, none⟩ (.bool t488)).setCell ⟨gb497, 1, none⟩ (.slice Ao198 t489.length co198)).setCell ⟨gb498, 0, none⟩ (.bool t492)).setCell ⟨gb498, 1, none⟩ (.slice Ao208 t493.length co208)).heap[gb433]? = some (.cells #[.bool a0_0, .slice A0_1 l0_1.length c0_1] 24 (0, 0))) := ⟨tk BK433⟩
               have n13_ : Aside0 (((((w187.setCell ⟨gb497, 0, none⟩ (.bool t488)).setCell ⟨gb497, 1, none⟩ (.slice Ao198 t489.length co198)).setCell ⟨gb498, 0, none⟩ (.bool t492)).setCell ⟨gb498, 1, none⟩ (.slice Ao208 t493.length co208)).heap[gb486]? = some (.cells #[.bool t477, .slice Ao171 t478.length co171] 24 (0, 0))) := ⟨tk BK486⟩
               have n14_ : Aside0 (((((w187.setCell ⟨gb497, 0, none⟩ (.bool t488)).setCell ⟨gb497, 1, none⟩ (.slice Ao198 t489.length co198)).setCell ⟨gb498, 0, none⟩ (.bool t492)).setCell ⟨gb498, 1, none⟩ (.slice Ao208 t493.length co208)).heap[gb487]? = some (.cells #[.bool t481, .slice Ao179 t482.length co179] 24 (0, 0))) := ⟨tk BK487⟩
               have n15_ : Aside0 (((((w187.setCell ⟨gb497, 0, none⟩ (.bool t488)).setCell ⟨gb497, 1, none⟩ (.slice Ao198 t489.length co198)).setCell ⟨gb498, 0, none⟩ (.bool t492)).setCell ⟨gb498, 1, none⟩ (.slice Ao208 t493.length co208)).heap[gb497]? = some (.cells #[.bool t488, .slice Ao198 t489.length co198] 24 (0, 0))) := ⟨tk BK497⟩
               have n16_ : Aside0 (((((w187.setCell ⟨gb497, 0, none⟩ (.bool t488)).setCell ⟨gb497, 1, none⟩ (.slice Ao198 t489.length co198)).setCell ⟨gb498, 0, none⟩ (.bool t492)).setCell ⟨gb498, 1, none⟩ (.slice Ao208 t493.length co208)).heap[gb498]? = some (.cells #[.bool t492, .slice Ao208 t493.length co208] 24 (0, 0))) := ⟨tk BK498⟩
               have n17_ : Aside0 (Below w.heap.size w ((((w187.setCell ⟨gb497, 0, none⟩ (.bool t488)).setCell ⟨gb497, 1, none⟩ (.slice Ao198 t489.length co198)).setCell ⟨gb498, 0, none⟩ (.bool t492)).setCell ⟨gb498, 1, none⟩ (.slice Ao208 t493.length co208))) := ⟨tb HB⟩
               (try clear HO_442001); (try clear HO_452001); (try clear HO_459001); (try clear HO480); (try clear HO484); (try clear HO491); (try clear HO495); (try clear BK433); (try clear BK434); (try clear BK435); (try clear BK441); (try clear BK451); (try clear BK458); (try clear BK486); (try clear BK487); (try clear BK497); (try clear BK498); (try clear HB)
               generalize ((((w187.setCell ⟨gb497, 0, none⟩ (.bool t488)).setCell ⟨gb497, 1, none⟩ (.slice Ao198 t489.length co198)).setCell ⟨gb498, 0, none⟩ (.bool t492)).setCell ⟨gb498, 1, none⟩ (.slice Ao208 t493.length co208)) = w209 at n0_ n1_ n2_ n3_ n4_ n5_ n6_ n7_ n13_ n14_ n15_ n16_ n17_ ⊢
               have HO_442001 := n0_
               have HO_452001 := n1_
               have HO_459001 := n2_
               have HO480 := n3_
               have HO484 := n4_
               have HO491 := n5_
               have HO495 := n6_
               have BK433 := n7_
               have BK486 := n13_
               have BK487 := n14_
               have BK497 := n15_
               have BK498 := n16_
               have HB := n17_
               clear n0_ n1_ n2_ n3_ n4_ n5_ n6_ n7_ n13_ n14_ n15_ n16_ n17_
               replace HO_442001 := Aside0.mk (Kd.R_drew HO_442001.out)
               replace HO_452001 := Aside0.mk (Kd.R_drew HO_452001.out)
               replace HO_459001 := Aside0.mk (Kd.R_drew HO_459001.out)
               replace HO480 := Aside0.mk (Kd.R_drew HO480.out)
               replace HO484 := Aside0.mk (Kd.R_drew HO484.out)
               replace HO491 := Aside0.mk (Kd.R_drew HO491.out)
               replace HO495 := Aside0.mk (Kd.R_drew HO495.out)
               replace BK433 := Aside0.mk (blk_drew BK433.out)
               replace BK486 := Aside0.mk (blk_drew BK486.out)
               replace BK487 := Aside0.mk (blk_drew BK487.out)
               replace BK497 := Aside0.mk (blk_drew BK497.out)
               replace BK498 := Aside0.mk (blk_drew BK498.out)
               replace HB := Aside0.mk (below_drew1 HB.out)
               refine start_ (n := 21) (S := fun w' => w'.cell? ⟨gb487, 0, none⟩ = some (.bool t481) ∧ w'.cell? ⟨gb487, 1, none⟩ = some (.slice Ao179 t482.length co179) ∧ w'.cell? ⟨gb498, 0, none⟩ = some (.bool t492) ∧ w'.cell? ⟨gb498, 1, none⟩ = some (.slice Ao208 t493.length co208) ∧ w'.cell? ⟨gb486, 0, none⟩ = some (.bool t477) ∧ w'.cell? ⟨gb486, 1, none⟩ = some (.slice Ao171 t478.length co171) ∧ w'.cell? ⟨gb433, 0, none⟩ = some (.bool a0_0) ∧ w'.cell? ⟨gb433, 1, none⟩ = some (.slice A0_1 l0_1.length c0_1) ∧ w'.cell? ⟨gb497, 0, none⟩ = some (.bool t488) ∧ w'.cell? ⟨gb497, 1, none⟩ = some (.slice Ao198 t489.length co198)) (ds := []) #[false, false, false, false, false, false, false, false, false, false, false, false, false, false, false, false, false, false, false, false, false] (by kernel_rfl) rfl rfl ⟨(blk_cell BK487.out 0).trans rfl, (blk_cell BK487.out 1).trans rfl, (blk_cell BK498.out 0).trans rfl, (blk_cell BK498.out 1).trans rfl, (blk_cell BK486.out 0).trans rfl, (blk_cell BK486.out 1).trans rfl, (blk_cell BK433.out 0).trans rfl, (blk_cell BK433.out 1).trans rfl, (blk_cell BK497.out 0).trans rfl, (blk_cell BK497.out 1).trans rfl⟩ (fun hHeld => ?_); refine with_tabW whetstonetop_TopNumbers.tab15 whetstonetop_TopNumbers.bits15 (fun HT_ HW_ => ?_)
               generalize w209.drew = w210 at HO_442001 HO_452001 HO_459001 HO480 HO484 HO491 HO495 BK433 BK486 BK487 BK497 BK498 HB hHeld ⊢
               refine pT (i := 0) (N := some 126) (bb 21 1) HT_ ?_
               refine pT (i := 1) (N := some 127) (bb 21 3) HT_ ?_
               refine pT (i := 2) (N := some 128) (bb 21 7) HT_ ?_
               refine pT (i := 3) (N := some 129) (bb 21 15) HT_ ?_
               refine pT (i := 4) (N := some 130) (bb 21 31) HT_ ?_
               refine pT (i := 5) (N := some 131) (bb 21 63) HT_ ?_
               refine pT (i := 6) (N := some 132) (bb 21 127) HT_ ?_
               refine tW (i := 7) (N := some 133) (bb 21 255) HT_ HW_ hHeld ?_
               refine tW (i := 8) (N := some 134) (bb 21 511) HT_ HW_ hHeld ?_
               refine oT (i := 9) (N := some 135) (bb 21 1023) HT_ fun K hK => ?_
               refine gS Try.func10 #[.agg #[.bool t481, .slice Ao179 t482.length co179], .agg #[.bool t492, .slice Ao208 t493.length co208]] ?_
               with_reducible refine (big_Cmp.calls kj63 t481 _ _ t482 t492 _ _ t493 t499 _ ?side1 ?side2 ?side3 ?side4 A143.out).mono ?_
               (case side1 => exact tc (Kd.R_reads' HO484.out).2.2)
               (case side2 => exact (Kd.R_reads' HO484.out).2.1)
               (case side3 => exact tc (Kd.R_reads' HO495.out).2.2)
               (case side4 => exact (Kd.R_reads' HO495.out).2.1)
               rintro e w211 ⟨rfl, hb⟩
               refine ⟨_, rfl, ?_⟩
               replace HO_442001 := rb HO_442001 hb
               replace HO_452001 := rb HO_452001 hb
               replace HO_459001 := rb HO_459001 hb
               replace HO480 := rb HO480 hb
               replace HO484 := rb HO484 hb
               replace HO491 := rb HO491 hb
               replace HO495 := rb HO495 hb
               replace BK433 := kb BK433 hb
               replace BK486 := kb BK486 hb
               replace BK487 := kb BK487 hb
               replace BK497 := kb BK497 hb
               replace BK498 := kb BK498 hb
               replace HB := bs HB hb
               (try clear hb); (try clear hb2); (try clear hk); (try clear hi)
               refine hK.out _ _ held fun hHeld => nT (N := some 135) ?_
               clear hK K
               refine pT (i := 10) (N := some 136) (bb 21 2047) HT_ ?_
               refine pT (i := 11) (N := some 137) (bb 21 4095) HT_ ?_
               refine pT (i := 12) (N := some 138) (bb 21 8191) HT_ ?_
               refine tW (i := 13) (N := some 139) (bb 21 16383) HT_ HW_ hHeld ?_
               refine tW (i := 14) (N := some 140) (bb 21 32767) HT_ HW_ hHeld ?_
               refine tW (i := 15) (N := some 141) (bb 21 65535) HT_ HW_ hHeld ?_
               refine oT (i := 16) (N := some 142) (bb 21 131071) HT_ fun K hK => ?_
               refine gS Try.func6 #[.agg #[.bool a0_0, .slice A0_1 l0_1.length c0_1], .agg #[.bool t488, .slice Ao198 t489.length co198]] ?_
               with_reducible refine (big_Add.calls kj63 a0_0 _ _ l0_1 t488 _ _ t489 t500 t501 _ ?side1 ?side2 ?side3 ?side4 A145.out).mono ?_
               (case side1 => exact tc (Kd.C_below HR0_1.out HB.out))
               (case side2 => exact HC0_1.out)
               (case side3 => exact tc (Kd.R_reads' HO491.out).2.2)
               (case side4 => exact (Kd.R_reads' HO491.out).2.1)
               rintro e w212 ⟨v502, rfl, ho0, hb⟩
               refine ⟨_, rfl, ?_⟩
               have HO503 := Aside0.mk (Kd.R_lower (Kd.R_new' (Kd.R_new' (Kd.R_new' (Kd.R_new' (Kd.R_new' (Kd.R_new' (Kd.R_new' ho0 (Kd.R_lt (tq HO_442001))) (Kd.R_lt (tq HO_452001))) (Kd.R_lt (tq HO_459001))) (Kd.R_lt (tq HO480))) (Kd.R_lt (tq HO484))) (Kd.R_lt (tq HO491))) (Kd.R_lt (tq HO495))) (below_size (tb HB)))
               replace HO480 := re HO480 (Kd.R_base ho0) hb
               replace BK433 := kb BK433 hb
               replace BK486 := kb BK486 hb
               replace BK487 := kb BK487 hb
               replace BK497 := kb BK497 hb
               replace BK498 := kb BK498 hb
               replace HB := bs HB hb
               (try clear hb); (try clear hb2); (try clear hk); (try clear hi); (try clear ho0)
               obtain ⟨Ao213, co213, eo213⟩ := Kd.R_slice HO503.out
               (first | subst eo213 | (injection eo213 with f1_ f2_ f3_; have f4_ := f1_.symm; have f5_ := f3_.symm; clear f1_ f2_ f3_; subst f4_; subst f5_))
               refine hK.out _ _ held fun hHeld => nT (N := some 142) ?_
               clear hK K
               refine oT (i := 17) (N := some 143) (bb 21 262143) HT_ fun K hK => ?_
               refine gS Try.func10 #[.agg #[.bool t477, .slice Ao171 t478.length co171], .agg #[.bool t500, .slice Ao213 t501.length co213]] ?_
               with_reducible refine (big_Cmp.calls kj63 t477 _ _ t478 t500 _ _ t501 t504 _ ?side1 ?side2 ?side3 ?side4 A146.out).mono ?_
               (case side1 => exact tc (Kd.R_reads' HO480.out).2.2)
               (case side2 => exact (Kd.R_reads' HO480.out).2.1)
               (case side3 => exact tc (Kd.R_reads' HO503.out).2.2)
               (case side4 => exact (Kd.R_reads' HO503.out).2.1)
               rintro e w214 ⟨rfl, hb⟩
               refine ⟨_, rfl, ?_⟩
               replace BK433 := kb BK433 hb
               replace BK486 := kb BK486 hb
               replace BK487 := kb BK487 hb
               replace BK497 := kb BK497 hb
               replace BK498 := kb BK498 hb
               replace HB := bs HB hb
               (try clear hb); (try clear hb2); (try clear hk); (try clear hi)
               refine hK.out _ _ held fun hHeld => nT (N := some 143) ?_
               clear hK K
               refine pT (i := 18) (N := some 144) (bb 21 524287) HT_ ?_
               refine pT (i := 19) (N := some 145) (bb 21 1048575) HT_ ?_
               refine pT (i := 20) (N := some 6) (bb 21 2097151) HT_ ?_
               refine done_ (done_of HT_.out (by kernel_rfl)) ?_
               try go_wp2
               go_ret
               exact ⟨by first | rfl | (simp [errW_none, errW_some] <;> rfl) | (simp [*, errW_none, errW_some] <;> rfl), tb HB⟩
              ·rw [if_neg c144] at H
               exact absurd H (by simp)
             ·rw [if_neg c142] at H
              exact absurd H (by simp)
            ·rw [if_neg c141] at H
             exact absurd H (by simp)

       intro hCont
       refine two_ (i := 2) (j := 5) (Ni := some 60) (Nj := some 9) (bb 7 15) (bb 7 43) rfl rfl rfl rfl (by kernel_rfl) (by decide) (by decide) (fun K hK => ?_) (fun K hK => ?_)
       ·skip
        refine gS Try.func7 #[.agg #[.bool a0_0, .slice A0_1 l0_1.length c0_1], .agg #[.bool a1_0, .slice A1_1 l1_1.length c1_1]] ?_
        with_reducible refine (big_Mul.calls kj33 a0_0 _ _ l0_1 a1_0 _ _ l1_1 t443 t444 _ ?side1 ?side2 ?side3 ?side4 A58.out).mono ?_
        (case side1 => exact tc (Kd.C_below HR0_1.out HB.out))
        (case side2 => exact HC0_1.out)
        (case side3 => exact tc (Kd.C_below HR1_1.out HB.out))
        (case side4 => exact HC1_1.out)
        rintro e w66 ⟨v445, rfl, ho0, hb⟩
        refine ⟨_, rfl, ?_⟩
        have HO446 := Aside0.mk (Kd.R_lower (Kd.R_new' ho0 (Kd.R_lt (tq HO_442001))) (below_size (tb HB)))
        replace HO_442001 := re HO_442001 (Kd.R_base ho0) hb
        replace BK433 := kb BK433 hb
        replace BK434 := kb BK434 hb
        replace BK435 := kb BK435 hb
        replace BK441 := kb BK441 hb
        replace HB := bs HB hb
        (try clear hb); (try clear hb2); (try clear hk); (try clear hi); (try clear ho0)
        obtain ⟨Ao67, co67, eo67⟩ := Kd.R_slice HO446.out
        (first | subst eo67 | (injection eo67 with f1_ f2_ f3_; have f4_ := f1_.symm; have f5_ := f3_.symm; clear f1_ f2_ f3_; subst f4_; subst f5_))
        refine hK.out _ _ held fun hHeld => nT (N := some 60) ?_
        clear hK K
        refine two_ (i := 4) (j := 5) (Ni := some 62) (Nj := some 9) (bb 7 31) (bb 7 47) rfl rfl rfl rfl (by kernel_rfl) (by decide) (by decide) (fun K hK => ?_) (fun K hK => ?_)
        ·skip
         refine gS Try.func6 #[.agg #[.bool t443, .slice Ao67 t444.length co67], .agg #[.bool a2_0, .slice A2_1 l2_1.length c2_1]] ?_
         with_reducible refine (big_Add.calls kj33 t443 _ _ t444 a2_0 _ _ l2_1 t447 t448 _ ?side1 ?side2 ?side3 ?side4 A59.out).mono ?_
         (case side1 => exact tc (Kd.R_reads' HO446.out).2.2)
         (case side2 => exact (Kd.R_reads' HO446.out).2.1)
         (case side3 => exact tc (Kd.C_below HR2_1.out HB.out))
         (case side4 => exact HC2_1.out)
         rintro e w68 ⟨v449, rfl, ho0, hb⟩
         refine ⟨_, rfl, ?_⟩
         have HO450 := Aside0.mk (Kd.R_lower (Kd.R_new' (Kd.R_new' ho0 (Kd.R_lt (tq HO_442001))) (Kd.R_lt (tq HO446))) (below_size (tb HB)))
         replace HO_442001 := re HO_442001 (Kd.R_base ho0) hb
         replace HO446 := re HO446 (Kd.R_base ho0) hb
         replace BK433 := kb BK433 hb
         replace BK434 := kb BK434 hb
         replace BK435 := kb BK435 hb
         replace BK441 := kb BK441 hb
         replace HB := bs HB hb
         (try clear hb); (try clear hb2); (try clear hk); (try clear hi); (try clear ho0)
         refine hK.out _ _ held fun hHeld => nT (N := some 62) ?_
         clear hK K
         refine o0 (i := 5) (N := some 9) (bb 7 63) fun K hK => ?_
         refine box_step ?hg (N := 9) ?hd (cs := #[.bool false, .slice none 0 0]) (t := 24) ?hr ?_; (case hd => rfl); (case hg => rfl); (case hr => first | (go_simp; done) | (go_simp; rfl))
         intro gb451 hg w69 hbox hb
         replace HO_442001 := rb HO_442001 hb
         replace HO446 := rb HO446 hb
         replace HO450 := rb HO450 hb
         have BK451 := Aside0.mk (hbox)
         have GW451 := bz hg HB
         have GE451 := bz hg HB
         replace HB := bs HB hb
         have NB433_451 := nl hg BK433
         have NB451_433 := ng hg BK433
         replace BK433 := kb BK433 hb
         have NB434_451 := nl hg BK434
         have NB451_434 := ng hg BK434
         replace BK434 := kb BK434 hb
         have NB435_451 := nl hg BK435
         have NB451_435 := ng hg BK435
         replace BK435 := kb BK435 hb
         have NB441_451 := nl hg BK441
         have NB451_441 := ng hg BK441
         replace BK441 := kb BK441 hb
         clear hb hbox hg
         refine hK.out _ _ held fun hHeld => nT (N := some 9) ?_
         clear hK K
         exact nJ (hCont (.slice Ao67 t444.length co67, v449, gb451) _ ⟨hHeld, ⟨by (with_reducible repeat first | apply qa | apply qn | apply qd); exact Kd.R_mono HO446.out (fun _ hk => ⟨hk.2, hk.1.2⟩)⟩, ⟨by (with_reducible repeat first | apply qa | apply qn | apply qd); exact Kd.R_mono HO450.out (fun _ hk => ⟨hk.2, hk.1.2⟩)⟩, ⟨by (with_reducible repeat first | apply qa | apply qn | apply qd); exact Kd.R_mono HO_442001.out (fun _ hk => ⟨hk.1.2, hk.2⟩)⟩, ⟨tk BK433⟩, ⟨tk BK434⟩, ⟨tk BK435⟩, ⟨tk BK441⟩, ⟨tk BK451⟩, GW451, GE451, NB433_451, NB451_433, NB434_451, NB451_434, NB435_451, NB451_435, NB441_451, NB451_441, ⟨tb HB⟩⟩)
        ·skip
         refine box_step ?hg (N := 9) ?hd (cs := #[.bool false, .slice none 0 0]) (t := 24) ?hr ?_; (case hd => rfl); (case hg => rfl); (case hr => first | (go_simp; done) | (go_simp; rfl))
         intro gb451 hg w67 hbox hb
         replace HO_442001 := rb HO_442001 hb
         replace HO446 := rb HO446 hb
         have BK451 := Aside0.mk (hbox)
         have GW451 := bz hg HB
         have GE451 := bz hg HB
         replace HB := bs HB hb
         have NB433_451 := nl hg BK433
         have NB451_433 := ng hg BK433
         replace BK433 := kb BK433 hb
         have NB434_451 := nl hg BK434
         have NB451_434 := ng hg BK434
         replace BK434 := kb BK434 hb
         have NB435_451 := nl hg BK435
         have NB451_435 := ng hg BK435
         replace BK435 := kb BK435 hb
         have NB441_451 := nl hg BK441
         have NB451_441 := ng hg BK441
         replace BK441 := kb BK441 hb
         clear hb hbox hg
         obtain ⟨Ao68, co68, eo68⟩ := Kd.R_slice HO446.out
         (first | subst eo68 | (injection eo68 with f1_ f2_ f3_; have f4_ := f1_.symm; have f5_ := f3_.symm; clear f1_ f2_ f3_; subst f4_; subst f5_))
         refine hK.out _ _ held fun hHeld => nT (N := some 9) ?_
         clear hK K
         refine o0 (i := 4) (N := some 62) (bb 7 63) fun K hK => ?_
         refine gS Try.func6 #[.agg #[.bool t443, .slice Ao68 t444.length co68], .agg #[.bool a2_0, .slice A2_1 l2_1.length c2_1]] ?_
         with_reducible refine (big_Add.calls kj33 t443 _ _ t444 a2_0 _ _ l2_1 t447 t448 _ ?side1 ?side2 ?side3 ?side4 A59.out).mono ?_
         (case side1 => exact tc (Kd.R_reads' HO446.out).2.2)
         (case side2 => exact (Kd.R_reads' HO446.out).2.1)
         (case side3 => exact tc (Kd.C_below HR2_1.out HB.out))
         (case side4 => exact HC2_1.out)
         rintro e w69 ⟨v449, rfl, ho0, hb⟩
         refine ⟨_, rfl, ?_⟩
         have HO450 := Aside0.mk (Kd.R_lower (Kd.R_new' (Kd.R_new' ho0 (Kd.R_lt (tq HO_442001))) (Kd.R_lt (tq HO446))) (below_size (tb HB)))
         replace HO_442001 := re HO_442001 (Kd.R_base ho0) hb
         replace HO446 := re HO446 (Kd.R_base ho0) hb
         replace BK433 := kb BK433 hb
         replace BK434 := kb BK434 hb
         replace BK435 := kb BK435 hb
         replace BK441 := kb BK441 hb
         replace BK451 := kb BK451 hb
         replace HB := bs HB hb
         (try clear hb); (try clear hb2); (try clear hk); (try clear hi); (try clear ho0)
         refine hK.out _ _ held fun hHeld => nT (N := some 62) ?_
         clear hK K
         exact nJ (hCont (.slice Ao68 t444.length co68, v449, gb451) _ ⟨hHeld, ⟨by (with_reducible repeat first | apply qa | apply qn | apply qd); exact Kd.R_mono HO446.out (fun _ hk => ⟨hk.2, hk.1.2⟩)⟩, ⟨by (with_reducible repeat first | apply qa | apply qn | apply qd); exact Kd.R_mono HO450.out (fun _ hk => ⟨hk.2, hk.1.2⟩)⟩, ⟨by (with_reducible repeat first | apply qa | apply qn | apply qd); exact Kd.R_mono HO_442001.out (fun _ hk => ⟨hk.1.2, hk.2⟩)⟩, ⟨tk BK433⟩, ⟨tk BK434⟩, ⟨tk BK435⟩, ⟨tk BK441⟩, ⟨tk BK451⟩, GW451, GE451, NB433_451, NB451_433, NB434_451, NB451_434, NB435_451, NB451_435, NB441_451, NB451_441, ⟨tb HB⟩⟩)
       ·skip
        refine box_step ?hg (N := 9) ?hd (cs := #[.bool false, .slice none 0 0]) (t := 24) ?hr ?_; (case hd => rfl); (case hg => rfl); (case hr => first | (go_simp; done) | (go_simp; rfl))
        intro gb451 hg w66 hbox hb
        replace HO_442001 := rb HO_442001 hb
        have BK451 := Aside0.mk (hbox)
        have GW451 := bz hg HB
        have GE451 := bz hg HB
        replace HB := bs HB hb
        have NB433_451 := nl hg BK433
        have NB451_433 := ng hg BK433
        replace BK433 := kb BK433 hb
        have NB434_451 := nl hg BK434
        have NB451_434 := ng hg BK434
        replace BK434 := kb BK434 hb
        have NB435_451 := nl hg BK435
        have NB451_435 := ng hg BK435
        replace BK435 := kb BK435 hb
        have NB441_451 := nl hg BK441
        have NB451_441 := ng hg BK441
        replace BK441 := kb BK441 hb
        clear hb hbox hg
        refine hK.out _ _ held fun hHeld => nT (N := some 9) ?_
        clear hK K
        refine o0 (i := 2) (N := some 60) (bb 7 47) fun K hK => ?_
        refine gS Try.func7 #[.agg #[.bool a0_0, .slice A0_1 l0_1.length c0_1], .agg #[.bool a1_0, .slice A1_1 l1_1.length c1_1]] ?_
        with_reducible refine (big_Mul.calls kj33 a0_0 _ _ l0_1 a1_0 _ _ l1_1 t443 t444 _ ?side1 ?side2 ?side3 ?side4 A58.out).mono ?_
        (case side1 => exact tc (Kd.C_below HR0_1.out HB.out))
        (case side2 => exact HC0_1.out)
        (case side3 => exact tc (Kd.C_below HR1_1.out HB.out))
        (case side4 => exact HC1_1.out)
        rintro e w67 ⟨v445, rfl, ho0, hb⟩
        refine ⟨_, rfl, ?_⟩
        have HO446 := Aside0.mk (Kd.R_lower (Kd.R_new' ho0 (Kd.R_lt (tq HO_442001))) (below_size (tb HB)))
        replace HO_442001 := re HO_442001 (Kd.R_base ho0) hb
        replace BK433 := kb BK433 hb
        replace BK434 := kb BK434 hb
        replace BK435 := kb BK435 hb
        replace BK441 := kb BK441 hb
        replace BK451 := kb BK451 hb
        replace HB := bs HB hb
        (try clear hb); (try clear hb2); (try clear hk); (try clear hi); (try clear ho0)
        obtain ⟨Ao68, co68, eo68⟩ := Kd.R_slice HO446.out
        (first | subst eo68 | (injection eo68 with f1_ f2_ f3_; have f4_ := f1_.symm; have f5_ := f3_.symm; clear f1_ f2_ f3_; subst f4_; subst f5_))
        refine hK.out _ _ held fun hHeld => nT (N := some 60) ?_
        clear hK K
        refine o0 (i := 4) (N := some 62) (bb 7 63) fun K hK => ?_
        refine gS Try.func6 #[.agg #[.bool t443, .slice Ao68 t444.length co68], .agg #[.bool a2_0, .slice A2_1 l2_1.length c2_1]] ?_
        with_reducible refine (big_Add.calls kj33 t443 _ _ t444 a2_0 _ _ l2_1 t447 t448 _ ?side1 ?side2 ?side3 ?side4 A59.out).mono ?_
        (case side1 => exact tc (Kd.R_reads' HO446.out).2.2)
        (case side2 => exact (Kd.R_reads' HO446.out).2.1)
        (case side3 => exact tc (Kd.C_below HR2_1.out HB.out))
        (case side4 => exact HC2_1.out)
        rintro e w69 ⟨v449, rfl, ho0, hb⟩
        refine ⟨_, rfl, ?_⟩
        have HO450 := Aside0.mk (Kd.R_lower (Kd.R_new' (Kd.R_new' ho0 (Kd.R_lt (tq HO_442001))) (Kd.R_lt (tq HO446))) (below_size (tb HB)))
        replace HO_442001 := re HO_442001 (Kd.R_base ho0) hb
        replace HO446 := re HO446 (Kd.R_base ho0) hb
        replace BK433 := kb BK433 hb
        replace BK434 := kb BK434 hb
        replace BK435 := kb BK435 hb
        replace BK441 := kb BK441 hb
        replace BK451 := kb BK451 hb
        replace HB := bs HB hb
        (try clear hb); (try clear hb2); (try clear hk); (try clear hi); (try clear ho0)
        refine hK.out _ _ held fun hHeld => nT (N := some 62) ?_
        clear hK K
        exact nJ (hCont (.slice Ao68 t444.length co68, v449, gb451) _ ⟨hHeld, ⟨by (with_reducible repeat first | apply qa | apply qn | apply qd); exact Kd.R_mono HO446.out (fun _ hk => ⟨hk.2, hk.1.2⟩)⟩, ⟨by (with_reducible repeat first | apply qa | apply qn | apply qd); exact Kd.R_mono HO450.out (fun _ hk => ⟨hk.2, hk.1.2⟩)⟩, ⟨by (with_reducible repeat first | apply qa | apply qn | apply qd); exact Kd.R_mono HO_442001.out (fun _ hk => ⟨hk.1.2, hk.2⟩)⟩, ⟨tk BK433⟩, ⟨tk BK434⟩, ⟨tk BK435⟩, ⟨tk BK441⟩, ⟨tk BK451⟩, GW451, GE451, NB433_451, NB451_433, NB434_451, NB451_434, NB435_451, NB451_435, NB441_451, NB451_441, ⟨tb HB⟩⟩)
/-- THE ONE PURE STATEMENT of whetstonetop_TopNumbers: yours. -/
def whetstonetop_TopNumbers.Pure : Prop := ∀ (a0_0 : Bool) (l0_1 : List Int) (a1_0 : Bool) (l1_1 : List Int) (a2_0 : Bool) (l2_1 : List Int), l0_1.length ≤ maxLen → (∀ x ∈ l0_1, (Lit.int .u32 x).wf = true) → l1_1.length ≤ maxLen → (∀ x ∈ l1_1, (Lit.int .u32 x).wf = true) → l2_1.length ≤ maxLen → (∀ x ∈ l2_1, (Lit.int .u32 x).wf = true) → ∃ k, whetstonetop_TopNumbers.f k a0_0 l0_1 a1_0 l1_1 a2_0 l2_1 = some true
theorem whetstonetop_TopNumbers.walk (P : whetstonetop_TopNumbers.Pure) (a0_0 : Bool) (A0_1 : Option Addr) (n0_1 c0_1 : Nat) (z0_1 : List Int) (a1_0 : Bool) (A1_1 : Option Addr) (n1_1 c1_1 : Nat) (z1_1 : List Int) (a2_0 : Bool) (A2_1 : Option Addr) (n2_1 c2_1 : Nat) (z2_1 : List Int) (w : World) (w0_1 : (A0_1 = none ∧ n0_1 = 0 ∧ c0_1 = 0 ∧ z0_1 = []) ∨ ∃ x, A0_1 = some x ∧ n0_1 ≤ c0_1 ∧ c0_1 ≤ maxLen ∧ z0_1.length = c0_1 ∧ (∀ i, i < z0_1.length → w.cell? (x.add i) = some (.int .u32 (z0_1.getD i 0))) ∧ ∀ n ∈ z0_1, (Lit.int .u32 n).wf = true) (w1_1 : (A1_1 = none ∧ n1_1 = 0 ∧ c1_1 = 0 ∧ z1_1 = []) ∨ ∃ x, A1_1 = some x ∧ n1_1 ≤ c1_1 ∧ c1_1 ≤ maxLen ∧ z1_1.length = c1_1 ∧ (∀ i, i < z1_1.length → w.cell? (x.add i) = some (.int .u32 (z1_1.getD i 0))) ∧ ∀ n ∈ z1_1, (Lit.int .u32 n).wf = true) (w2_1 : (A2_1 = none ∧ n2_1 = 0 ∧ c2_1 = 0 ∧ z2_1 = []) ∨ ∃ x, A2_1 = some x ∧ n2_1 ≤ c2_1 ∧ c2_1 ≤ maxLen ∧ z2_1.length = c2_1 ∧ (∀ i, i < z2_1.length → w.cell? (x.add i) = some (.int .u32 (z2_1.getD i 0))) ∧ ∀ n ∈ z2_1, (Lit.int .u32 n).wf = true) :
  Calls Try.prog 3 #[.agg #[.bool a0_0, .slice A0_1 n0_1 c0_1], .agg #[.bool a1_0, .slice A1_1 n1_1 c1_1], .agg #[.bool a2_0, .slice A2_1 n2_1 c2_1]] w fun e w' => e = .returned (.bool true) ∧ Below w.heap.size w w' := by
 obtain ⟨l0_1, rfl, hr0_1, hm0_1, hw0_1, hc0_1⟩ := ReadsInt.ofRowC w0_1
 obtain ⟨l1_1, rfl, hr1_1, hm1_1, hw1_1, hc1_1⟩ := ReadsInt.ofRowC w1_1
 obtain ⟨l2_1, rfl, hr2_1, hm2_1, hw2_1, hc2_1⟩ := ReadsInt.ofRowC w2_1
 obtain ⟨k, h⟩ := P a0_0 l0_1 a1_0 l1_1 a2_0 l2_1 hm0_1 hw0_1 hm1_1 hw1_1 hm2_1 hw2_1
 refine (whetstonetop_TopNumbers.calls k a0_0 _ _ l0_1 a1_0 _ _ l1_1 a2_0 _ _ l2_1 true w (Kd.C_of_reads (d := (0 : Int)) (h1 := fun _ => rfl) hr0_1) hc0_1 (Kd.C_of_reads (d := (0 : Int)) (h1 := fun _ => rfl) hr1_1) hc1_1 (Kd.C_of_reads (d := (0 : Int)) (h1 := fun _ => rfl) hr2_1) hc2_1 h).mono ?_
 rintro e w' ⟨rfl, hd⟩
 exact ⟨rfl, hd⟩

end Go.Proofs.Ytfcnmgeokjemmaa.QTopNumbers
