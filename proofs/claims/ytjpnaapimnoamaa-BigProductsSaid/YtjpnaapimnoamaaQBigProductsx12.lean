-- written by wip/wprint, a program of this session
import Derived.Test.YtjpnaapimnoamaaQBigProductsx0
import Derived.Test.YtjpnaapimnoamaaQBigProductsx1
import Derived.Test.YtjpnaapimnoamaaQBigProductsx4
import Derived.Test.YtjpnaapimnoamaaQBigProductsx5
import Derived.Test.YtjpnaapimnoamaaQBigProductsx9
import Derived.Test.YtjpnaapimnoamaaQBigProductsx10
import Derived.Test.YtjpnaapimnoamaaQBigProductsx11
namespace Go.Proofs.Ytjpnaapimnoamaa.QBigProducts
open Go.RowKit Go.Proofs.YtjpnaapimnoamaaW.PrintWords Go.Proofs.YtjpnaapimnoamaaW.PrintLast Go.Proofs.YtjpnaapimnoamaaW.PrintMore
open Go.Proofs.YtjpnaapimnoamaaW.PrintWords.Kd renaming R_alloc → qa, R_drewN → qn, R_drew → qd, V_alloc → va, V_drewN → vn, V_drew → vd
open Go.Proofs.YtjpnaapimnoamaaW.PrintWords renaming below_alloc → ba, pw_below_drewN → bn, below_drew1 → bd
attribute [local go_sem] max2_int min2_int max_two min_two max_three min_three max_four min_four   -- for this text's walks alone
set_option linter.unusedVariables false
set_option linter.unusedSimpArgs false

/-! ### nat_raise: function 88 -/
def nat_raise.l0 : Nat → List Int → Int → List Int → Int → List Int → Int → Int → Option (List Int)
 | 0, _, _, _, _, _, _, _ => none
 | k + 1, x0, x1, x2, x6, x9, x10, x11 => if x11 < x10 then (if 0 ≤ x11 then (if x11 < (x9.length : Int) then (if 0 ≤ (wrap64 (x11 + x1)) then (if (wrap64 (x11 + x1)) < (x0.length : Int) then ((bits_Add32.f (rd x0 (wrap64 (x11 + x1))) (rd x9 x11) x6).bind fun bt447 => (nat_raise.l0 k (x0.set ((wrap64 (x11 + x1)) : Int).toNat bt447.1) x1 x2 bt447.2 x9 x10 (wrap64 (x11 + 1)))) else (none)) else (none)) else (none)) else (none)) else (if 0 ≤ (wrap64 (x1 + (x2.length : Int))) then (if (wrap64 (x1 + (x2.length : Int))) < (x0.length : Int) then (some (x0.set ((wrap64 (x1 + (x2.length : Int))) : Int).toNat (((rd x0 (wrap64 (x1 + (x2.length : Int)))) + x6) % 4294967296))) else (none)) else (none))
def nat_raise.f (k : Nat) (l0 : List Int) (a1 : Int) (l2 : List Int) : Option (List Int) := nat_raise.l0 k l0 a1 l2 0 l2 (l2.length : Int) 0
theorem nat_raise.mono_l : ∀ k, (∀ y0 y1 y2 y3 y4 y5 y6, LeO (nat_raise.l0 k y0 y1 y2 y3 y4 y5 y6) (nat_raise.l0 (k + 1) y0 y1 y2 y3 y4 y5 y6))
 | 0 => fun _ _ _ _ _ _ _ r h => by simp [nat_raise.l0] at h
 | k + 1 => by
  have ih0 := nat_raise.mono_l k
  ·intro y0 y1 y2 y3 y4 y5 y6
   unfold nat_raise.l0
   repeat' with_reducible first | exact ih0 _ _ _ _ _ _ _ | exact LeO.refl _ | exact LeO.none _ | refine LeO.ite ?_ ?_ | refine LeO.bind ?_ (fun _ => ?_)
theorem nat_raise.mono : ∀ a0 a1 a2 k, LeO (nat_raise.f k a0 a1 a2) (nat_raise.f (k + 1) a0 a1 a2) := by
 intro a0 a1 a2 k
 have ih0 := nat_raise.mono_l k
 unfold nat_raise.f
 repeat' with_reducible first | exact ih0 _ _ _ _ _ _ _ | exact LeO.refl _ | exact LeO.none _ | refine LeO.ite ?_ ?_ | refine LeO.bind ?_ (fun _ => ?_)
set_option maxHeartbeats 8000000 in
set_option maxRecDepth 100000 in
theorem nat_raise.calls (k : Nat) (P0_ : Nat → Prop) (u9000_ : Value) (l0 : List Int) (a1 : Int) (A2 : Option Addr) (c2 : Nat) (l2 : List Int) (r : List Int) (w0 w : World) (hB : Below w0.heap.size w0 w) (ho0 : Kd.R (Kd.int .u32) 87 w w0.heap.size P0_ u9000_ l0) (hr2 : ∀ W_, Kept w W_ (fun k_ => P0_ k_) → Kd.C (Kd.int .u32) W_ A2 l2.length l2) (hc2 : l2.length ≤ c2) (h : nat_raise.f k l0 a1 l2 = some r) :
  Calls Try.prog 88 #[u9000_, .int .i64 a1, .slice A2 l2.length c2] w fun e w' => e = .returned (.tuple #[]) ∧ Kd.R (Kd.int .u32) 87 w' w0.heap.size (fun k_ => (P0_ k_ ∨ w.heap.size ≤ k_)) u9000_ r ∧ Below w0.heap.size w0 w' ∧ Kept w w' (fun k_ => P0_ k_) := by
 have HO0 := Aside0.mk (show Kd.R (Kd.int .u32) 87 w w0.heap.size (fun k_ => (P0_ k_ ∨ w.heap.size ≤ k_)) u9000_ l0 from Kd.R_mono ho0 (fun k_ hk => (.inl hk)))
 have HR2 := Aside0.mk hr2
 have HC2 := Aside0.mk hc2
 clear hr2 hc2
 have HK := Aside0.mk (Kept.refl w (fun k_ => P0_ k_))
 have HW0 := Aside0.mk hB.size
 have HB := Aside0.mk hB
 clear hB
 have H : (nat_raise.l0 k l0 a1 l2 0 l2 (l2.length : Int) 0) = some r := h
 clear h
 have H' := Aside0.mk H
 clear H
 go_enter Try.func88, Try.ntmps88
 go_wp2
 go_loopg [6, 11] k (fun kq v6 v11 w' => ∃ (x0_1 : List Int) (x6_1 : Int) (x11_1 : Int), v6 = .int .u32 x6_1 ∧ v11 = .int .i64 x11_1 ∧ Aside0 (nat_raise.l0 kq x0_1 a1 l2 x6_1 l2 (l2.length : Int) x11_1 = some r) ∧ Aside0 (kq ≤ k) ∧ Aside0 (Kd.R (Kd.int .u32) 87 w' w0.heap.size (fun k_ => (P0_ k_ ∨ w.heap.size ≤ k_)) u9000_ x0_1) ∧ Aside0 (Kept w w' (fun k_ => P0_ k_)) ∧ Aside0 (Below w0.heap.size w0 w'))
 case atStart => exact ⟨(l0), (0), (0), (by first | rfl | (simp; done) | (simp [*]; done)), (by first | rfl | (simp; done) | (simp [*]; done)), H', ⟨Nat.le_refl _⟩, ⟨tq HO0⟩, ⟨by repeat (first | (with_reducible first | exact HK.out | apply Kept.alloc | apply Kept.drewN | apply Kept.drew) | exact HK.out)⟩, ⟨tb HB⟩⟩
 case round =>
  clear H'
  (try clear c2); (try clear p2)
  obtain ⟨x0_1, x6_1, x11_1, rfl, rfl, HA, HK1, HO_0, HK, HB⟩ := hrel
  cases gk with
  | zero => exact absurd HA.out (by simp [nat_raise.l0])
  | succ k1 =>
   have H := HA.out
   clear HA
   simp only [nat_raise.l0] at H
   by_cases c4 : x11_1 < (l2.length : Int)
   ·rw [if_pos c4] at H
    have c4b0 : decide (x11_1 < (l2.length : Int)) = true := decide_eq_true c4
    clear c4
    by_cases c5 : 0 ≤ x11_1
    ·rw [if_pos c5] at H
     have c5b0 : decide (0 ≤ x11_1) = true := decide_eq_true c5
     clear c5
     by_cases c6 : x11_1 < (l2.length : Int)
     ·rw [if_pos c6] at H
      have c6b0 : decide (x11_1 < (l2.length : Int)) = true := decide_eq_true c6
      clear c6
      obtain ⟨ji7, hji7⟩ : ∃ j_ : Int, (wrap64 (x11_1 + a1)) = j_ := ⟨_, rfl⟩
      replace H : (if 0 ≤ (ji7) then (if (ji7) < (x0_1.length : Int) then ((bits_Add32.f (rd x0_1 (ji7)) (rd l2 x11_1) x6_1).bind fun bt447 => (nat_raise.l0 k1 (x0_1.set ((ji7) : Int).toNat bt447.1) a1 l2 bt447.2 l2 (l2.length : Int) (wrap64 (x11_1 + 1)))) else (none)) else (none)) = some r := by first | (rw [hji7] at H; exact H) | (simp only [hji7] at H ⊢; exact H)
      have hji7w : (IntKind.i64.wrap (x11_1 + a1)) = ji7 := (i64_w _).trans hji7
      by_cases c8 : 0 ≤ (ji7)
      ·rw [if_pos c8] at H
       have c8b0 : decide (0 ≤ (ji7)) = true := decide_eq_true c8
       clear c8
       by_cases c9 : (ji7) < (x0_1.length : Int)
       ·rw [if_pos c9] at H
        have c9b0 : decide ((ji7) < (x0_1.length : Int)) = true := decide_eq_true c9
        clear c9
        replace H := bi H
        obtain ⟨⟨t447, t448⟩, A100, H⟩ := H
        try dsimp only at H
        have A10 := Aside0.mk A100
        clear A100
        obtain ⟨y449, hy449⟩ : ∃ y_ : List Int, y_ = (x0_1.set ((ji7) : Int).toNat t447) := ⟨_, rfl⟩
        replace H : (nat_raise.l0 k1 y449 a1 l2 t448 l2 (l2.length : Int) (wrap64 (x11_1 + 1))) = some r := by first | (rw [hy449]; with_reducible exact H) | (have H2_ := (Option.bind_some _ _).symm.trans H; rw [hy449]; with_reducible exact H2_) | (have H2_ := (Option.bind_some _ _).symm.trans H; with_reducible exact H2_) | with_reducible exact H | (rw [hy449]; exact H) | exact H
        have Ny449 := Aside0.mk hy449
        clear hy449
        have H' := Aside0.mk H
        clear H
        have p445 : 0 ≤ (x11_1 : Int) := td
        have q445 : x11_1 < (l2.length : Int) := td
        obtain ⟨ad445, e445, hx445_0⟩ := Kd.at_int (Kd.C_kept_now HR2.out HK.out) x11_1 p445 q445
        cases e445
        replace p445 := eq_true p445
        replace q445 := eq_true q445
        obtain ⟨Ao12, co12, eo12⟩ := Kd.R_slice HO_0.out
        subst eo12
        have p446 : 0 ≤ ((ji7) : Int) := td
        have q446 : (ji7) < (x0_1.length : Int) := td
        obtain ⟨ad446, e446, hx446_0⟩ := Kd.at_int (Kd.R_reads' HO_0.out).2.2 (ji7) p446 q446
        cases e446
        replace p446 := eq_true p446
        replace q446 := eq_true q446
        go_wp2_with (first | ((with_reducible refine gate_callee (f := 80) rfl ?_); refine goesL_ (some 29) rfl rfl Try.func80 (by kernel_rfl) rfl #[.int .u32 (rd x0_1 (ji7)), .int .u32 (rd l2 x11_1), .int .u32 x6_1] rfl (by (try simp only [List.map_toArray, List.map_cons, List.map_nil]); first | done | (simp only [hji7]; rfl) | rfl | (simp only [List.length_drop, List.length_take]; rfl)) ?_; (with_reducible refine (bits_Add32.calls (rd x0_1 (ji7)) (rd l2 x11_1) x6_1 t447 t448 _ A10.out).mono ?_); rintro e w' ⟨rfl, ⟨nd, rfl⟩⟩; refine ⟨_, rfl, ?_⟩; (try (rw [drewN_self wr]; generalize hq_ : World.drewN wr _ = wr; have n0_ : Aside0 (Kd.R (Kd.int .u32) 87 wr w0.heap.size (fun k_ => (P0_ k_ ∨ w.heap.size ≤ k_)) (.slice (some ad446) x0_1.length co12) x0_1) := ⟨by rw [← hq_]; exact (tq HO_0)⟩; have n1_ : Aside0 (Kept w wr (fun k_ => P0_ k_)) := ⟨by rw [← hq_]; exact (by repeat (first | (with_reducible first | exact HK.out | apply Kept.alloc | apply Kept.drewN | apply Kept.drew) | exact HK.out))⟩; have n2_ : Aside0 (Below w0.heap.size w0 wr) := ⟨by rw [← hq_]; exact (tb HB)⟩; clear HO_0 HK HB hq_; have HO_0 := n0_; have HK := n1_; have HB := n2_; clear n0_ n1_ n2_)); have p11 : 0 ≤ ((ji7) : Int) := td; have q11 : ((ji7) : Int) < ((x0_1.length : Int) : Int) := td; obtain ⟨go11, co11, eo11, gb11, gl11, cl11, HG11⟩ := Kd.R_form HO_0.out (by omega); (first | cases eo11 | (injection eo11 with ea_ en_ ec_; (first | subst ea_ | (injection ea_ with ea_; subst ea_)); subst ec_; clear en_)); have GB11 := Aside0.mk gb11; have GG11 := Aside0.mk HG11; clear gb11 gl11 HG11; have HMgo11 := Aside0.mk (show (P0_ go11 ∨ w.heap.size ≤ go11) from (HO_0.out.1 _ rfl)); (first | simp only [add_plain] at hx446_0 | skip); obtain ⟨hx11_0, hf11_0⟩ := Kd.R_celln 0 HO_0.out ((ji7) : Int) p11 q11; replace p11 := eq_true p11; replace q11 := eq_true q11; obtain ⟨hy13_, hz13_⟩ := Kd.R_celln 0 HO_0.out ((ji7) : Int) (td) (td); have HP13 := Kd.R_putg HO_0.out ((ji7) : Int) t447) | ((with_reducible refine gate_store (t := 87) (p := 32) rfl ?_); refine store_event (t := 87) (p := 32) (v := ?vo_w14) (w1 := (wr.setCell ⟨go11, ((ji7) : Int).toNat, none⟩ (.int .u32 t447))) ?hg ?ho ?hn ?hr ?_; (case ho => rfl); (case hg => rfl); (case hn => rfl); (case hr => first | (go_simp; done) | (go_simp; rfl)); intro w14 hw; have hg : wr.grownBy w14 (some go11) := (by rw [hw]; exact HP13.2); have hp_ : Kd.R (Kd.int .u32) 87 w14 w0.heap.size (fun k_ => (P0_ k_ ∨ w.heap.size ≤ k_)) (.slice (some ⟨go11, 0, none⟩) x0_1.length co12) y449 := (by rw [hw, Ny449.out]; exact HP13.1); clear HP13; have n0_ := Aside0.mk (hp_); have n1_ := Aside0.mk ((by rw [hw]; exact below_set (HB.out) GB11.out : Below w0.heap.size w0 w14)); have n2_ := Aside0.mk (Kept.of_grown (S := (fun k_ => P0_ k_)) hg (by repeat (first | (with_reducible first | exact HK.out | apply Kept.alloc | apply Kept.drewN | apply Kept.drew) | exact HK.out)) (fun k_ e_ => (HO_0.out.1 k_ e_))); clear HO_0 HB HK; have HO_0 := n0_; have HB := n1_; have HK := n2_; clear n0_ n1_ n2_; clear hg hw hp_))
        go_roundg k1
        case measure => have := HK1.out; omega
        case rel => exact ⟨(y449), (t448), (wrap64 (x11_1 + 1)), (by first | rfl | (simp; done) | (simp [*]; done)), (by first | rfl | (simp; done) | (simp [*]; done)), H', ⟨by have := HK1.out; omega⟩, ⟨tq HO_0⟩, ⟨by repeat (first | (with_reducible first | exact HK.out | apply Kept.alloc | apply Kept.drewN | apply Kept.drew) | exact HK.out)⟩, ⟨tb HB⟩⟩
       ·rw [if_neg c9] at H
        exact absurd H (by simp)
      ·rw [if_neg c8] at H
       exact absurd H (by simp)
     ·rw [if_neg c6] at H
      exact absurd H (by simp)
    ·rw [if_neg c5] at H
     exact absurd H (by simp)
   ·rw [if_neg c4] at H
    have c4b0 : decide (x11_1 < (l2.length : Int)) = false := decide_eq_false c4
    clear c4
    obtain ⟨ji15, hji15⟩ : ∃ j_ : Int, (wrap64 (a1 + (l2.length : Int))) = j_ := ⟨_, rfl⟩
    replace H : (if 0 ≤ (ji15) then (if (ji15) < (x0_1.length : Int) then (some (x0_1.set ((ji15) : Int).toNat (((rd x0_1 (ji15)) + x6_1) % 4294967296))) else (none)) else (none)) = some r := by first | (rw [hji15] at H; exact H) | (simp only [hji15] at H ⊢; exact H)
    have hji15w : (IntKind.i64.wrap (a1 + (l2.length : Int))) = ji15 := (i64_w _).trans hji15
    by_cases c16 : 0 ≤ (ji15)
    ·rw [if_pos c16] at H
     have c16b0 : decide (0 ≤ (ji15)) = true := decide_eq_true c16
     clear c16
     by_cases c17 : (ji15) < (x0_1.length : Int)
     ·rw [if_pos c17] at H
      have c17b0 : decide ((ji15) < (x0_1.length : Int)) = true := decide_eq_true c17
      clear c17
      obtain ⟨y451, hy451⟩ : ∃ y_ : List Int, y_ = (x0_1.set ((ji15) : Int).toNat (((rd x0_1 (ji15)) + x6_1) % 4294967296)) := ⟨_, rfl⟩
      replace H : (some y451) = some r := by first | (rw [hy451]; with_reducible exact H) | (have H2_ := (Option.bind_some _ _).symm.trans H; rw [hy451]; with_reducible exact H2_) | (have H2_ := (Option.bind_some _ _).symm.trans H; with_reducible exact H2_) | with_reducible exact H | (rw [hy451]; exact H) | exact H
      have Ny451 := Aside0.mk hy451
      clear hy451
      obtain rfl := Option.some.inj H
      obtain ⟨Ao19, co19, eo19⟩ := Kd.R_slice HO_0.out
      subst eo19
      have p450 : 0 ≤ ((ji15) : Int) := td
      have q450 : (ji15) < (x0_1.length : Int) := td
      obtain ⟨ad450, e450, hx450_0⟩ := Kd.at_int (Kd.R_reads' HO_0.out).2.2 (ji15) p450 q450
      cases e450
      replace p450 := eq_true p450
      replace q450 := eq_true q450
      have p18 : 0 ≤ ((ji15) : Int) := td
      have q18 : ((ji15) : Int) < ((x0_1.length : Int) : Int) := td
      obtain ⟨go18, co18, eo18, gb18, gl18, cl18, HG18⟩ := Kd.R_form HO_0.out (by omega)
      (first | cases eo18 | (injection eo18 with ea_ en_ ec_; (first | subst ea_ | (injection ea_ with ea_; subst ea_)); subst ec_; clear en_))
      have GB18 := Aside0.mk gb18
      have GG18 := Aside0.mk HG18
      clear gb18 gl18 HG18
      have HMgo18 := Aside0.mk (show (P0_ go18 ∨ w.heap.size ≤ go18) from (HO_0.out.1 _ rfl))
      (first | simp only [add_plain] at hx450_0 | skip)
      obtain ⟨hx18_0, hf18_0⟩ := Kd.R_celln 0 HO_0.out ((ji15) : Int) p18 q18
      replace p18 := eq_true p18
      replace q18 := eq_true q18
      have HP20 := Kd.R_putg HO_0.out ((ji15) : Int) (((rd x0_1 (ji15)) + x6_1) % 4294967296)
      go_wp2_with (first | ((with_reducible refine gate_store (t := 87) (p := 43) rfl ?_); refine store_event (t := 87) (p := 43) (v := ?vo_w21) (w1 := (wr.setCell ⟨go18, ((ji15) : Int).toNat, none⟩ (.int .u32 (((rd x0_1 (ji15)) + x6_1) % 4294967296)))) ?hg ?ho ?hn ?hr ?_; (case ho => rfl); (case hg => rfl); (case hn => rfl); (case hr => first | (go_simp; done) | (go_simp; rfl)); intro w21 hw; have hg : wr.grownBy w21 (some go18) := (by rw [hw]; exact HP20.2); have hp_ : Kd.R (Kd.int .u32) 87 w21 w0.heap.size (fun k_ => (P0_ k_ ∨ w.heap.size ≤ k_)) (.slice (some ⟨go18, 0, none⟩) x0_1.length co19) y451 := (by rw [hw, Ny451.out]; exact HP20.1); clear HP20; have n0_ := Aside0.mk (hp_); have n1_ := Aside0.mk ((by rw [hw]; exact below_set (HB.out) GB18.out : Below w0.heap.size w0 w21)); have n2_ := Aside0.mk (Kept.of_grown (S := (fun k_ => P0_ k_)) hg (by repeat (first | (with_reducible first | exact HK.out | apply Kept.alloc | apply Kept.drewN | apply Kept.drew) | exact HK.out)) (fun k_ e_ => (HO_0.out.1 k_ e_))); clear HO_0 HB HK; have HO_0 := n0_; have HB := n1_; have HK := n2_; clear n0_ n1_ n2_; clear hg hw hp_))
      first | go_end0 | ((try simp only [Exit.inBlock, Exit.then]); refine bodyPost_ret (results_none rfl _ _ _) rfl ?_)
      exact ⟨by first | rfl | (simp [errW_none, errW_some] <;> rfl) | (simp only [← hji15]; first | rfl | (simp [errW_none, errW_some] <;> rfl)) | (simp [*, errW_none, errW_some] <;> rfl), tq HO_0, tb HB, by repeat (first | (with_reducible first | exact HK.out | apply Kept.alloc | apply Kept.drewN | apply Kept.drew) | exact HK.out)⟩
     ·rw [if_neg c17] at H
      exact absurd H (by simp)
    ·rw [if_neg c16] at H
     exact absurd H (by simp)

/-! ### nat_right: function 89 -/
def nat_right.l0 : Nat → List Int → Int → List Int → Int → Int → Option (List Int)
 | 0, _, _, _, _, _ => none
 | k + 1, x0, x1, x5, x12, x13 => if x13 < x12 then (if 0 ≤ x13 then (if x13 < (x0.length : Int) then (if (wrap64 (x13 + 1)) < (x0.length : Int) then (if 0 ≤ (wrap64 (x13 + 1)) then (if 0 ≤ x1 then (if x13 < (x5.length : Int) then (nat_right.l0 k x0 x1 (x5.set (x13 : Int).toNat ((shr .u64 (Go.bits .or .u64 (IntKind.u64.wrap (rd x0 x13)) (IntKind.u64.wrap ((IntKind.u64.wrap (rd x0 (wrap64 (x13 + 1)))) * 4294967296))) x1) % 4294967296)) x12 (wrap64 (x13 + 1))) else (none)) else (none)) else (none)) else (if 0 ≤ x1 then (if x13 < (x5.length : Int) then (nat_right.l0 k x0 x1 (x5.set (x13 : Int).toNat ((shr .u64 (IntKind.u64.wrap (rd x0 x13)) x1) % 4294967296)) x12 (wrap64 (x13 + 1))) else (none)) else (none))) else (none)) else (none)) else ((nat_trim.f k x5).bind fun t459 => (some t459))
def nat_right.f (k : Nat) (l0 : List Int) (a1 : Int) : Option (List Int) := if 0 ≤ (l0.length : Int) then (if ((l0.length : Int) : Int).toNat ≤ 70368744177664 then (nat_right.l0 k l0 a1 (List.replicate ((l0.length : Int) : Int).toNat 0) (l0.length : Int) 0) else (none)) else (none)
theorem nat_right.mono_l : ∀ k, (∀ y0 y1 y2 y3 y4, LeO (nat_right.l0 k y0 y1 y2 y3 y4) (nat_right.l0 (k + 1) y0 y1 y2 y3 y4))
 | 0 => fun _ _ _ _ _ r h => by simp [nat_right.l0] at h
 | k + 1 => by
  have ih0 := nat_right.mono_l k
  ·intro y0 y1 y2 y3 y4
   unfold nat_right.l0
   repeat' with_reducible first | exact ih0 _ _ _ _ _ | exact nat_trim.mono _ _ | exact LeO.refl _ | exact LeO.none _ | refine LeO.ite ?_ ?_ | refine LeO.bind ?_ (fun _ => ?_)
theorem nat_right.mono : ∀ a0 a1 k, LeO (nat_right.f k a0 a1) (nat_right.f (k + 1) a0 a1) := by
 intro a0 a1 k
 have ih0 := nat_right.mono_l k
 unfold nat_right.f
 repeat' with_reducible first | exact ih0 _ _ _ _ _ | exact nat_trim.mono _ _ | exact LeO.refl _ | exact LeO.none _ | refine LeO.ite ?_ ?_ | refine LeO.bind ?_ (fun _ => ?_)
set_option maxHeartbeats 8000000 in
set_option maxRecDepth 100000 in
theorem nat_right.calls (k : Nat) (A0 : Option Addr) (c0 : Nat) (l0 : List Int) (a1 : Int) (r : List Int) (w : World) (hr0 : Kd.C (Kd.int .u32) w A0 l0.length l0) (hc0 : l0.length ≤ c0) (h : nat_right.f k l0 a1 = some r) :
  Calls Try.prog 89 #[.slice A0 l0.length c0, .int .u64 a1] w fun e w' => ∃ v0_ : Value, e = .returned (v0_) ∧ Kd.V (Kd.int .u32) 87 w' w.heap.size (fun k_ => (w.heap.size ≤ k_)) v0_ r ∧ Below w.heap.size w w' := by
 have HR0 := Aside0.mk hr0
 have HC0 := Aside0.mk hc0
 clear hr0 hc0
 have HB := Aside0.mk (Below.refl w.heap.size w)
 have H : (if 0 ≤ (l0.length : Int) then (if ((l0.length : Int) : Int).toNat ≤ 70368744177664 then (nat_right.l0 k l0 a1 (List.replicate ((l0.length : Int) : Int).toNat 0) (l0.length : Int) 0) else (none)) else (none)) = some r := h
 clear h
 by_cases c3 : 0 ≤ (l0.length : Int)
 ·rw [if_pos c3] at H
  have c3b0 := eq_true c3
  have c3b1 : decide (0 ≤ (l0.length : Int)) = true := decide_eq_true c3
  clear c3
  by_cases c4 : ((l0.length : Int) : Int).toNat ≤ 70368744177664
  ·rw [if_pos c4] at H
   have c4b0 := eq_true c4
   have c4b1 : decide (((l0.length : Int) : Int).toNat ≤ 70368744177664) = true := decide_eq_true c4
   clear c4
   obtain ⟨y452, hy452⟩ : ∃ y_ : List Int, y_ = (List.replicate ((l0.length : Int) : Int).toNat 0) := ⟨_, rfl⟩
   replace H : (nat_right.l0 k l0 a1 y452 (l0.length : Int) 0) = some r := by first | (rw [hy452]; with_reducible exact H) | (have H2_ := (Option.bind_some _ _).symm.trans H; rw [hy452]; with_reducible exact H2_) | (have H2_ := (Option.bind_some _ _).symm.trans H; with_reducible exact H2_) | with_reducible exact H | (rw [hy452]; exact H) | exact H
   have Ny452 := Aside0.mk hy452
   clear hy452
   have H' := Aside0.mk H
   clear H
   go_enter Try.func89, Try.ntmps89
   go_wp2_with (first | ((with_reducible refine gate_dst (N := 10) rfl ?_); refine Kd.R_make (Kd.int .u32) _ 87 rfl (N := 10) rfl 22 _ _ rfl (l0.length : Int) rfl rfl Try.underlying22 (.int .u32 0) 4 info87 rfl (by decide) (by omega) 0 (ok := fun _ => True) (okp := fun _ => True) rfl (fun _ hk => hk) trivial (td) (Nat.le_trans (Nat.mul_le_mul_right _ (td : (l0.length : Int).toNat ≤ 70368744177664)) (by omega)) (Below.refl _ _) (Nat.le_refl _) ?_; intro v453 w5 ho6 hb hg_ hnew_; clear hg_ hnew_; (first | rw [← Ny452.out] at ho6 | (simp only [Int.reduceToNat] at ho6; rw [← Ny452.out] at ho6)); have HO454 := Aside0.mk (Kd.R_lower (Kd.R_newM (M := fun k_ => (w.heap.size ≤ k_)) ho6 (below_size (tb HB)) (fun k_ h_ => h_)) (below_size (tb HB))); replace HB := bs HB hb; clear hb ho6))
   go_loopg [13] k (fun kq v13 w' => ∃ (x5_1 : List Int) (x13_1 : Int), v13 = .int .i64 x13_1 ∧ Aside0 (nat_right.l0 kq l0 a1 x5_1 (l0.length : Int) x13_1 = some r) ∧ Aside0 (kq ≤ k) ∧ Aside0 (Kd.R (Kd.int .u32) 87 w' w.heap.size (fun k_ => (w.heap.size ≤ k_)) v453 x5_1) ∧ Aside0 (Below w.heap.size w w'))
   case atStart => exact ⟨(y452), (0), (by first | rfl | (simp; done) | (simp [*]; done)), H', ⟨Nat.le_refl _⟩, ⟨by (with_reducible repeat first | apply qa | apply qn | apply qd); exact Kd.R_mono HO454.out (fun _ hk => hk.1)⟩, ⟨tb HB⟩⟩
   case round =>
    clear H'
    (try clear p2); (try clear c3); (try clear c3b0); (try clear c3b1); (try clear c4); (try clear c4b0); (try clear c4b1)
    obtain ⟨x5_1, x13_1, rfl, HA, HK1, HO_5, HB⟩ := hrel
    cases gk with
    | zero => exact absurd HA.out (by simp [nat_right.l0])
    | succ k1 =>
     have H := HA.out
     clear HA
     simp only [nat_right.l0] at H
     by_cases c7 : x13_1 < (l0.length : Int)
     ·rw [if_pos c7] at H
      have c7b0 : decide (x13_1 < (l0.length : Int)) = true := decide_eq_true c7
      clear c7
      by_cases c8 : 0 ≤ x13_1
      ·rw [if_pos c8] at H
       have c8b0 : decide (0 ≤ x13_1) = true := decide_eq_true c8
       clear c8
       by_cases c9 : x13_1 < (l0.length : Int)
       ·rw [if_pos c9] at H
        have c9b0 : decide (x13_1 < (l0.length : Int)) = true := decide_eq_true c9
        clear c9
        by_cases c10 : (wrap64 (x13_1 + 1)) < (l0.length : Int)
        ·rw [if_pos c10] at H
         have c10b0 : decide ((wrap64 (x13_1 + 1)) < (l0.length : Int)) = true := decide_eq_true c10
         clear c10
         obtain ⟨ji11, hji11⟩ : ∃ j_ : Int, (wrap64 (x13_1 + 1)) = j_ := ⟨_, rfl⟩
         replace H : (if 0 ≤ (ji11) then (if 0 ≤ a1 then (if x13_1 < (x5_1.length : Int) then (nat_right.l0 k1 l0 a1 (x5_1.set (x13_1 : Int).toNat ((shr .u64 (Go.bits .or .u64 (IntKind.u64.wrap (rd l0 x13_1)) (IntKind.u64.wrap ((IntKind.u64.wrap (rd l0 (ji11))) * 4294967296))) a1) % 4294967296)) (l0.length : Int) ji11) else (none)) else (none)) else (none)) = some r := by first | (rw [hji11] at H; exact H) | (simp only [hji11] at H ⊢; exact H)
         (try rw [hji11] at c10b0)
         have hji11w : (IntKind.i64.wrap (x13_1 + 1)) = ji11 := (i64_w _).trans hji11
         by_cases c12 : 0 ≤ (ji11)
         ·rw [if_pos c12] at H
          have c12b0 : decide (0 ≤ (ji11)) = true := decide_eq_true c12
          clear c12
          by_cases c13 : 0 ≤ a1
          ·rw [if_pos c13] at H
           have c13b0 := eq_true c13
           have c13b1 : decide (0 ≤ a1) = true := decide_eq_true c13
           clear c13
           obtain ⟨ji14, hji14⟩ : ∃ j_ : Int, (shr .u64 (Go.bits .or .u64 (IntKind.u64.wrap (rd l0 x13_1)) (IntKind.u64.wrap ((IntKind.u64.wrap (rd l0 (ji11))) * 4294967296))) a1) = j_ := ⟨_, rfl⟩
           replace H : (if x13_1 < (x5_1.length : Int) then (nat_right.l0 k1 l0 a1 (x5_1.set (x13_1 : Int).toNat ((ji14) % 4294967296)) (l0.length : Int) ji11) else (none)) = some r := by first | (rw [hji14] at H; exact H) | (simp only [hji14] at H ⊢; exact H)
           have hji14_ : ((Go.bits .or .u64 (IntKind.u64.wrap (rd l0 x13_1)) (IntKind.u64.wrap ((IntKind.u64.wrap (rd l0 (ji11))) * 4294967296))) / 2 ^ min a1.toNat 64) = ji14 := hji14
           have hji14z : a1 ≤ 64 → ((Go.bits .or .u64 (IntKind.u64.wrap (rd l0 x13_1)) (IntKind.u64.wrap ((IntKind.u64.wrap (rd l0 (ji11))) * 4294967296))) / 2 ^ a1.toNat) = ji14 := shr_small hji14
           by_cases c15 : x13_1 < (x5_1.length : Int)
           ·rw [if_pos c15] at H
            have c15b0 : decide (x13_1 < (x5_1.length : Int)) = true := decide_eq_true c15
            clear c15
            obtain ⟨y457, hy457⟩ : ∃ y_ : List Int, y_ = (x5_1.set (x13_1 : Int).toNat ((ji14) % 4294967296)) := ⟨_, rfl⟩
            replace H : (nat_right.l0 k1 l0 a1 y457 (l0.length : Int) ji11) = some r := by first | (rw [hy457]; with_reducible exact H) | (have H2_ := (Option.bind_some _ _).symm.trans H; rw [hy457]; with_reducible exact H2_) | (have H2_ := (Option.bind_some _ _).symm.trans H; with_reducible exact H2_) | with_reducible exact H | (rw [hy457]; exact H) | exact H
            have Ny457 := Aside0.mk hy457
            clear hy457
            have H' := Aside0.mk H
            clear H
            have p455 : 0 ≤ (x13_1 : Int) := td
            have q455 : x13_1 < (l0.length : Int) := td
            obtain ⟨ad455, e455, hx455_0⟩ := Kd.at_int HR0.out x13_1 p455 q455
            cases e455
            replace hx455_0 := (HB.out.cell (World.block_lt_of_cell? w _ hx455_0)).trans hx455_0
            replace p455 := eq_true p455
            replace q455 := eq_true q455
            have p456 : 0 ≤ ((ji11) : Int) := td
            have q456 : (ji11) < (l0.length : Int) := td
            obtain ⟨ad456, e456, hx456_0⟩ := Kd.at_int HR0.out (ji11) p456 q456
            obtain rfl : ad455 = ad456 := (by injection e456)
            replace hx456_0 := (HB.out.cell (World.block_lt_of_cell? w _ hx456_0)).trans hx456_0
            replace p456 := eq_true p456
            replace q456 := eq_true q456
            have p16 : 0 ≤ (x13_1 : Int) := td
            have q16 : (x13_1 : Int) < ((x5_1.length : Int) : Int) := td
            obtain ⟨go16, co16, eo16, gb16, gl16, cl16, HG16⟩ := Kd.R_form HO_5.out (by omega)
            (first | cases eo16 | (injection eo16 with ea_ en_ ec_; (first | subst ea_ | (injection ea_ with ea_; subst ea_)); subst ec_; clear en_))
            have GB16 := Aside0.mk gb16
            have GG16 := Aside0.mk HG16
            clear gb16 gl16 HG16
            obtain ⟨hx16_0, hf16_0⟩ := Kd.R_celln 0 HO_5.out (x13_1 : Int) p16 q16
            replace p16 := eq_true p16
            replace q16 := eq_true q16
            have HP17 := Kd.R_putg HO_5.out (x13_1 : Int) ((ji14) % 4294967296)
            go_wp2_with (first | ((with_reducible refine gate_store (t := 87) (p := 41) rfl ?_); refine store_event (t := 87) (p := 41) (v := ?vo_w18) (w1 := (wr.setCell ⟨go16, (x13_1 : Int).toNat, none⟩ (.int .u32 ((ji14) % 4294967296)))) ?hg ?ho ?hn ?hr ?_; (case ho => rfl); (case hg => rfl); (case hn => rfl); (case hr => first | (go_simp; done) | (go_simp; rfl)); intro w18 hw; have hg : wr.grownBy w18 (some go16) := (by rw [hw]; exact HP17.2); have hp_ : Kd.R (Kd.int .u32) 87 w18 w.heap.size (fun k_ => (w.heap.size ≤ k_)) (.slice (some ⟨go16, 0, none⟩) x5_1.length co16) y457 := (by rw [hw, Ny457.out]; exact HP17.1); clear HP17; replace HO_5 := Aside0.mk (hp_); replace HB := Aside0.mk ((by rw [hw]; exact below_set (HB.out) GB16.out : Below w.heap.size w w18)); clear hg hw hp_))
            go_roundg k1
            case measure => have := HK1.out; omega
            case rel => exact ⟨(y457), (ji11), (by first | rfl | (simp; done) | (simp only [← hji11] <;> (first | rfl | simp)) | (simp [*]; done)), H', ⟨by have := HK1.out; omega⟩, ⟨tq HO_5⟩, ⟨tb HB⟩⟩
           ·rw [if_neg c15] at H
            exact absurd H (by simp)
          ·rw [if_neg c13] at H
           exact absurd H (by simp)
         ·rw [if_neg c12] at H
          exact absurd H (by simp)
        ·rw [if_neg c10] at H
         have c10b0 : decide ((wrap64 (x13_1 + 1)) < (l0.length : Int)) = false := decide_eq_false c10
         clear c10
         by_cases c19 : 0 ≤ a1
         ·rw [if_pos c19] at H
          have c19b0 := eq_true c19
          have c19b1 : decide (0 ≤ a1) = true := decide_eq_true c19
          clear c19
          obtain ⟨ji20, hji20⟩ : ∃ j_ : Int, (shr .u64 (IntKind.u64.wrap (rd l0 x13_1)) a1) = j_ := ⟨_, rfl⟩
          replace H : (if x13_1 < (x5_1.length : Int) then (nat_right.l0 k1 l0 a1 (x5_1.set (x13_1 : Int).toNat ((ji20) % 4294967296)) (l0.length : Int) (wrap64 (x13_1 + 1))) else (none)) = some r := by first | (rw [hji20] at H; exact H) | (simp only [hji20] at H ⊢; exact H)
          have hji20_ : ((IntKind.u64.wrap (rd l0 x13_1)) / 2 ^ min a1.toNat 64) = ji20 := hji20
          have hji20z : a1 ≤ 64 → ((IntKind.u64.wrap (rd l0 x13_1)) / 2 ^ a1.toNat) = ji20 := shr_small hji20
          by_cases c21 : x13_1 < (x5_1.length : Int)
          ·rw [if_pos c21] at H
           have c21b0 : decide (x13_1 < (x5_1.length : Int)) = true := decide_eq_true c21
           clear c21
           obtain ⟨y458, hy458⟩ : ∃ y_ : List Int, y_ = (x5_1.set (x13_1 : Int).toNat ((ji20) % 4294967296)) := ⟨_, rfl⟩
           replace H : (nat_right.l0 k1 l0 a1 y458 (l0.length : Int) (wrap64 (x13_1 + 1))) = some r := by first | (rw [hy458]; with_reducible exact H) | (have H2_ := (Option.bind_some _ _).symm.trans H; rw [hy458]; with_reducible exact H2_) | (have H2_ := (Option.bind_some _ _).symm.trans H; with_reducible exact H2_) | with_reducible exact H | (rw [hy458]; exact H) | exact H
           have Ny458 := Aside0.mk hy458
           clear hy458
           have H' := Aside0.mk H
           clear H
           have p455 : 0 ≤ (x13_1 : Int) := td
           have q455 : x13_1 < (l0.length : Int) := td
           obtain ⟨ad455, e455, hx455_0⟩ := Kd.at_int HR0.out x13_1 p455 q455
           cases e455
           replace hx455_0 := (HB.out.cell (World.block_lt_of_cell? w _ hx455_0)).trans hx455_0
           replace p455 := eq_true p455
           replace q455 := eq_true q455
           have p22 : 0 ≤ (x13_1 : Int) := td
           have q22 : (x13_1 : Int) < ((x5_1.length : Int) : Int) := td
           obtain ⟨go22, co22, eo22, gb22, gl22, cl22, HG22⟩ := Kd.R_form HO_5.out (by omega)
           (first | cases eo22 | (injection eo22 with ea_ en_ ec_; (first | subst ea_ | (injection ea_ with ea_; subst ea_)); subst ec_; clear en_))
           have GB22 := Aside0.mk gb22
           have GG22 := Aside0.mk HG22
           clear gb22 gl22 HG22
           obtain ⟨hx22_0, hf22_0⟩ := Kd.R_celln 0 HO_5.out (x13_1 : Int) p22 q22
           replace p22 := eq_true p22
           replace q22 := eq_true q22
           have HP23 := Kd.R_putg HO_5.out (x13_1 : Int) ((ji20) % 4294967296)
           go_wp2_with (first | ((with_reducible refine gate_store (t := 87) (p := 41) rfl ?_); refine store_event (t := 87) (p := 41) (v := ?vo_w24) (w1 := (wr.setCell ⟨go22, (x13_1 : Int).toNat, none⟩ (.int .u32 ((ji20) % 4294967296)))) ?hg ?ho ?hn ?hr ?_; (case ho => rfl); (case hg => rfl); (case hn => rfl); (case hr => first | (go_simp; done) | (go_simp; rfl)); intro w24 hw; have hg : wr.grownBy w24 (some go22) := (by rw [hw]; exact HP23.2); have hp_ : Kd.R (Kd.int .u32) 87 w24 w.heap.size (fun k_ => (w.heap.size ≤ k_)) (.slice (some ⟨go22, 0, none⟩) x5_1.length co22) y458 := (by rw [hw, Ny458.out]; exact HP23.1); clear HP23; replace HO_5 := Aside0.mk (hp_); replace HB := Aside0.mk ((by rw [hw]; exact below_set (HB.out) GB22.out : Below w.heap.size w w24)); clear hg hw hp_))
           go_roundg k1
           case measure => have := HK1.out; omega
           case rel => exact ⟨(y458), (wrap64 (x13_1 + 1)), (by first | rfl | (simp; done) | (simp [*]; done)), H', ⟨by have := HK1.out; omega⟩, ⟨tq HO_5⟩, ⟨tb HB⟩⟩
          ·rw [if_neg c21] at H
           exact absurd H (by simp)
         ·rw [if_neg c19] at H
          exact absurd H (by simp)
       ·rw [if_neg c9] at H
        exact absurd H (by simp)
      ·rw [if_neg c8] at H
       exact absurd H (by simp)
     ·rw [if_neg c7] at H
      have c7b0 : decide (x13_1 < (l0.length : Int)) = false := decide_eq_false c7
      clear c7
      replace H := bi H
      obtain ⟨t459, A250, H⟩ := H
      have A25 := Aside0.mk A250
      clear A250
      obtain rfl := Option.some.inj H
      obtain ⟨Ao26, co26, eo26⟩ := Kd.R_slice HO_5.out
      subst eo26
      go_wp2_with (first | ((with_reducible refine gate_callee (f := 81) rfl ?_); refine gL (N := some 44) Try.func81 #[.slice Ao26 x5_1.length co26] ?_; (with_reducible refine (nat_trim.calls k1 (fun k_ => some k_ = (.slice Ao26 x5_1.length co26 : Value).ownBlock) _ _ x5_1 t459 _ ?side1 A25.out).mono ?_); (case side1 => exact Kd.R_V (Kd.R_tight rfl (HO_5.out))); rintro e w27 ⟨v460, rfl, ho0, hb⟩; refine ⟨_, rfl, ?_⟩; have HO461 := Aside0.mk (Kd.V_lower (Kd.V_mono (ok' := fun k_ => (w.heap.size ≤ k_)) ho0 (fun k_ hk_ => Or.elim hk_ (fun hs_ => ((HO_5.out).1 k_ hs_.symm)) (fun hn_ => (Nat.le_trans (below_size (tb HB)) hn_)))) (below_size (tb HB))); replace HB := bs HB hb; (try clear hb); (try clear hb2); (try clear hk); (try clear hi); (try clear ho0)))
      go_ret
      exact ⟨_, by first | rfl | (simp [errW_none, errW_some] <;> rfl) | (simp [*, errW_none, errW_some] <;> rfl), tv HO461, tb HB⟩
  ·rw [if_neg c4] at H
   exact absurd H (by simp)
 ·rw [if_neg c3] at H
  exact absurd H (by simp)

/-! ### nat_DivMod: function 67 -/
def nat_DivMod.l0 : Nat → List Int → Int → List Int → List Int → Int → Option (List Int × List Int × Int)
 | 0, _, _, _, _, _ => none
 | k + 1, x4, x9, x10, x11, x12 => if x12 ≥ 0 then ((nat_guess.f k x10 x12 x11).bind fun t500 => ((nat_lower.f k x10 x12 t500 x11).bind fun bt501 => (if bt501.1 = true then ((nat_raise.f k bt501.2 x12 x11).bind fun t503 => (if 0 ≤ x12 then (if x12 < (x4.length : Int) then (nat_DivMod.l0 k (x4.set (x12 : Int).toNat ((IntKind.u64.wrap (t500 - 1)) % 4294967296)) x9 t503 x11 (wrap64 (x12 - 1))) else (none)) else (none))) else (if 0 ≤ x12 then (if x12 < (x4.length : Int) then (nat_DivMod.l0 k (x4.set (x12 : Int).toNat ((t500) % 4294967296)) x9 bt501.2 x11 (wrap64 (x12 - 1))) else (none)) else (none))))) else ((nat_trim.f k x4).bind fun t494 => ((nat_right.f k x10 x9).bind fun t497 => (some (t494, t497, 0))))
def nat_DivMod.f (k : Nat) (l0 : List Int) (l1 : List Int) : Option (List Int × List Int × Int) := (nat_trim.f k l0).bind fun t462 => ((nat_trim.f k l1).bind fun t465 => (if (t465.length : Int) = 0 then (some (([] : List Int), ([] : List Int), 4)) else ((nat_Cmp.f k t462 t465).bind fun t468 => (if t468 < 0 then ((nat_Norm.f k t462).bind fun t469 => (some (([] : List Int), t469, 0))) else (if (t465.length : Int) = 1 then (if 0 < (t465.length : Int) then ((nat_short.f k t462 (rd t465 0)).bind fun bt473 => ((nat_Of.f k (IntKind.u64.wrap (bt473.2))).bind fun t477 => (some (bt473.1, t477, 0)))) else (none)) else (if 0 ≤ (wrap64 ((t465.length : Int) - 1)) then (if (wrap64 ((t465.length : Int) - 1)) < (t465.length : Int) then ((bits_LeadingZeros32.f (rd t465 (wrap64 ((t465.length : Int) - 1)))).bind fun t481 => ((nat_left.f k t462 (IntKind.u64.wrap (t481))).bind fun t482 => ((nat_left.f k t465 (IntKind.u64.wrap (t481))).bind fun t485 => ((nat_trim.f k t485).bind fun t488 => (if 0 ≤ (wrap64 ((wrap64 ((t462.length : Int) - (t465.length : Int))) + 1)) then (if (wrap64 ((wrap64 ((t462.length : Int) - (t465.length : Int))) + 1) : Int).toNat ≤ 70368744177664 then (nat_DivMod.l0 k (List.replicate (wrap64 ((wrap64 ((t462.length : Int) - (t465.length : Int))) + 1) : Int).toNat 0) (IntKind.u64.wrap (t481)) t482 t488 (wrap64 ((t462.length : Int) - (t465.length : Int)))) else (none)) else (none)))))) else (none)) else (none)))))))
theorem nat_DivMod.mono_l : ∀ k, (∀ y0 y1 y2 y3 y4, LeO (nat_DivMod.l0 k y0 y1 y2 y3 y4) (nat_DivMod.l0 (k + 1) y0 y1 y2 y3 y4))
 | 0 => fun _ _ _ _ _ r h => by simp [nat_DivMod.l0] at h
 | k + 1 => by
  have ih0 := nat_DivMod.mono_l k
  ·intro y0 y1 y2 y3 y4
   unfold nat_DivMod.l0
   repeat' with_reducible first | exact ih0 _ _ _ _ _ | exact nat_Cmp.mono _ _ _ | exact nat_Norm.mono _ _ | exact nat_Of.mono _ _ | exact nat_guess.mono _ _ _ _ | exact nat_left.mono _ _ _ | exact nat_lower.mono _ _ _ _ _ | exact nat_raise.mono _ _ _ _ | exact nat_right.mono _ _ _ | exact nat_short.mono _ _ _ | exact nat_trim.mono _ _ | exact LeO.refl _ | exact LeO.none _ | refine LeO.ite ?_ ?_ | refine LeO.bind ?_ (fun _ => ?_)
theorem nat_DivMod.mono : ∀ a0 a1 k, LeO (nat_DivMod.f k a0 a1) (nat_DivMod.f (k + 1) a0 a1) := by
 intro a0 a1 k
 have ih0 := nat_DivMod.mono_l k
 unfold nat_DivMod.f
 repeat' with_reducible first | exact ih0 _ _ _ _ _ | exact nat_Cmp.mono _ _ _ | exact nat_Norm.mono _ _ | exact nat_Of.mono _ _ | exact nat_guess.mono _ _ _ _ | exact nat_left.mono _ _ _ | exact nat_lower.mono _ _ _ _ _ | exact nat_raise.mono _ _ _ _ | exact nat_right.mono _ _ _ | exact nat_short.mono _ _ _ | exact nat_trim.mono _ _ | exact LeO.refl _ | exact LeO.none _ | refine LeO.ite ?_ ?_ | refine LeO.bind ?_ (fun _ => ?_)
set_option maxHeartbeats 8000000 in
set_option maxRecDepth 100000 in
theorem nat_DivMod.calls (k : Nat) (P0_ : Nat → Prop) (A0 : Option Addr) (c0 : Nat) (l0 : List Int) (P1_ : Nat → Prop) (A1 : Option Addr) (c1 : Nat) (l1 : List Int) (r1 : List Int) (r2 : List Int) (r3 : Int) (w : World) (hs0 : Kd.V (Kd.int .u32) 87 w w.heap.size (fun k_ => P0_ k_) (.slice A0 l0.length c0) l0) (hs1 : Kd.V (Kd.int .u32) 87 w w.heap.size (fun k_ => P1_ k_) (.slice A1 l1.length c1) l1) (h : nat_DivMod.f k l0 l1 = some (r1, r2, r3)) :
  Calls Try.prog 67 #[.slice A0 l0.length c0, .slice A1 l1.length c1] w fun e w' => ∃ v0_ v1_ : Value, e = .returned (.tuple #[v0_, v1_, .int .i64 r3]) ∧ Kd.V (Kd.int .u32) 87 w' w.heap.size (fun k_ => ((P0_ k_ ∨ P1_ k_) ∨ w.heap.size ≤ k_)) v0_ r1 ∧ Kd.V (Kd.int .u32) 87 w' w.heap.size (fun k_ => ((P0_ k_ ∨ P1_ k_) ∨ w.heap.size ≤ k_)) v1_ r2 ∧ Below w.heap.size w w' := by
 have HO0 := Aside0.mk (show Kd.V (Kd.int .u32) 87 w w.heap.size (fun k_ => ((P0_ k_ ∨ P1_ k_) ∨ w.heap.size ≤ k_)) (.slice A0 l0.length c0) l0 from Kd.V_mono hs0 (fun k_ hk => .inl (.inl hk)))
 have HO1 := Aside0.mk (show Kd.V (Kd.int .u32) 87 w w.heap.size (fun k_ => ((P0_ k_ ∨ P1_ k_) ∨ w.heap.size ≤ k_)) (.slice A1 l1.length c1) l1 from Kd.V_mono hs1 (fun k_ hk => .inl (.inr hk)))
 have HB := Aside0.mk (Below.refl w.heap.size w)
 have H : ((nat_trim.f k l0).bind fun t462 => ((nat_trim.f k l1).bind fun t465 => (if (t465.length : Int) = 0 then (some (([] : List Int), ([] : List Int), 4)) else ((nat_Cmp.f k t462 t465).bind fun t468 => (if t468 < 0 then ((nat_Norm.f k t462).bind fun t469 => (some (([] : List Int), t469, 0))) else (if (t465.length : Int) = 1 then (if 0 < (t465.length : Int) then ((nat_short.f k t462 (rd t465 0)).bind fun bt473 => ((nat_Of.f k (IntKind.u64.wrap (bt473.2))).bind fun t477 => (some (bt473.1, t477, 0)))) else (none)) else (if 0 ≤ (wrap64 ((t465.length : Int) - 1)) then (if (wrap64 ((t465.length : Int) - 1)) < (t465.length : Int) then ((bits_LeadingZeros32.f (rd t465 (wrap64 ((t465.length : Int) - 1)))).bind fun t481 => ((nat_left.f k t462 (IntKind.u64.wrap (t481))).bind fun t482 => ((nat_left.f k t465 (IntKind.u64.wrap (t481))).bind fun t485 => ((nat_trim.f k t485).bind fun t488 => (if 0 ≤ (wrap64 ((wrap64 ((t462.length : Int) - (t465.length : Int))) + 1)) then (if (wrap64 ((wrap64 ((t462.length : Int) - (t465.length : Int))) + 1) : Int).toNat ≤ 70368744177664 then (nat_DivMod.l0 k (List.replicate (wrap64 ((wrap64 ((t462.length : Int) - (t465.length : Int))) + 1) : Int).toNat 0) (IntKind.u64.wrap (t481)) t482 t488 (wrap64 ((t462.length : Int) - (t465.length : Int)))) else (none)) else (none)))))) else (none)) else (none)))))))) = some (r1, r2, r3) := h
 clear h
 replace H := bi H
 obtain ⟨t462, A30, H⟩ := H
 have A3 := Aside0.mk A30
 clear A30
 replace H := bi H
 obtain ⟨t465, A40, H⟩ := H
 have A4 := Aside0.mk A40
 clear A40
 by_cases c5 : (t465.length : Int) = 0
 ·rw [if_pos c5] at H
  have c5b0 : ((t465.length : Int) == 0) = true := beq_iff_eq.mpr c5
  have c5b1 : ((t465.length : Int) != 0) = false := bne_eq_false_iff_eq.mpr c5
  clear c5
  simp only [Option.some.injEq, Prod.mk.injEq] at H
  obtain ⟨rfl, rfl, rfl⟩ := H
  go_enter Try.func67, Try.ntmps67
  go_wp2_with (first | ((with_reducible refine gate_callee (f := 81) rfl ?_); refine gL (N := some 15) Try.func81 #[.slice A0 l0.length c0] ?_; (with_reducible refine (nat_trim.calls k (fun k_ => ((P0_ k_ ∨ P1_ k_) ∨ w.heap.size ≤ k_)) _ _ l0 t462 _ ?side1 A3.out).mono ?_); (case side1 => exact HO0.out); rintro e w6 ⟨v463, rfl, ho0, hb⟩; refine ⟨_, rfl, ?_⟩; replace HO1 := vb HO1 hb; replace HB := bs HB hb; (try clear hb); (try clear hb2); (try clear hk); (try clear hi); (try clear ho0)) | ((with_reducible refine gate_callee (f := 81) rfl ?_); refine gL (N := some 17) Try.func81 #[.slice A1 l1.length c1] ?_; (with_reducible refine (nat_trim.calls k (fun k_ => ((P0_ k_ ∨ P1_ k_) ∨ w.heap.size ≤ k_)) _ _ l1 t465 _ ?side1 A4.out).mono ?_); (case side1 => exact HO1.out); rintro e w7 ⟨v466, rfl, ho0, hb⟩; refine ⟨_, rfl, ?_⟩; have HO467 := Aside0.mk (Kd.V_lower (Kd.V_mono (ok' := fun k_ => ((P0_ k_ ∨ P1_ k_) ∨ w.heap.size ≤ k_)) ho0 (fun k_ hk_ => Or.elim hk_ (fun hs_ => hs_) (fun hn_ => (.inr (Nat.le_trans (below_size (tb HB)) hn_))))) (below_size (tb HB))); replace HB := bs HB hb; (try clear hb); (try clear hb2); (try clear hk); (try clear hi); (try clear ho0); obtain ⟨Ao8, co8, eo8⟩ := Kd.V_slice HO467.out; subst eo8))
  go_ret3
  exact ⟨_, _, by first | rfl | (simp [errW_none, errW_some] <;> rfl) | (simp [*, errW_none, errW_some] <;> rfl), Kd.V_nil _ _ _ _ _, Kd.V_nil _ _ _ _ _, tb HB⟩
 ·rw [if_neg c5] at H
  have c5b0 : ((t465.length : Int) == 0) = false := beq_eq_false_iff_ne.mpr c5
  have c5b1 : ((t465.length : Int) != 0) = true := bne_iff_ne.mpr c5
  have c5b2 : ¬ (t465 = []) := fun h_ => c5 (by rw [h_]; rfl)
  replace H := bi H
  obtain ⟨t468, A90, H⟩ := H
  have A9 := Aside0.mk A90
  clear A90
  by_cases c10 : t468 < 0
  ·rw [if_pos c10] at H
   have c10b0 : decide (t468 < 0) = true := decide_eq_true c10
   clear c10
   replace H := bi H
   obtain ⟨t469, A110, H⟩ := H
   have A11 := Aside0.mk A110
   clear A110
   simp only [Option.some.injEq, Prod.mk.injEq] at H
   obtain ⟨rfl, rfl, rfl⟩ := H
   go_enter Try.func67, Try.ntmps67
   go_wp2_with (first | ((with_reducible refine gate_callee (f := 81) rfl ?_); refine gL (N := some 15) Try.func81 #[.slice A0 l0.length c0] ?_; (with_reducible refine (nat_trim.calls k (fun k_ => ((P0_ k_ ∨ P1_ k_) ∨ w.heap.size ≤ k_)) _ _ l0 t462 _ ?side1 A3.out).mono ?_); (case side1 => exact HO0.out); rintro e w12 ⟨v463, rfl, ho0, hb⟩; refine ⟨_, rfl, ?_⟩; have HO464 := Aside0.mk (Kd.V_lower (Kd.V_mono (ok' := fun k_ => ((P0_ k_ ∨ P1_ k_) ∨ w.heap.size ≤ k_)) ho0 (fun k_ hk_ => Or.elim hk_ (fun hs_ => hs_) (fun hn_ => (.inr (Nat.le_trans (below_size (tb HB)) hn_))))) (below_size (tb HB))); replace HO1 := vb HO1 hb; replace HB := bs HB hb; (try clear hb); (try clear hb2); (try clear hk); (try clear hi); (try clear ho0)) | ((with_reducible refine gate_callee (f := 81) rfl ?_); refine gL (N := some 17) Try.func81 #[.slice A1 l1.length c1] ?_; (with_reducible refine (nat_trim.calls k (fun k_ => ((P0_ k_ ∨ P1_ k_) ∨ w.heap.size ≤ k_)) _ _ l1 t465 _ ?side1 A4.out).mono ?_); (case side1 => exact HO1.out); rintro e w13 ⟨v466, rfl, ho0, hb⟩; refine ⟨_, rfl, ?_⟩; have HO467 := Aside0.mk (Kd.V_lower (Kd.V_mono (ok' := fun k_ => ((P0_ k_ ∨ P1_ k_) ∨ w.heap.size ≤ k_)) ho0 (fun k_ hk_ => Or.elim hk_ (fun hs_ => hs_) (fun hn_ => (.inr (Nat.le_trans (below_size (tb HB)) hn_))))) (below_size (tb HB))); replace HO464 := vb HO464 hb; replace HB := bs HB hb; (try clear hb); (try clear hb2); (try clear hk); (try clear hi); (try clear ho0); obtain ⟨Ao14, co14, eo14⟩ := Kd.V_slice HO467.out; subst eo14; obtain ⟨Ao15, co15, eo15⟩ := Kd.V_slice HO464.out; subst eo15) | ((with_reducible refine gate_callee (f := 65) rfl ?_); refine gL (N := some 25) Try.func65 #[.slice Ao15 t462.length co15, .slice Ao14 t465.length co14] ?_; (with_reducible refine (nat_Cmp.calls k _ _ t462 _ _ t465 t468 _ ?side1 ?side2 ?side3 ?side4 A9.out).mono ?_); (case side1 => exact tc (Kd.V_reads' HO464.out).2.2); (case side2 => exact (Kd.V_reads' HO464.out).2.1); (case side3 => exact tc (Kd.V_reads' HO467.out).2.2); (case side4 => exact (Kd.V_reads' HO467.out).2.1); rintro e w16 ⟨rfl, hb⟩; refine ⟨_, rfl, ?_⟩; replace HO464 := vb HO464 hb; replace HB := bs HB hb; (try clear hb); (try clear hb2); (try clear hk); (try clear hi)) | ((with_reducible refine gate_callee (f := 75) rfl ?_); refine gL (N := some 28) Try.func75 #[.slice Ao15 t462.length co15] ?_; (with_reducible refine (nat_Norm.calls k _ _ t462 t469 _ ?side1 ?side2 A11.out).mono ?_); (case side1 => exact tc (Kd.V_reads' HO464.out).2.2); (case side2 => exact (Kd.V_reads' HO464.out).2.1); rintro e w17 ⟨v470, rfl, ho0, hb⟩; refine ⟨_, rfl, ?_⟩; have HO471 := Aside0.mk (Kd.R_lower (Kd.R_newM (M := fun k_ => (w.heap.size ≤ k_)) ho0 (below_size (tb HB)) (fun k_ h_ => h_)) (below_size (tb HB))); replace HB := bs HB hb; (try clear hb); (try clear hb2); (try clear hk); (try clear hi); (try clear ho0)))
   go_ret3
   exact ⟨_, _, by first | rfl | (simp [errW_none, errW_some] <;> rfl) | (simp [*, errW_none, errW_some] <;> rfl), Kd.V_nil _ _ _ _ _, Kd.V_mono (Kd.R_V (by (with_reducible repeat first | apply qa | apply qn | apply qd); exact Kd.R_mono HO471.out (fun _ hk => hk.1))) (fun k_ hk => by first | exact ⟨(.inr (hk.1)), hk.2⟩ | exact (.inr (hk))), tb HB⟩
  ·rw [if_neg c10] at H
   have c10b0 : decide (t468 < 0) = false := decide_eq_false c10
   clear c10
   by_cases c18 : (t465.length : Int) = 1
   ·rw [if_pos c18] at H
    have c18b0 : ((t465.length : Int) == 1) = true := beq_iff_eq.mpr c18
    have c18b1 : ((t465.length : Int) != 1) = false := bne_eq_false_iff_eq.mpr c18
    clear c18
    by_cases c19 : 0 < (t465.length : Int)
    ·rw [if_pos c19] at H
     have c19b0 : decide (0 < (t465.length : Int)) = true := decide_eq_true c19
     have c19b1 : decide (0 < t465.length) = true := decide_eq_true (by omega)
     clear c19
     replace H := bi H
     obtain ⟨⟨t473, t476⟩, A200, H⟩ := H
     try dsimp only at H
     have A20 := Aside0.mk A200
     clear A200
     replace H := bi H
     obtain ⟨t477, A210, H⟩ := H
     have A21 := Aside0.mk A210
     clear A210
     simp only [Option.some.injEq, Prod.mk.injEq] at H
     obtain ⟨rfl, rfl, rfl⟩ := H
     go_enter Try.func67, Try.ntmps67
     go_wp2_with (first | ((with_reducible refine gate_callee (f := 81) rfl ?_); refine gL (N := some 15) Try.func81 #[.slice A0 l0.length c0] ?_; (with_reducible refine (nat_trim.calls k (fun k_ => ((P0_ k_ ∨ P1_ k_) ∨ w.heap.size ≤ k_)) _ _ l0 t462 _ ?side1 A3.out).mono ?_); (case side1 => exact HO0.out); rintro e w22 ⟨v463, rfl, ho0, hb⟩; refine ⟨_, rfl, ?_⟩; have HO464 := Aside0.mk (Kd.V_lower (Kd.V_mono (ok' := fun k_ => ((P0_ k_ ∨ P1_ k_) ∨ w.heap.size ≤ k_)) ho0 (fun k_ hk_ => Or.elim hk_ (fun hs_ => hs_) (fun hn_ => (.inr (Nat.le_trans (below_size (tb HB)) hn_))))) (below_size (tb HB))); replace HO1 := vb HO1 hb; replace HB := bs HB hb; (try clear hb); (try clear hb2); (try clear hk); (try clear hi); (try clear ho0)) | ((with_reducible refine gate_callee (f := 81) rfl ?_); refine gL (N := some 17) Try.func81 #[.slice A1 l1.length c1] ?_; (with_reducible refine (nat_trim.calls k (fun k_ => ((P0_ k_ ∨ P1_ k_) ∨ w.heap.size ≤ k_)) _ _ l1 t465 _ ?side1 A4.out).mono ?_); (case side1 => exact HO1.out); rintro e w23 ⟨v466, rfl, ho0, hb⟩; refine ⟨_, rfl, ?_⟩; have HO467 := Aside0.mk (Kd.V_lower (Kd.V_mono (ok' := fun k_ => ((P0_ k_ ∨ P1_ k_) ∨ w.heap.size ≤ k_)) ho0 (fun k_ hk_ => Or.elim hk_ (fun hs_ => hs_) (fun hn_ => (.inr (Nat.le_trans (below_size (tb HB)) hn_))))) (below_size (tb HB))); replace HO464 := vb HO464 hb; replace HB := bs HB hb; (try clear hb); (try clear hb2); (try clear hk); (try clear hi); (try clear ho0); obtain ⟨Ao24, co24, eo24⟩ := Kd.V_slice HO467.out; subst eo24; obtain ⟨Ao25, co25, eo25⟩ := Kd.V_slice HO464.out; subst eo25) | ((with_reducible refine gate_callee (f := 65) rfl ?_); refine gL (N := some 25) Try.func65 #[.slice Ao25 t462.length co25, .slice Ao24 t465.length co24] ?_; (with_reducible refine (nat_Cmp.calls k _ _ t462 _ _ t465 t468 _ ?side1 ?side2 ?side3 ?side4 A9.out).mono ?_); (case side1 => exact tc (Kd.V_reads' HO464.out).2.2); (case side2 => exact (Kd.V_reads' HO464.out).2.1); (case side3 => exact tc (Kd.V_reads' HO467.out).2.2); (case side4 => exact (Kd.V_reads' HO467.out).2.1); rintro e w26 ⟨rfl, hb⟩; refine ⟨_, rfl, ?_⟩; replace HO464 := vb HO464 hb; replace HO467 := vb HO467 hb; replace HB := bs HB hb; (try clear hb); (try clear hb2); (try clear hk); (try clear hi); have p472 : 0 ≤ (0 : Int) := (by omega); have q472 : 0 < (t465.length : Int) := td; obtain ⟨ad472, e472, hx472_0⟩ := Kd.at_int (Kd.V_reads' HO467.out).2.2 0 p472 q472; cases e472; have qi472 : (0 < t465.length) = True := eq_true (by omega); (try rw [show ((0 : Int)).toNat = 0 from rfl] at hx472_0); (try rw [Addr.add_zero'] at hx472_0); replace p472 := eq_true p472; replace q472 := eq_true q472) | ((with_reducible refine gate_callee (f := 77) rfl ?_); refine gL (N := some 38) Try.func77 #[.slice Ao25 t462.length co25, .int .u32 (rd t465 0)] ?_; (with_reducible refine (nat_short.calls k _ _ t462 (rd t465 0) t473 t476 _ ?side1 ?side2 A20.out).mono ?_); (case side1 => exact tc (Kd.V_reads' HO464.out).2.2); (case side2 => exact (Kd.V_reads' HO464.out).2.1); rintro e w27 ⟨v474, rfl, ho0, hb⟩; refine ⟨_, rfl, ?_⟩; have HO475 := Aside0.mk (Kd.V_lower (Kd.V_mono (ok' := fun k_ => ((P0_ k_ ∨ P1_ k_) ∨ w.heap.size ≤ k_)) ho0 (fun k_ hk_ => (.inr (Nat.le_trans (below_size (tb HB)) hk_)))) (below_size (tb HB))); replace HB := bs HB hb; (try clear hb); (try clear hb2); (try clear hk); (try clear hi); (try clear ho0)) | ((with_reducible refine gate_callee (f := 71) rfl ?_); refine gL (N := some 44) Try.func71 #[.int .u64 (IntKind.u64.wrap (t476))] ?_; (with_reducible refine (nat_Of.calls k (IntKind.u64.wrap (t476)) t477 _ A21.out).mono ?_); rintro e w28 ⟨v478, rfl, ho0, hb⟩; refine ⟨_, rfl, ?_⟩; have HO479 := Aside0.mk (Kd.R_lower (Kd.R_newM (M := fun k_ => (w.heap.size ≤ k_)) ho0 (below_size (tb HB)) (fun k_ h_ => h_)) (below_size (tb HB))); replace HO475 := Aside0.mk (Kd.V_elder' (tv HO475) (Kd.R_base ho0) hb); replace HB := bs HB hb; (try clear hb); (try clear hb2); (try clear hk); (try clear hi); (try clear ho0)))
     go_ret3
     exact ⟨_, _, by first | rfl | (simp [errW_none, errW_some] <;> rfl) | (simp [*, errW_none, errW_some] <;> rfl), by (with_reducible repeat first | apply va | apply vn | apply vd); exact Kd.V_mono HO475.out (fun _ hk => hk.1), Kd.V_mono (Kd.R_V (by (with_reducible repeat first | apply qa | apply qn | apply qd); exact Kd.R_mono HO479.out (fun _ hk => hk.1))) (fun k_ hk => by first | exact ⟨(.inr (hk.1)), hk.2⟩ | exact (.inr (hk))), tb HB⟩
    ·rw [if_neg c19] at H
     exact absurd H (by simp)
   ·rw [if_neg c18] at H
    have c18b0 : ((t465.length : Int) == 1) = false := beq_eq_false_iff_ne.mpr c18
    have c18b1 : ((t465.length : Int) != 1) = true := bne_iff_ne.mpr c18
    obtain ⟨ji29, hji29⟩ : ∃ j_ : Int, (wrap64 ((t465.length : Int) - 1)) = j_ := ⟨_, rfl⟩
    replace H : (if 0 ≤ (ji29) then (if (ji29) < (t465.length : Int) then ((bits_LeadingZeros32.f (rd t465 (ji29))).bind fun t481 => ((nat_left.f k t462 (IntKind.u64.wrap (t481))).bind fun t482 => ((nat_left.f k t465 (IntKind.u64.wrap (t481))).bind fun t485 => ((nat_trim.f k t485).bind fun t488 => (if 0 ≤ (wrap64 ((wrap64 ((t462.length : Int) - (t465.length : Int))) + 1)) then (if (wrap64 ((wrap64 ((t462.length : Int) - (t465.length : Int))) + 1) : Int).toNat ≤ 70368744177664 then (nat_DivMod.l0 k (List.replicate (wrap64 ((wrap64 ((t462.length : Int) - (t465.length : Int))) + 1) : Int).toNat 0) (IntKind.u64.wrap (t481)) t482 t488 (wrap64 ((t462.length : Int) - (t465.length : Int)))) else (none)) else (none)))))) else (none)) else (none)) = some (r1, r2, r3) := by first | (rw [hji29] at H; exact H) | (simp only [hji29] at H ⊢; exact H)
    (try rw [hji29] at A3)
    (try rw [hji29] at A4)
    (try rw [hji29] at A9)
    have hji29w : (IntKind.i64.wrap ((t465.length : Int) - 1)) = ji29 := (i64_w _).trans hji29
    by_cases c30 : 0 ≤ (ji29)
    ·rw [if_pos c30] at H
     have c30b0 : decide (0 ≤ (ji29)) = true := decide_eq_true c30
     clear c30
     by_cases c31 : (ji29) < (t465.length : Int)
     ·rw [if_pos c31] at H
      have c31b0 : decide ((ji29) < (t465.length : Int)) = true := decide_eq_true c31
      clear c31
      replace H := bi H
      obtain ⟨t481, A320, H⟩ := H
      have A32 := Aside0.mk A320
      clear A320
      replace H := bi H
      obtain ⟨t482, A330, H⟩ := H
      have A33 := Aside0.mk A330
      clear A330
      replace H := bi H
      obtain ⟨t485, A340, H⟩ := H
      have A34 := Aside0.mk A340
      clear A340
      replace H := bi H
      obtain ⟨t488, A350, H⟩ := H
      have A35 := Aside0.mk A350
      clear A350
      obtain ⟨ji36, hji36⟩ : ∃ j_ : Int, (wrap64 ((wrap64 ((t462.length : Int) - (t465.length : Int))) + 1)) = j_ := ⟨_, rfl⟩
      replace H : (if 0 ≤ (ji36) then (if (ji36 : Int).toNat ≤ 70368744177664 then (nat_DivMod.l0 k (List.replicate (ji36 : Int).toNat 0) (IntKind.u64.wrap (t481)) t482 t488 (wrap64 ((t462.length : Int) - (t465.length : Int)))) else (none)) else (none)) = some (r1, r2, r3) := by first | (rw [hji36] at H; exact H) | (simp only [hji36] at H ⊢; exact H)
      (try rw [hji36] at A3)
      (try rw [hji36] at A4)
      (try rw [hji36] at A9)
      (try rw [hji36] at A32)
      (try rw [hji36] at A33)
      (try rw [hji36] at A34)
      (try rw [hji36] at A35)
      have hji36w : (IntKind.i64.wrap ((wrap64 ((t462.length : Int) - (t465.length : Int))) + 1)) = ji36 := (i64_w _).trans hji36
      by_cases c37 : 0 ≤ (ji36)
      ·rw [if_pos c37] at H
       have c37b0 := eq_true c37
       have c37b1 : decide (0 ≤ (ji36)) = true := decide_eq_true c37
       clear c37
       by_cases c38 : (ji36 : Int).toNat ≤ 70368744177664
       ·rw [if_pos c38] at H
        have c38b0 := eq_true c38
        have c38b1 : decide ((ji36 : Int).toNat ≤ 70368744177664) = true := decide_eq_true c38
        clear c38
        obtain ⟨y491, hy491⟩ : ∃ y_ : List Int, y_ = (List.replicate (ji36 : Int).toNat 0) := ⟨_, rfl⟩
        replace H : (nat_DivMod.l0 k y491 (IntKind.u64.wrap (t481)) t482 t488 (wrap64 ((t462.length : Int) - (t465.length : Int)))) = some (r1, r2, r3) := by first | (rw [hy491]; with_reducible exact H) | (have H2_ := (Option.bind_some _ _).symm.trans H; rw [hy491]; with_reducible exact H2_) | (have H2_ := (Option.bind_some _ _).symm.trans H; with_reducible exact H2_) | with_reducible exact H | (rw [hy491]; exact H) | exact H
        have Ny491 := Aside0.mk hy491
        clear hy491
        have H' := Aside0.mk H
        clear H
        go_enter Try.func67, Try.ntmps67
        go_wp2_with (first | ((with_reducible refine gate_callee (f := 81) rfl ?_); refine gL (N := some 15) Try.func81 #[.slice A0 l0.length c0] ?_; (with_reducible refine (nat_trim.calls k (fun k_ => ((P0_ k_ ∨ P1_ k_) ∨ w.heap.size ≤ k_)) _ _ l0 t462 _ ?side1 A3.out).mono ?_); (case side1 => exact HO0.out); rintro e w39 ⟨v463, rfl, ho0, hb⟩; refine ⟨_, rfl, ?_⟩; have HO464 := Aside0.mk (Kd.V_lower (Kd.V_mono (ok' := fun k_ => ((P0_ k_ ∨ P1_ k_) ∨ w.heap.size ≤ k_)) ho0 (fun k_ hk_ => Or.elim hk_ (fun hs_ => hs_) (fun hn_ => (.inr (Nat.le_trans (below_size (tb HB)) hn_))))) (below_size (tb HB))); replace HO1 := vb HO1 hb; replace HB := bs HB hb; (try clear hb); (try clear hb2); (try clear hk); (try clear hi); (try clear ho0)) | ((with_reducible refine gate_callee (f := 81) rfl ?_); refine gL (N := some 17) Try.func81 #[.slice A1 l1.length c1] ?_; (with_reducible refine (nat_trim.calls k (fun k_ => ((P0_ k_ ∨ P1_ k_) ∨ w.heap.size ≤ k_)) _ _ l1 t465 _ ?side1 A4.out).mono ?_); (case side1 => exact HO1.out); rintro e w40 ⟨v466, rfl, ho0, hb⟩; refine ⟨_, rfl, ?_⟩; have HO467 := Aside0.mk (Kd.V_lower (Kd.V_mono (ok' := fun k_ => ((P0_ k_ ∨ P1_ k_) ∨ w.heap.size ≤ k_)) ho0 (fun k_ hk_ => Or.elim hk_ (fun hs_ => hs_) (fun hn_ => (.inr (Nat.le_trans (below_size (tb HB)) hn_))))) (below_size (tb HB))); replace HO464 := vb HO464 hb; replace HB := bs HB hb; (try clear hb); (try clear hb2); (try clear hk); (try clear hi); (try clear ho0); obtain ⟨Ao41, co41, eo41⟩ := Kd.V_slice HO467.out; subst eo41; obtain ⟨Ao42, co42, eo42⟩ := Kd.V_slice HO464.out; subst eo42) | ((with_reducible refine gate_callee (f := 65) rfl ?_); refine gL (N := some 25) Try.func65 #[.slice Ao42 t462.length co42, .slice Ao41 t465.length co41] ?_; (with_reducible refine (nat_Cmp.calls k _ _ t462 _ _ t465 t468 _ ?side1 ?side2 ?side3 ?side4 A9.out).mono ?_); (case side1 => exact tc (Kd.V_reads' HO464.out).2.2); (case side2 => exact (Kd.V_reads' HO464.out).2.1); (case side3 => exact tc (Kd.V_reads' HO467.out).2.2); (case side4 => exact (Kd.V_reads' HO467.out).2.1); rintro e w43 ⟨rfl, hb⟩; refine ⟨_, rfl, ?_⟩; replace HO464 := vb HO464 hb; replace HO467 := vb HO467 hb; replace HB := bs HB hb; (try clear hb); (try clear hb2); (try clear hk); (try clear hi); have p480 : 0 ≤ ((ji29) : Int) := td; have q480 : (ji29) < (t465.length : Int) := td; obtain ⟨ad480, e480, hx480_0⟩ := Kd.at_int (Kd.V_reads' HO467.out).2.2 (ji29) p480 q480; cases e480; replace p480 := eq_true p480; replace q480 := eq_true q480) | ((with_reducible refine gate_callee (f := 84) rfl ?_); refine goesL_ (some 51) rfl rfl Try.func84 (by kernel_rfl) rfl #[.int .u32 (rd t465 (ji29))] rfl (by (try simp only [List.map_toArray, List.map_cons, List.map_nil]); first | done | (simp only [hji29]; rfl) | rfl | (simp only [List.length_drop, List.length_take]; rfl)) ?_; (with_reducible refine (bits_LeadingZeros32.calls (rd t465 (ji29)) t481 _ A32.out).mono ?_); rintro e w' ⟨rfl, ⟨nd, rfl⟩⟩; refine ⟨_, rfl, ?_⟩) | ((with_reducible refine gate_callee (f := 85) rfl ?_); refine gL (N := some 55) Try.func85 #[.slice Ao42 t462.length co42, .int .u64 (IntKind.u64.wrap (t481))] ?_; (with_reducible refine (nat_left.calls k _ _ t462 (IntKind.u64.wrap (t481)) t482 _ ?side1 ?side2 A33.out).mono ?_); (case side1 => exact tc (Kd.V_reads' HO464.out).2.2); (case side2 => exact (Kd.V_reads' HO464.out).2.1); rintro e w44 ⟨v483, rfl, ho0, hb⟩; refine ⟨_, rfl, ?_⟩; have HO484 := Aside0.mk (Kd.R_lower (Kd.R_newM (M := fun k_ => (w.heap.size ≤ k_)) ho0 (below_size (tb HB)) (fun k_ h_ => h_)) (below_size (tb HB))); replace HO467 := Aside0.mk (Kd.V_elder' (tv HO467) (Kd.R_base ho0) hb); replace HB := bs HB hb; (try clear hb); (try clear hb2); (try clear hk); (try clear hi); (try clear ho0)) | ((with_reducible refine gate_callee (f := 85) rfl ?_); refine gL (N := some 58) Try.func85 #[.slice (some ad480) t465.length co41, .int .u64 (IntKind.u64.wrap (t481))] ?_; (with_reducible refine (nat_left.calls k _ _ t465 (IntKind.u64.wrap (t481)) t485 _ ?side1 ?side2 A34.out).mono ?_); (case side1 => exact tc (Kd.V_reads' HO467.out).2.2); (case side2 => exact (Kd.V_reads' HO467.out).2.1); rintro e w45 ⟨v486, rfl, ho0, hb⟩; refine ⟨_, rfl, ?_⟩; have HO487 := Aside0.mk (Kd.R_lower (Kd.R_new' (Kd.R_newM (M := fun k_ => (w.heap.size ≤ k_)) ho0 (below_size (tb HB)) (fun k_ h_ => h_)) (Kd.R_lt (tq HO484))) (below_size (tb HB))); replace HO484 := re HO484 (Kd.R_base ho0) hb; replace HB := bs HB hb; (try clear hb); (try clear hb2); (try clear hk); (try clear hi); (try clear ho0); obtain ⟨Ao46, co46, eo46⟩ := Kd.R_slice HO487.out; subst eo46) | ((with_reducible refine gate_callee (f := 81) rfl ?_); refine gL (N := some 59) Try.func81 #[.slice Ao46 t485.length co46] ?_; (with_reducible refine (nat_trim.calls k (fun k_ => some k_ = (.slice Ao46 t485.length co46 : Value).ownBlock) _ _ t485 t488 _ ?side1 A35.out).mono ?_); (case side1 => exact Kd.R_V (Kd.R_tight rfl (HO487.out))); rintro e w47 ⟨v489, rfl, ho0, hb⟩; refine ⟨_, rfl, ?_⟩; have HO490 := Aside0.mk (Kd.V_lower (Kd.V_mono (ok' := fun k_ => ((P0_ k_ ∨ P1_ k_) ∨ w.heap.size ≤ k_) ∧ some k_ ≠ (v483 : Value).ownBlock) ho0 (fun k_ hk_ => ⟨Or.elim hk_ (fun hs_ => (.inr (((HO487.out).1 k_ hs_.symm).1.1))) (fun hn_ => (.inr (Nat.le_trans (below_size (tb HB)) hn_))), Or.elim hk_ (fun hs_ => ((HO487.out).1 k_ hs_.symm).2) (fun hn_ => (Kd.fresh' (Kd.R_lt (tq HO484)) k_ hn_))⟩)) (below_size (tb HB))); replace HO484 := rb HO484 hb; replace HO487 := rb HO487 hb; replace HB := bs HB hb; (try clear hb); (try clear hb2); (try clear hk); (try clear hi); (try clear ho0)) | ((with_reducible refine gate_dst (N := 66) rfl ?_); refine Kd.R_make (Kd.int .u32) _ 87 rfl (N := 66) rfl 22 _ _ rfl ji36 rfl rfl Try.underlying22 (.int .u32 0) 4 info87 rfl (by decide) (by omega) 0 (ok := fun _ => True) (okp := fun _ => True) rfl (fun _ hk => hk) trivial (td) (Nat.le_trans (Nat.mul_le_mul_right _ (td : ji36.toNat ≤ 70368744177664)) (by omega)) (Below.refl _ _) (Nat.le_refl _) ?_; intro v492 w48 ho49 hb hg_ hnew_; clear hg_ hnew_; (first | rw [← Ny491.out] at ho49 | (simp only [Int.reduceToNat] at ho49; rw [← Ny491.out] at ho49)); have HO493 := Aside0.mk (Kd.R_lower (Kd.R_new' (Kd.R_new' (Kd.R_newM (M := fun k_ => (w.heap.size ≤ k_)) ho49 (below_size (tb HB)) (fun k_ h_ => h_)) (Kd.R_lt (tq HO484))) (Kd.R_lt (tq HO487))) (below_size (tb HB))); replace HO484 := re HO484 (Kd.R_base ho49) hb; replace HO490 := Aside0.mk (Kd.V_elder' (tv HO490) (Kd.R_base ho49) hb); replace HB := bs HB hb; clear hb ho49))
        go_loopg [12] k (fun kq v12 w' => ∃ (x4_1 : List Int) (x10_1 : List Int) (x12_1 : Int), v12 = .int .i64 x12_1 ∧ Aside0 (nat_DivMod.l0 kq x4_1 (IntKind.u64.wrap (t481)) x10_1 t488 x12_1 = some (r1, r2, r3)) ∧ Aside0 (kq ≤ k) ∧ Aside0 (Kd.R (Kd.int .u32) 87 w' w.heap.size (fun k_ => (w.heap.size ≤ k_) ∧ some k_ ≠ (v483 : Value).ownBlock) v492 x4_1) ∧ Aside0 (Kd.R (Kd.int .u32) 87 w' w.heap.size (fun k_ => (w.heap.size ≤ k_) ∧ some k_ ≠ (v492 : Value).ownBlock) v483 x10_1) ∧ Aside0 (Kd.V (Kd.int .u32) 87 w' w.heap.size (fun k_ => ((P0_ k_ ∨ P1_ k_) ∨ w.heap.size ≤ k_) ∧ some k_ ≠ (v492 : Value).ownBlock ∧ some k_ ≠ (v483 : Value).ownBlock) v489 t488) ∧ Aside0 (Below w.heap.size w w'))
        case atStart => exact ⟨(y491), (t482), (wrap64 ((t462.length : Int) - (t465.length : Int))), (by first | rfl | (simp; done) | (simp [*]; done)), H', ⟨Nat.le_refl _⟩, ⟨by (with_reducible repeat first | apply qa | apply qn | apply qd); exact Kd.R_mono HO493.out (fun _ hk => ⟨hk.1.1.1, hk.1.2⟩)⟩, ⟨by (with_reducible repeat first | apply qa | apply qn | apply qd); exact Kd.R_mono HO484.out (fun _ hk => ⟨hk.1.1.1, hk.2⟩)⟩, ⟨by (with_reducible repeat first | apply va | apply vn | apply vd); exact Kd.V_mono HO490.out (fun _ hk => ⟨hk.1.1, ⟨hk.2, hk.1.2⟩⟩)⟩, ⟨tb HB⟩⟩
        case round =>
         clear H'
         (try clear c1); (try clear p2); (try clear c3); (try clear p4); (try clear q4); (try clear hx4); (try clear qi4); (try clear c5); (try clear c5b0); (try clear c5b1); (try clear c5b2); (try clear c6); (try clear p6); (try clear c7); (try clear c8); (try clear c10); (try clear c10b0); (try clear c18); (try clear c18b0); (try clear c18b1); (try clear c19); (try clear c19b0); (try clear c19b1); (try clear c30); (try clear c30b0); (try clear c31); (try clear c31b0); (try clear c37); (try clear c37b0); (try clear c37b1); (try clear c38); (try clear c38b0); (try clear c38b1); (try clear p47); (try clear q47); (try clear hx47); (try clear qi47); (try clear p48); (try clear q48); (try clear hx48); (try clear hx472_0); (try clear hx480_0); (try clear p472); (try clear p480); (try clear q472); (try clear q480)
         obtain ⟨x4_1, x10_1, x12_1, rfl, HA, HK1, HO_4, HO_10, HO_11, HB⟩ := hrel
         cases gk with
         | zero => exact absurd HA.out (by simp [nat_DivMod.l0])
         | succ k1 =>
          have H := HA.out
          clear HA
          simp only [nat_DivMod.l0] at H
          by_cases c50 : x12_1 ≥ 0
          ·rw [if_pos c50] at H
           have c50b0 : decide (0 ≤ x12_1) = true := decide_eq_true c50
           clear c50
           replace H := bi H
           obtain ⟨t500, A510, H⟩ := H
           have A51 := Aside0.mk A510
           clear A510
           replace H := bi H
           obtain ⟨⟨t501, t502⟩, A520, H⟩ := H
           try dsimp only at H
           have A52 := Aside0.mk A520
           clear A520
           by_cases c53 : t501 = true
           ·subst c53
            have H1 : ((nat_raise.f k1 t502 x12_1 t488).bind fun t503 => (if 0 ≤ x12_1 then (if x12_1 < (x4_1.length : Int) then (nat_DivMod.l0 k1 (x4_1.set (x12_1 : Int).toNat ((IntKind.u64.wrap (t500 - 1)) % 4294967296)) (IntKind.u64.wrap (t481)) t503 t488 (wrap64 (x12_1 - 1))) else (none)) else (none))) = some (r1, r2, r3) := by rw [if_pos rfl] at H; exact H
            clear H
            have H := H1
            clear H1
            replace H := bi H
            obtain ⟨t503, A540, H⟩ := H
            have A54 := Aside0.mk A540
            clear A540
            by_cases c55 : 0 ≤ x12_1
            ·rw [if_pos c55] at H
             have c55b0 : decide (0 ≤ x12_1) = true := decide_eq_true c55
             clear c55
             by_cases c56 : x12_1 < (x4_1.length : Int)
             ·rw [if_pos c56] at H
              have c56b0 : decide (x12_1 < (x4_1.length : Int)) = true := decide_eq_true c56
              clear c56
              obtain ⟨y504, hy504⟩ : ∃ y_ : List Int, y_ = (x4_1.set (x12_1 : Int).toNat ((IntKind.u64.wrap (t500 - 1)) % 4294967296)) := ⟨_, rfl⟩
              replace H : (nat_DivMod.l0 k1 y504 (IntKind.u64.wrap (t481)) t503 t488 (wrap64 (x12_1 - 1))) = some (r1, r2, r3) := by first | (rw [hy504]; with_reducible exact H) | (have H2_ := (Option.bind_some _ _).symm.trans H; rw [hy504]; with_reducible exact H2_) | (have H2_ := (Option.bind_some _ _).symm.trans H; with_reducible exact H2_) | with_reducible exact H | (rw [hy504]; exact H) | exact H
              have Ny504 := Aside0.mk hy504
              clear hy504
              have H' := Aside0.mk H
              clear H
              obtain ⟨Ao58, co58, eo58⟩ := Kd.R_slice HO_10.out
              subst eo58
              obtain ⟨Ao59, co59, eo59⟩ := Kd.V_slice HO_11.out
              subst eo59
              go_wp2_with (first | ((with_reducible refine gate_callee (f := 86) rfl ?_); refine gL (N := some 79) Try.func86 #[.slice Ao58 x10_1.length co58, .int .i64 x12_1, .slice Ao59 t488.length co59] ?_; (with_reducible refine (nat_guess.calls k1 _ _ x10_1 x12_1 _ _ t488 t500 _ ?side1 ?side2 ?side3 ?side4 A51.out).mono ?_); (case side1 => exact tc (Kd.R_reads' HO_10.out).2.2); (case side2 => exact (Kd.R_reads' HO_10.out).2.1); (case side3 => exact tc (Kd.V_reads' HO_11.out).2.2); (case side4 => exact (Kd.V_reads' HO_11.out).2.1); rintro e w' ⟨rfl, ⟨nd, rfl⟩⟩; refine ⟨_, rfl, ?_⟩; (try (rw [drewN_self wr]; generalize hq_ : World.drewN wr _ = wr; have n0_ : Aside0 (Kd.R (Kd.int .u32) 87 wr w.heap.size (fun k_ => (w.heap.size ≤ k_) ∧ some k_ ≠ (v492 : Value).ownBlock) (.slice Ao58 x10_1.length co58) x10_1) := ⟨by rw [← hq_]; exact (tq HO_10)⟩; have n1_ := Aside0.mk (Kd.V_at_ hq_ HO_11.out); have n2_ : Aside0 (Kd.R (Kd.int .u32) 87 wr w.heap.size (fun k_ => (w.heap.size ≤ k_) ∧ some k_ ≠ (.slice Ao58 x10_1.length co58 : Value).ownBlock) v492 x4_1) := ⟨by rw [← hq_]; exact (tq HO_4)⟩; have n3_ : Aside0 (Below w.heap.size w wr) := ⟨by rw [← hq_]; exact (tb HB)⟩; clear HO_10 HO_11 HO_4 HB hq_; have HO_10 := n0_; have HO_11 := n1_; have HO_4 := n2_; have HB := n3_; clear n0_ n1_ n2_ n3_))) | ((with_reducible refine gate_callee (f := 87) rfl ?_); refine gL (N := some 84) Try.func87 #[.slice Ao58 x10_1.length co58, .int .i64 x12_1, .int .u64 t500, .slice Ao59 t488.length co59] ?_; (with_reducible refine (nat_lower.calls k1 (fun k_ => some k_ = (.slice Ao58 x10_1.length co58 : Value).ownBlock) (.slice Ao58 x10_1.length co58) x10_1 x12_1 t500 _ _ t488 true t502 w _ ?side1 ?side2 ?side3 ?side4 A52.out).mono ?_); (case side1 => exact tb HB); (case side2 => exact Kd.R_tight rfl HO_10.out); (case side3 => exact Kd.C_kept_ownV (HO_11.out) (fun k_ hk_ hs_ => (hk_.2.2) hs_)); (case side4 => exact (Kd.V_reads' HO_11.out).2.1); rintro e w60 ⟨rfl, hy0, hb, hkp⟩; refine ⟨_, rfl, ?_⟩; replace HO_4 := Aside0.mk (Kd.R_mono (ok' := fun k_ => (w.heap.size ≤ k_) ∧ some k_ ≠ (.slice Ao58 x10_1.length co58 : Value).ownBlock) (Kd.R_keptB (HO_4.out) hkp (fun k_ hk_ hs_ => (hk_.2) hs_)) (fun k_ hk_ => ⟨hk_.1.1, hk_.1.2⟩)); replace HO_10 := Aside0.mk (Kd.R_reok rfl hy0 (fun k_ e_ => HO_10.out.1 k_ e_)); replace HO_11 := Aside0.mk (Kd.V_mono (ok' := fun k_ => ((P0_ k_ ∨ P1_ k_) ∨ w.heap.size ≤ k_) ∧ some k_ ≠ (v492 : Value).ownBlock ∧ some k_ ≠ (.slice Ao58 x10_1.length co58 : Value).ownBlock) (Kd.V_keptB (HO_11.out) hkp (fun k_ hk_ hs_ => (hk_.2.2) hs_)) (fun k_ hk_ => ⟨hk_.1.1, hk_.1.2.1, hk_.1.2.2⟩)); replace HB := Aside0.mk (hb); (try clear hb); (try clear hkp); (try clear hy0)) | ((with_reducible refine gate_callee (f := 88) rfl ?_); refine gL (N := some 90) Try.func88 #[.slice Ao58 x10_1.length co58, .int .i64 x12_1, .slice Ao59 t488.length co59] ?_; (with_reducible refine (nat_raise.calls k1 (fun k_ => some k_ = (.slice Ao58 x10_1.length co58 : Value).ownBlock) (.slice Ao58 x10_1.length co58) t502 x12_1 _ _ t488 t503 w _ ?side1 ?side2 ?side3 ?side4 A54.out).mono ?_); (case side1 => exact tb HB); (case side2 => exact Kd.R_tight rfl HO_10.out); (case side3 => exact Kd.C_kept_ownV (HO_11.out) (fun k_ hk_ hs_ => (hk_.2.2) hs_)); (case side4 => exact (Kd.V_reads' HO_11.out).2.1); rintro e w61 ⟨rfl, hy0, hb, hkp⟩; refine ⟨_, rfl, ?_⟩; replace HO_4 := Aside0.mk (Kd.R_mono (ok' := fun k_ => (w.heap.size ≤ k_) ∧ some k_ ≠ (.slice Ao58 x10_1.length co58 : Value).ownBlock) (Kd.R_keptB (HO_4.out) hkp (fun k_ hk_ hs_ => (hk_.2) hs_)) (fun k_ hk_ => ⟨hk_.1.1, hk_.1.2⟩)); replace HO_10 := Aside0.mk (Kd.R_reok rfl hy0 (fun k_ e_ => HO_10.out.1 k_ e_)); replace HO_11 := Aside0.mk (Kd.V_mono (ok' := fun k_ => ((P0_ k_ ∨ P1_ k_) ∨ w.heap.size ≤ k_) ∧ some k_ ≠ (v492 : Value).ownBlock ∧ some k_ ≠ (.slice Ao58 x10_1.length co58 : Value).ownBlock) (Kd.V_keptB (HO_11.out) hkp (fun k_ hk_ hs_ => (hk_.2.2) hs_)) (fun k_ hk_ => ⟨hk_.1.1, hk_.1.2.1, hk_.1.2.2⟩)); replace HB := Aside0.mk (hb); (try clear hb); (try clear hkp); (try clear hy0); have p57 : 0 ≤ (x12_1 : Int) := td; have q57 : (x12_1 : Int) < ((x4_1.length : Int) : Int) := td; obtain ⟨go57, co57, eo57, gb57, gl57, cl57, HG57⟩ := Kd.R_form HO_4.out (by omega); (first | cases eo57 | (injection eo57 with ea_ en_ ec_; (first | subst ea_ | (injection ea_ with ea_; subst ea_)); subst ec_; clear en_)); have GB57 := Aside0.mk gb57; have GG57 := Aside0.mk HG57; clear gb57 gl57 HG57; obtain ⟨hx57_0, hf57_0⟩ := Kd.R_celln 0 HO_4.out (x12_1 : Int) p57 q57; replace p57 := eq_true p57; replace q57 := eq_true q57; obtain ⟨hy62_, hz62_⟩ := Kd.R_celln 0 HO_4.out (x12_1 : Int) (td) (td); have HP62 := Kd.R_putg HO_4.out (x12_1 : Int) ((IntKind.u64.wrap (t500 - 1)) % 4294967296)) | ((with_reducible refine gate_store (t := 87) (p := 95) rfl ?_); refine store_event (t := 87) (p := 95) (v := ?vo_w63) (w1 := (w61.setCell ⟨go57, (x12_1 : Int).toNat, none⟩ (.int .u32 ((IntKind.u64.wrap (t500 - 1)) % 4294967296)))) ?hg ?ho ?hn ?hr ?_; (case ho => rfl); (case hg => rfl); (case hn => rfl); (case hr => first | (go_simp; done) | (go_simp; rfl)); intro w63 hw; have hg : w61.grownBy w63 (some go57) := (by rw [hw]; exact HP62.2); have hp_ : Kd.R (Kd.int .u32) 87 w63 w.heap.size (fun k_ => (w.heap.size ≤ k_) ∧ some k_ ≠ (.slice Ao58 x10_1.length co58 : Value).ownBlock) (.slice (some ⟨go57, 0, none⟩) x4_1.length co57) y504 := (by rw [hw, Ny504.out]; exact HP62.1); clear HP62; replace HO_4 := Aside0.mk (hp_); replace HO_10 := Aside0.mk (Kd.R_after (v := (.slice (some ⟨go57, 0, none⟩) x4_1.length co57)) (v1 := (.slice (some ⟨go57, 0, none⟩) x4_1.length co57)) (ok := (fun k_ => (w.heap.size ≤ k_))) (tq HO_10) hg (.inl rfl)); replace HO_11 := Aside0.mk (Kd.V_afterv (v := (.slice (some ⟨go57, 0, none⟩) x4_1.length co57)) (v1 := (.slice (some ⟨go57, 0, none⟩) x4_1.length co57)) (ok := (fun k_ => ((P0_ k_ ∨ P1_ k_) ∨ w.heap.size ≤ k_) ∧ some k_ ≠ (.slice Ao58 x10_1.length co58 : Value).ownBlock)) (by (with_reducible repeat first | apply va | apply vn | apply vd); exact Kd.V_mono HO_11.out (fun _ hk => ⟨⟨hk.1, hk.2.2⟩, hk.2.1⟩)) hg (.inl rfl)); replace HB := Aside0.mk ((by rw [hw]; exact below_set (HB.out) GB57.out : Below w.heap.size w w63)); clear hg hw hp_))
              go_roundg k1
              case measure => have := HK1.out; omega
              case rel => exact ⟨(y504), (t503), (wrap64 (x12_1 - 1)), (by first | rfl | (simp; done) | (simp [*]; done)), H', ⟨by have := HK1.out; omega⟩, ⟨tq HO_4⟩, ⟨tq HO_10⟩, ⟨by (with_reducible repeat first | apply va | apply vn | apply vd); exact Kd.V_mono HO_11.out (fun _ hk => ⟨hk.1.1, ⟨hk.2, hk.1.2⟩⟩)⟩, ⟨tb HB⟩⟩
             ·rw [if_neg c56] at H
              exact absurd H (by simp)
            ·rw [if_neg c55] at H
             exact absurd H (by simp)
           ·replace c53 := Bool.eq_false_iff.mpr c53
            subst c53
            have H1 : (if 0 ≤ x12_1 then (if x12_1 < (x4_1.length : Int) then (nat_DivMod.l0 k1 (x4_1.set (x12_1 : Int).toNat ((t500) % 4294967296)) (IntKind.u64.wrap (t481)) t502 t488 (wrap64 (x12_1 - 1))) else (none)) else (none)) = some (r1, r2, r3) := by rw [if_neg (show ¬ (false = true) by decide)] at H; exact H
            clear H
            have H := H1
            clear H1
            by_cases c64 : 0 ≤ x12_1
            ·rw [if_pos c64] at H
             have c64b0 : decide (0 ≤ x12_1) = true := decide_eq_true c64
             clear c64
             by_cases c65 : x12_1 < (x4_1.length : Int)
             ·rw [if_pos c65] at H
              have c65b0 : decide (x12_1 < (x4_1.length : Int)) = true := decide_eq_true c65
              clear c65
              obtain ⟨y505, hy505⟩ : ∃ y_ : List Int, y_ = (x4_1.set (x12_1 : Int).toNat ((t500) % 4294967296)) := ⟨_, rfl⟩
              replace H : (nat_DivMod.l0 k1 y505 (IntKind.u64.wrap (t481)) t502 t488 (wrap64 (x12_1 - 1))) = some (r1, r2, r3) := by first | (rw [hy505]; with_reducible exact H) | (have H2_ := (Option.bind_some _ _).symm.trans H; rw [hy505]; with_reducible exact H2_) | (have H2_ := (Option.bind_some _ _).symm.trans H; with_reducible exact H2_) | with_reducible exact H | (rw [hy505]; exact H) | exact H
              have Ny505 := Aside0.mk hy505
              clear hy505
              have H' := Aside0.mk H
              clear H
              obtain ⟨Ao67, co67, eo67⟩ := Kd.R_slice HO_10.out
              subst eo67
              obtain ⟨Ao68, co68, eo68⟩ := Kd.V_slice HO_11.out
              subst eo68
              go_wp2_with (first | ((with_reducible refine gate_callee (f := 86) rfl ?_); refine gL (N := some 79) Try.func86 #[.slice Ao67 x10_1.length co67, .int .i64 x12_1, .slice Ao68 t488.length co68] ?_; (with_reducible refine (nat_guess.calls k1 _ _ x10_1 x12_1 _ _ t488 t500 _ ?side1 ?side2 ?side3 ?side4 A51.out).mono ?_); (case side1 => exact tc (Kd.R_reads' HO_10.out).2.2); (case side2 => exact (Kd.R_reads' HO_10.out).2.1); (case side3 => exact tc (Kd.V_reads' HO_11.out).2.2); (case side4 => exact (Kd.V_reads' HO_11.out).2.1); rintro e w' ⟨rfl, ⟨nd, rfl⟩⟩; refine ⟨_, rfl, ?_⟩; (try (rw [drewN_self wr]; generalize hq_ : World.drewN wr _ = wr; have n0_ : Aside0 (Kd.R (Kd.int .u32) 87 wr w.heap.size (fun k_ => (w.heap.size ≤ k_) ∧ some k_ ≠ (v492 : Value).ownBlock) (.slice Ao67 x10_1.length co67) x10_1) := ⟨by rw [← hq_]; exact (tq HO_10)⟩; have n1_ := Aside0.mk (Kd.V_at_ hq_ HO_11.out); have n2_ : Aside0 (Kd.R (Kd.int .u32) 87 wr w.heap.size (fun k_ => (w.heap.size ≤ k_) ∧ some k_ ≠ (.slice Ao67 x10_1.length co67 : Value).ownBlock) v492 x4_1) := ⟨by rw [← hq_]; exact (tq HO_4)⟩; have n3_ : Aside0 (Below w.heap.size w wr) := ⟨by rw [← hq_]; exact (tb HB)⟩; clear HO_10 HO_11 HO_4 HB hq_; have HO_10 := n0_; have HO_11 := n1_; have HO_4 := n2_; have HB := n3_; clear n0_ n1_ n2_ n3_))) | ((with_reducible refine gate_callee (f := 87) rfl ?_); refine gL (N := some 84) Try.func87 #[.slice Ao67 x10_1.length co67, .int .i64 x12_1, .int .u64 t500, .slice Ao68 t488.length co68] ?_; (with_reducible refine (nat_lower.calls k1 (fun k_ => some k_ = (.slice Ao67 x10_1.length co67 : Value).ownBlock) (.slice Ao67 x10_1.length co67) x10_1 x12_1 t500 _ _ t488 false t502 w _ ?side1 ?side2 ?side3 ?side4 A52.out).mono ?_); (case side1 => exact tb HB); (case side2 => exact Kd.R_tight rfl HO_10.out); (case side3 => exact Kd.C_kept_ownV (HO_11.out) (fun k_ hk_ hs_ => (hk_.2.2) hs_)); (case side4 => exact (Kd.V_reads' HO_11.out).2.1); rintro e w69 ⟨rfl, hy0, hb, hkp⟩; refine ⟨_, rfl, ?_⟩; replace HO_4 := Aside0.mk (Kd.R_mono (ok' := fun k_ => (w.heap.size ≤ k_) ∧ some k_ ≠ (.slice Ao67 x10_1.length co67 : Value).ownBlock) (Kd.R_keptB (HO_4.out) hkp (fun k_ hk_ hs_ => (hk_.2) hs_)) (fun k_ hk_ => ⟨hk_.1.1, hk_.1.2⟩)); replace HO_10 := Aside0.mk (Kd.R_reok rfl hy0 (fun k_ e_ => HO_10.out.1 k_ e_)); replace HO_11 := Aside0.mk (Kd.V_mono (ok' := fun k_ => ((P0_ k_ ∨ P1_ k_) ∨ w.heap.size ≤ k_) ∧ some k_ ≠ (v492 : Value).ownBlock ∧ some k_ ≠ (.slice Ao67 x10_1.length co67 : Value).ownBlock) (Kd.V_keptB (HO_11.out) hkp (fun k_ hk_ hs_ => (hk_.2.2) hs_)) (fun k_ hk_ => ⟨hk_.1.1, hk_.1.2.1, hk_.1.2.2⟩)); replace HB := Aside0.mk (hb); (try clear hb); (try clear hkp); (try clear hy0); have p66 : 0 ≤ (x12_1 : Int) := td; have q66 : (x12_1 : Int) < ((x4_1.length : Int) : Int) := td; obtain ⟨go66, co66, eo66, gb66, gl66, cl66, HG66⟩ := Kd.R_form HO_4.out (by omega); (first | cases eo66 | (injection eo66 with ea_ en_ ec_; (first | subst ea_ | (injection ea_ with ea_; subst ea_)); subst ec_; clear en_)); have GB66 := Aside0.mk gb66; have GG66 := Aside0.mk HG66; clear gb66 gl66 HG66; obtain ⟨hx66_0, hf66_0⟩ := Kd.R_celln 0 HO_4.out (x12_1 : Int) p66 q66; replace p66 := eq_true p66; replace q66 := eq_true q66; obtain ⟨hy70_, hz70_⟩ := Kd.R_celln 0 HO_4.out (x12_1 : Int) (td) (td); have HP70 := Kd.R_putg HO_4.out (x12_1 : Int) ((t500) % 4294967296)) | ((with_reducible refine gate_store (t := 87) (p := 95) rfl ?_); refine store_event (t := 87) (p := 95) (v := ?vo_w71) (w1 := (w69.setCell ⟨go66, (x12_1 : Int).toNat, none⟩ (.int .u32 ((t500) % 4294967296)))) ?hg ?ho ?hn ?hr ?_; (case ho => rfl); (case hg => rfl); (case hn => rfl); (case hr => first | (go_simp; done) | (go_simp; rfl)); intro w71 hw; have hg : w69.grownBy w71 (some go66) := (by rw [hw]; exact HP70.2); have hp_ : Kd.R (Kd.int .u32) 87 w71 w.heap.size (fun k_ => (w.heap.size ≤ k_) ∧ some k_ ≠ (.slice Ao67 x10_1.length co67 : Value).ownBlock) (.slice (some ⟨go66, 0, none⟩) x4_1.length co66) y505 := (by rw [hw, Ny505.out]; exact HP70.1); clear HP70; replace HO_4 := Aside0.mk (hp_); replace HO_10 := Aside0.mk (Kd.R_after (v := (.slice (some ⟨go66, 0, none⟩) x4_1.length co66)) (v1 := (.slice (some ⟨go66, 0, none⟩) x4_1.length co66)) (ok := (fun k_ => (w.heap.size ≤ k_))) (tq HO_10) hg (.inl rfl)); replace HO_11 := Aside0.mk (Kd.V_afterv (v := (.slice (some ⟨go66, 0, none⟩) x4_1.length co66)) (v1 := (.slice (some ⟨go66, 0, none⟩) x4_1.length co66)) (ok := (fun k_ => ((P0_ k_ ∨ P1_ k_) ∨ w.heap.size ≤ k_) ∧ some k_ ≠ (.slice Ao67 x10_1.length co67 : Value).ownBlock)) (by (with_reducible repeat first | apply va | apply vn | apply vd); exact Kd.V_mono HO_11.out (fun _ hk => ⟨⟨hk.1, hk.2.2⟩, hk.2.1⟩)) hg (.inl rfl)); replace HB := Aside0.mk ((by rw [hw]; exact below_set (HB.out) GB66.out : Below w.heap.size w w71)); clear hg hw hp_))
              go_roundg k1
              case measure => have := HK1.out; omega
              case rel => exact ⟨(y505), (t502), (wrap64 (x12_1 - 1)), (by first | rfl | (simp; done) | (simp [*]; done)), H', ⟨by have := HK1.out; omega⟩, ⟨tq HO_4⟩, ⟨tq HO_10⟩, ⟨by (with_reducible repeat first | apply va | apply vn | apply vd); exact Kd.V_mono HO_11.out (fun _ hk => ⟨hk.1.1, ⟨hk.2, hk.1.2⟩⟩)⟩, ⟨tb HB⟩⟩
             ·rw [if_neg c65] at H
              exact absurd H (by simp)
            ·rw [if_neg c64] at H
             exact absurd H (by simp)
          ·rw [if_neg c50] at H
           have c50b0 : decide (0 ≤ x12_1) = false := decide_eq_false c50
           clear c50
           replace H := bi H
           obtain ⟨t494, A720, H⟩ := H
           have A72 := Aside0.mk A720
           clear A720
           replace H := bi H
           obtain ⟨t497, A730, H⟩ := H
           have A73 := Aside0.mk A730
           clear A730
           simp only [Option.some.injEq, Prod.mk.injEq] at H
           obtain ⟨rfl, rfl, rfl⟩ := H
           obtain ⟨Ao74, co74, eo74⟩ := Kd.R_slice HO_4.out
           subst eo74
           go_wp2_with (first | ((with_reducible refine gate_callee (f := 81) rfl ?_); refine gL (N := some 97) Try.func81 #[.slice Ao74 x4_1.length co74] ?_; (with_reducible refine (nat_trim.calls k1 (fun k_ => some k_ = (.slice Ao74 x4_1.length co74 : Value).ownBlock) _ _ x4_1 t494 _ ?side1 A72.out).mono ?_); (case side1 => exact Kd.R_V (Kd.R_tight rfl (HO_4.out))); rintro e w75 ⟨v495, rfl, ho0, hb⟩; refine ⟨_, rfl, ?_⟩; have HO496 := Aside0.mk (Kd.V_lower (Kd.V_mono (ok' := fun k_ => ((P0_ k_ ∨ P1_ k_) ∨ w.heap.size ≤ k_) ∧ some k_ ≠ (v483 : Value).ownBlock) ho0 (fun k_ hk_ => ⟨Or.elim hk_ (fun hs_ => (.inr (((HO_4.out).1 k_ hs_.symm).1))) (fun hn_ => (.inr (Nat.le_trans (below_size (tb HB)) hn_))), Or.elim hk_ (fun hs_ => ((HO_4.out).1 k_ hs_.symm).2) (fun hn_ => (Kd.fresh' (Kd.R_lt (tq HO_10)) k_ hn_))⟩)) (below_size (tb HB))); replace HO_4 := rb HO_4 hb; replace HO_10 := rb HO_10 hb; replace HB := bs HB hb; (try clear hb); (try clear hb2); (try clear hk); (try clear hi); (try clear ho0); obtain ⟨Ao76, co76, eo76⟩ := Kd.R_slice HO_10.out; subst eo76) | ((with_reducible refine gate_callee (f := 89) rfl ?_); refine gL (N := some 100) Try.func89 #[.slice Ao76 x10_1.length co76, .int .u64 (IntKind.u64.wrap (t481))] ?_; (with_reducible refine (nat_right.calls k1 _ _ x10_1 (IntKind.u64.wrap (t481)) t497 _ ?side1 ?side2 A73.out).mono ?_); (case side1 => exact tc (Kd.R_reads' HO_10.out).2.2); (case side2 => exact (Kd.R_reads' HO_10.out).2.1); rintro e w77 ⟨v498, rfl, ho0, hb⟩; refine ⟨_, rfl, ?_⟩; have HO499 := Aside0.mk (Kd.V_lower (Kd.V_mono (ok' := fun k_ => ((P0_ k_ ∨ P1_ k_) ∨ w.heap.size ≤ k_) ∧ some k_ ≠ (.slice Ao74 x4_1.length co74 : Value).ownBlock ∧ some k_ ≠ (.slice Ao76 x10_1.length co76 : Value).ownBlock) ho0 (fun k_ hk_ => ⟨(.inr (Nat.le_trans (below_size (tb HB)) hk_)), (Kd.fresh' (Kd.R_lt (tq HO_4)) k_ hk_), (Kd.fresh' (Kd.R_lt (tq HO_10)) k_ hk_)⟩)) (below_size (tb HB))); replace HO496 := vb HO496 hb; replace HB := bs HB hb; (try clear hb); (try clear hb2); (try clear hk); (try clear hi); (try clear ho0)))
           go_ret3
           exact ⟨_, _, by first | rfl | (simp [errW_none, errW_some] <;> rfl) | (simp only [← hji29, ← hji36]; first | rfl | (simp [errW_none, errW_some] <;> rfl)) | (simp [*, errW_none, errW_some] <;> rfl), by (with_reducible repeat first | apply va | apply vn | apply vd); exact Kd.V_mono HO496.out (fun _ hk => hk.1), by (with_reducible repeat first | apply va | apply vn | apply vd); exact Kd.V_mono HO499.out (fun _ hk => hk.1), tb HB⟩
       ·rw [if_neg c38] at H
        exact absurd H (by simp)
      ·rw [if_neg c37] at H
       exact absurd H (by simp)
     ·rw [if_neg c31] at H
      exact absurd H (by simp)
    ·rw [if_neg c30] at H
     exact absurd H (by simp)

end Go.Proofs.Ytjpnaapimnoamaa.QBigProducts
