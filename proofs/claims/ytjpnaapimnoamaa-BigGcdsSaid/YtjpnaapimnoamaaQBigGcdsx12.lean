-- written by wip/wprint, a program of this session
import Derived.Test.YtjpnaapimnoamaaQBigGcdsx0
import Derived.Test.YtjpnaapimnoamaaQBigGcdsx1
import Derived.Test.YtjpnaapimnoamaaQBigGcdsx4
import Derived.Test.YtjpnaapimnoamaaQBigGcdsx5
import Derived.Test.YtjpnaapimnoamaaQBigGcdsx9
import Derived.Test.YtjpnaapimnoamaaQBigGcdsx10
import Derived.Test.YtjpnaapimnoamaaQBigGcdsx11
namespace Go.Proofs.Ytjpnaapimnoamaa.QBigGcds
open Go.RowKit Go.Proofs.YtjpnaapimnoamaaW.PrintWords Go.Proofs.YtjpnaapimnoamaaW.PrintLast Go.Proofs.YtjpnaapimnoamaaW.PrintMore
open Go.Proofs.YtjpnaapimnoamaaW.PrintWords.Kd renaming R_alloc → qa, R_drewN → qn, R_drew → qd, V_alloc → va, V_drewN → vn, V_drew → vd
open Go.Proofs.YtjpnaapimnoamaaW.PrintWords renaming below_alloc → ba, pw_below_drewN → bn, below_drew1 → bd
attribute [local go_sem] max2_int min2_int max_two min_two max_three min_three max_four min_four   -- for this text's walks alone
set_option linter.unusedVariables false
set_option linter.unusedSimpArgs false

/-! ### nat_raise: function 88 -/
def nat_raise.l0 : Nat → List Int → Int → List Int → Int → List Int → Int → Int → Option (List Int)
 | 0, _, _, _, _, _, _, _ => none
 | k + 1, x0, x1, x2, x6, x9, x10, x11 => if x11 < x10 then (if 0 ≤ x11 then (if x11 < (x9.length : Int) then (if 0 ≤ (wrap64 (x11 + x1)) then (if (wrap64 (x11 + x1)) < (x0.length : Int) then ((bits_Add32.f (rd x0 (wrap64 (x11 + x1))) (rd x9 x11) x6).bind fun bt446 => (nat_raise.l0 k (x0.set ((wrap64 (x11 + x1)) : Int).toNat bt446.1) x1 x2 bt446.2 x9 x10 (wrap64 (x11 + 1)))) else (none)) else (none)) else (none)) else (none)) else (if 0 ≤ (wrap64 (x1 + (x2.length : Int))) then (if (wrap64 (x1 + (x2.length : Int))) < (x0.length : Int) then (some (x0.set ((wrap64 (x1 + (x2.length : Int))) : Int).toNat (((rd x0 (wrap64 (x1 + (x2.length : Int)))) + x6) % 4294967296))) else (none)) else (none))
def nat_raise.f (k : Nat) (l0 : List Int) (a1 : Int) (l2 : List Int) : Option (List Int) := nat_raise.l0 k l0 a1 l2 0 l2 (l2.length : Int) 0
theorem nat_raise.mono_l : ∀ k, (∀ y0 y1 y2 y3 y4 y5 y6, LeO (nat_raise.l0 k y0 y1 y2 y3 y4 y5 y6) (nat_raise.l0 (k + 1) y0 y1 y2 y3 y4 y5 y6))
 | 0 => fun _ _ _ _ _ _ _ r h => by simp [nat_raise.l0] at h
 | k + 1 => by
  have ih0 := nat_raise.mono_l k
  ·intro y0 y1 y2 y3 y4 y5 y6
   unfold nat_raise.l0
   repeat' with_reducible first | exact ih0 _ _ _ _ _ _ _ | exact LeO.refl _ | exact LeO.none _ | refine LeO.ite ?_ ?_ | refine LeO.bind ?_ (fun _ => ?_)
theorem nat_raise.mono : ∀ a0 a1 a2 k, LeO (nat_raise.f k a0 a1 a2) (nat_raise.f (k + 1) a0 a1 a2) := by
 intro a0 a1 a2 k
 have ih0 := nat_raise.mono_l k
 unfold nat_raise.f
 repeat' with_reducible first | exact ih0 _ _ _ _ _ _ _ | exact LeO.refl _ | exact LeO.none _ | refine LeO.ite ?_ ?_ | refine LeO.bind ?_ (fun _ => ?_)
set_option maxHeartbeats 8000000 in
set_option maxRecDepth 100000 in
theorem nat_raise.calls (k : Nat) (P0_ : Nat → Prop) (u9000_ : Value) (l0 : List Int) (a1 : Int) (A2 : Option Addr) (c2 : Nat) (l2 : List Int) (r : List Int) (w0 w : World) (hB : Below w0.heap.size w0 w) (ho0 : Kd.R (Kd.int .u32) 87 w w0.heap.size P0_ u9000_ l0) (hr2 : ∀ W_, Kept w W_ (fun k_ => P0_ k_) → Kd.C (Kd.int .u32) W_ A2 l2.length l2) (hc2 : l2.length ≤ c2) (h : nat_raise.f k l0 a1 l2 = some r) :
  Calls Try.prog 88 #[u9000_, .int .i64 a1, .slice A2 l2.length c2] w fun e w' => e = .returned (.tuple #[]) ∧ Kd.R (Kd.int .u32) 87 w' w0.heap.size (fun k_ => (P0_ k_ ∨ w.heap.size ≤ k_)) u9000_ r ∧ Below w0.heap.size w0 w' ∧ Kept w w' (fun k_ => P0_ k_) := by
 have HO0 := Aside0.mk (show Kd.R (Kd.int .u32) 87 w w0.heap.size (fun k_ => (P0_ k_ ∨ w.heap.size ≤ k_)) u9000_ l0 from Kd.R_mono ho0 (fun k_ hk => (.inl hk)))
 have HR2 := Aside0.mk hr2
 have HC2 := Aside0.mk hc2
 clear hr2 hc2
 have HK := Aside0.mk (Kept.refl w (fun k_ => P0_ k_))
 have HW0 := Aside0.mk hB.size
 have HB := Aside0.mk hB
 clear hB
 have H : (nat_raise.l0 k l0 a1 l2 0 l2 (l2.length : Int) 0) = some r := h
 clear h
 have H' := Aside0.mk H
 clear H
 go_enter Try.func88, Try.ntmps88
 go_wp2
 go_loopg [6, 11] k (fun kq v6 v11 w' => ∃ (x0_1 : List Int) (x6_1 : Int) (x11_1 : Int), v6 = .int .u32 x6_1 ∧ v11 = .int .i64 x11_1 ∧ Aside0 (nat_raise.l0 kq x0_1 a1 l2 x6_1 l2 (l2.length : Int) x11_1 = some r) ∧ Aside0 (kq ≤ k) ∧ Aside0 (Kd.R (Kd.int .u32) 87 w' w0.heap.size (fun k_ => (P0_ k_ ∨ w.heap.size ≤ k_)) u9000_ x0_1) ∧ Aside0 (Kept w w' (fun k_ => P0_ k_)) ∧ Aside0 (Below w0.heap.size w0 w'))
 case atStart => exact ⟨(l0), (0), (0), (by first | rfl | (simp; done) | (simp [*]; done)), (by first | rfl | (simp; done) | (simp [*]; done)), H', ⟨Nat.le_refl _⟩, ⟨tq HO0⟩, ⟨by repeat (first | (with_reducible first | exact HK.out | apply Kept.alloc | apply Kept.drewN | apply Kept.drew) | exact HK.out)⟩, ⟨tb HB⟩⟩
 case round =>
  clear H'
  (try clear c2); (try clear p2)
  obtain ⟨x0_1, x6_1, x11_1, rfl, rfl, HA, HK1, HO_0, HK, HB⟩ := hrel
  cases gk with
  | zero => exact absurd HA.out (by simp [nat_raise.l0])
  | succ k1 =>
   have H := HA.out
   clear HA
   simp only [nat_raise.l0] at H
   by_cases c4 : x11_1 < (l2.length : Int)
   ·rw [if_pos c4] at H
    have c4b0 : decide (x11_1 < (l2.length : Int)) = true := decide_eq_true c4
    clear c4
    by_cases c5 : 0 ≤ x11_1
    ·rw [if_pos c5] at H
     have c5b0 : decide (0 ≤ x11_1) = true := decide_eq_true c5
     clear c5
     by_cases c6 : x11_1 < (l2.length : Int)
     ·rw [if_pos c6] at H
      have c6b0 : decide (x11_1 < (l2.length : Int)) = true := decide_eq_true c6
      clear c6
      obtain ⟨ji7, hji7⟩ : ∃ j_ : Int, (wrap64 (x11_1 + a1)) = j_ := ⟨_, rfl⟩
      replace H : (if 0 ≤ (ji7) then (if (ji7) < (x0_1.length : Int) then ((bits_Add32.f (rd x0_1 (ji7)) (rd l2 x11_1) x6_1).bind fun bt446 => (nat_raise.l0 k1 (x0_1.set ((ji7) : Int).toNat bt446.1) a1 l2 bt446.2 l2 (l2.length : Int) (wrap64 (x11_1 + 1)))) else (none)) else (none)) = some r := by first | (rw [hji7] at H; exact H) | (simp only [hji7] at H ⊢; exact H)
      have hji7w : (IntKind.i64.wrap (x11_1 + a1)) = ji7 := (i64_w _).trans hji7
      by_cases c8 : 0 ≤ (ji7)
      ·rw [if_pos c8] at H
       have c8b0 : decide (0 ≤ (ji7)) = true := decide_eq_true c8
       clear c8
       by_cases c9 : (ji7) < (x0_1.length : Int)
       ·rw [if_pos c9] at H
        have c9b0 : decide ((ji7) < (x0_1.length : Int)) = true := decide_eq_true c9
        clear c9
        replace H := bi H
        obtain ⟨⟨t446, t447⟩, A100, H⟩ := H
        try dsimp only at H
        have A10 := Aside0.mk A100
        clear A100
        obtain ⟨y448, hy448⟩ : ∃ y_ : List Int, y_ = (x0_1.set ((ji7) : Int).toNat t446) := ⟨_, rfl⟩
        replace H : (nat_raise.l0 k1 y448 a1 l2 t447 l2 (l2.length : Int) (wrap64 (x11_1 + 1))) = some r := by first | (rw [hy448]; with_reducible exact H) | (have H2_ := (Option.bind_some _ _).symm.trans H; rw [hy448]; with_reducible exact H2_) | (have H2_ := (Option.bind_some _ _).symm.trans H; with_reducible exact H2_) | with_reducible exact H | (rw [hy448]; exact H) | exact H
        have Ny448 := Aside0.mk hy448
        clear hy448
        have H' := Aside0.mk H
        clear H
        have p444 : 0 ≤ (x11_1 : Int) := td
        have q444 : x11_1 < (l2.length : Int) := td
        obtain ⟨ad444, e444, hx444_0⟩ := Kd.at_int (Kd.C_kept_now HR2.out HK.out) x11_1 p444 q444
        cases e444
        replace p444 := eq_true p444
        replace q444 := eq_true q444
        obtain ⟨Ao12, co12, eo12⟩ := Kd.R_slice HO_0.out
        subst eo12
        have p445 : 0 ≤ ((ji7) : Int) := td
        have q445 : (ji7) < (x0_1.length : Int) := td
        obtain ⟨ad445, e445, hx445_0⟩ := Kd.at_int (Kd.R_reads' HO_0.out).2.2 (ji7) p445 q445
        cases e445
        replace p445 := eq_true p445
        replace q445 := eq_true q445
        go_wp2_with (first | ((with_reducible refine gate_callee (f := 80) rfl ?_); refine goesL_ (some 29) rfl rfl Try.func80 (by kernel_rfl) rfl #[.int .u32 (rd x0_1 (ji7)), .int .u32 (rd l2 x11_1), .int .u32 x6_1] rfl (by (try simp only [List.map_toArray, List.map_cons, List.map_nil]); first | done | (simp only [hji7]; rfl) | rfl | (simp only [List.length_drop, List.length_take]; rfl)) ?_; (with_reducible refine (bits_Add32.calls (rd x0_1 (ji7)) (rd l2 x11_1) x6_1 t446 t447 _ A10.out).mono ?_); rintro e w' ⟨rfl, ⟨nd, rfl⟩⟩; refine ⟨_, rfl, ?_⟩; (try (rw [drewN_self wr]; generalize hq_ : World.drewN wr _ = wr; have n0_ : Aside0 (Kd.R (Kd.int .u32) 87 wr w0.heap.size (fun k_ => (P0_ k_ ∨ w.heap.size ≤ k_)) (.slice (some ad445) x0_1.length co12) x0_1) := ⟨by rw [← hq_]; exact (tq HO_0)⟩; have n1_ : Aside0 (Kept w wr (fun k_ => P0_ k_)) := ⟨by rw [← hq_]; exact (by repeat (first | (with_reducible first | exact HK.out | apply Kept.alloc | apply Kept.drewN | apply Kept.drew) | exact HK.out))⟩; have n2_ : Aside0 (Below w0.heap.size w0 wr) := ⟨by rw [← hq_]; exact (tb HB)⟩; clear HO_0 HK HB hq_; have HO_0 := n0_; have HK := n1_; have HB := n2_; clear n0_ n1_ n2_)); have p11 : 0 ≤ ((ji7) : Int) := td; have q11 : ((ji7) : Int) < ((x0_1.length : Int) : Int) := td; obtain ⟨go11, co11, eo11, gb11, gl11, cl11, HG11⟩ := Kd.R_form HO_0.out (by omega); (first | cases eo11 | (injection eo11 with ea_ en_ ec_; (first | subst ea_ | (injection ea_ with ea_; subst ea_)); subst ec_; clear en_)); have GB11 := Aside0.mk gb11; have GG11 := Aside0.mk HG11; clear gb11 gl11 HG11; have HMgo11 := Aside0.mk (show (P0_ go11 ∨ w.heap.size ≤ go11) from (HO_0.out.1 _ rfl)); (first | simp only [add_plain] at hx445_0 | skip); obtain ⟨hx11_0, hf11_0⟩ := Kd.R_celln 0 HO_0.out ((ji7) : Int) p11 q11; replace p11 := eq_true p11; replace q11 := eq_true q11; obtain ⟨hy13_, hz13_⟩ := Kd.R_celln 0 HO_0.out ((ji7) : Int) (td) (td); have HP13 := Kd.R_putg HO_0.out ((ji7) : Int) t446) | ((with_reducible refine gate_store (t := 87) (p := 32) rfl ?_); refine store_event (t := 87) (p := 32) (v := ?vo_w14) (w1 := (wr.setCell ⟨go11, ((ji7) : Int).toNat, none⟩ (.int .u32 t446))) ?hg ?ho ?hn ?hr ?_; (case ho => rfl); (case hg => rfl); (case hn => rfl); (case hr => first | (go_simp; done) | (go_simp; rfl)); intro w14 hw; have hg : wr.grownBy w14 (some go11) := (by rw [hw]; exact HP13.2); have hp_ : Kd.R (Kd.int .u32) 87 w14 w0.heap.size (fun k_ => (P0_ k_ ∨ w.heap.size ≤ k_)) (.slice (some ⟨go11, 0, none⟩) x0_1.length co12) y448 := (by rw [hw, Ny448.out]; exact HP13.1); clear HP13; have n0_ := Aside0.mk (hp_); have n1_ := Aside0.mk ((by rw [hw]; exact below_set (HB.out) GB11.out : Below w0.heap.size w0 w14)); have n2_ := Aside0.mk (Kept.of_grown (S := (fun k_ => P0_ k_)) hg (by repeat (first | (with_reducible first | exact HK.out | apply Kept.alloc | apply Kept.drewN | apply Kept.drew) | exact HK.out)) (fun k_ e_ => (HO_0.out.1 k_ e_))); clear HO_0 HB HK; have HO_0 := n0_; have HB := n1_; have HK := n2_; clear n0_ n1_ n2_; clear hg hw hp_))
        go_roundg k1
        case measure => have := HK1.out; omega
        case rel => exact ⟨(y448), (t447), (wrap64 (x11_1 + 1)), (by first | rfl | (simp; done) | (simp [*]; done)), (by first | rfl | (simp; done) | (simp [*]; done)), H', ⟨by have := HK1.out; omega⟩, ⟨tq HO_0⟩, ⟨by repeat (first | (with_reducible first | exact HK.out | apply Kept.alloc | apply Kept.drewN | apply Kept.drew) | exact HK.out)⟩, ⟨tb HB⟩⟩
       ·rw [if_neg c9] at H
        exact absurd H (by simp)
      ·rw [if_neg c8] at H
       exact absurd H (by simp)
     ·rw [if_neg c6] at H
      exact absurd H (by simp)
    ·rw [if_neg c5] at H
     exact absurd H (by simp)
   ·rw [if_neg c4] at H
    have c4b0 : decide (x11_1 < (l2.length : Int)) = false := decide_eq_false c4
    clear c4
    obtain ⟨ji15, hji15⟩ : ∃ j_ : Int, (wrap64 (a1 + (l2.length : Int))) = j_ := ⟨_, rfl⟩
    replace H : (if 0 ≤ (ji15) then (if (ji15) < (x0_1.length : Int) then (some (x0_1.set ((ji15) : Int).toNat (((rd x0_1 (ji15)) + x6_1) % 4294967296))) else (none)) else (none)) = some r := by first | (rw [hji15] at H; exact H) | (simp only [hji15] at H ⊢; exact H)
    have hji15w : (IntKind.i64.wrap (a1 + (l2.length : Int))) = ji15 := (i64_w _).trans hji15
    by_cases c16 : 0 ≤ (ji15)
    ·rw [if_pos c16] at H
     have c16b0 : decide (0 ≤ (ji15)) = true := decide_eq_true c16
     clear c16
     by_cases c17 : (ji15) < (x0_1.length : Int)
     ·rw [if_pos c17] at H
      have c17b0 : decide ((ji15) < (x0_1.length : Int)) = true := decide_eq_true c17
      clear c17
      obtain ⟨y450, hy450⟩ : ∃ y_ : List Int, y_ = (x0_1.set ((ji15) : Int).toNat (((rd x0_1 (ji15)) + x6_1) % 4294967296)) := ⟨_, rfl⟩
      replace H : (some y450) = some r := by first | (rw [hy450]; with_reducible exact H) | (have H2_ := (Option.bind_some _ _).symm.trans H; rw [hy450]; with_reducible exact H2_) | (have H2_ := (Option.bind_some _ _).symm.trans H; with_reducible exact H2_) | with_reducible exact H | (rw [hy450]; exact H) | exact H
      have Ny450 := Aside0.mk hy450
      clear hy450
      obtain rfl := Option.some.inj H
      obtain ⟨Ao19, co19, eo19⟩ := Kd.R_slice HO_0.out
      subst eo19
      have p449 : 0 ≤ ((ji15) : Int) := td
      have q449 : (ji15) < (x0_1.length : Int) := td
      obtain ⟨ad449, e449, hx449_0⟩ := Kd.at_int (Kd.R_reads' HO_0.out).2.2 (ji15) p449 q449
      cases e449
      replace p449 := eq_true p449
      replace q449 := eq_true q449
      have p18 : 0 ≤ ((ji15) : Int) := td
      have q18 : ((ji15) : Int) < ((x0_1.length : Int) : Int) := td
      obtain ⟨go18, co18, eo18, gb18, gl18, cl18, HG18⟩ := Kd.R_form HO_0.out (by omega)
      (first | cases eo18 | (injection eo18 with ea_ en_ ec_; (first | subst ea_ | (injection ea_ with ea_; subst ea_)); subst ec_; clear en_))
      have GB18 := Aside0.mk gb18
      have GG18 := Aside0.mk HG18
      clear gb18 gl18 HG18
      have HMgo18 := Aside0.mk (show (P0_ go18 ∨ w.heap.size ≤ go18) from (HO_0.out.1 _ rfl))
      (first | simp only [add_plain] at hx449_0 | skip)
      obtain ⟨hx18_0, hf18_0⟩ := Kd.R_celln 0 HO_0.out ((ji15) : Int) p18 q18
      replace p18 := eq_true p18
      replace q18 := eq_true q18
      have HP20 := Kd.R_putg HO_0.out ((ji15) : Int) (((rd x0_1 (ji15)) + x6_1) % 4294967296)
      go_wp2_with (first | ((with_reducible refine gate_store (t := 87) (p := 43) rfl ?_); refine store_event (t := 87) (p := 43) (v := ?vo_w21) (w1 := (wr.setCell ⟨go18, ((ji15) : Int).toNat, none⟩ (.int .u32 (((rd x0_1 (ji15)) + x6_1) % 4294967296)))) ?hg ?ho ?hn ?hr ?_; (case ho => rfl); (case hg => rfl); (case hn => rfl); (case hr => first | (go_simp; done) | (go_simp; rfl)); intro w21 hw; have hg : wr.grownBy w21 (some go18) := (by rw [hw]; exact HP20.2); have hp_ : Kd.R (Kd.int .u32) 87 w21 w0.heap.size (fun k_ => (P0_ k_ ∨ w.heap.size ≤ k_)) (.slice (some ⟨go18, 0, none⟩) x0_1.length co19) y450 := (by rw [hw, Ny450.out]; exact HP20.1); clear HP20; have n0_ := Aside0.mk (hp_); have n1_ := Aside0.mk ((by rw [hw]; exact below_set (HB.out) GB18.out : Below w0.heap.size w0 w21)); have n2_ := Aside0.mk (Kept.of_grown (S := (fun k_ => P0_ k_)) hg (by repeat (first | (with_reducible first | exact HK.out | apply Kept.alloc | apply Kept.drewN | apply Kept.drew) | exact HK.out)) (fun k_ e_ => (HO_0.out.1 k_ e_))); clear HO_0 HB HK; have HO_0 := n0_; have HB := n1_; have HK := n2_; clear n0_ n1_ n2_; clear hg hw hp_))
      first | go_end0 | ((try simp only [Exit.inBlock, Exit.then]); refine bodyPost_ret (results_none rfl _ _ _) rfl ?_)
      exact ⟨by first | rfl | (simp [errW_none, errW_some] <;> rfl) | (simp only [← hji15]; first | rfl | (simp [errW_none, errW_some] <;> rfl)) | (simp [*, errW_none, errW_some] <;> rfl), tq HO_0, tb HB, by repeat (first | (with_reducible first | exact HK.out | apply Kept.alloc | apply Kept.drewN | apply Kept.drew) | exact HK.out)⟩
     ·rw [if_neg c17] at H
      exact absurd H (by simp)
    ·rw [if_neg c16] at H
     exact absurd H (by simp)

/-! ### nat_right: function 89 -/
def nat_right.l0 : Nat → List Int → Int → List Int → Int → Int → Option (List Int)
 | 0, _, _, _, _, _ => none
 | k + 1, x0, x1, x5, x12, x13 => if x13 < x12 then (if 0 ≤ x13 then (if x13 < (x0.length : Int) then (if (wrap64 (x13 + 1)) < (x0.length : Int) then (if 0 ≤ (wrap64 (x13 + 1)) then (if 0 ≤ x1 then (if x13 < (x5.length : Int) then (nat_right.l0 k x0 x1 (x5.set (x13 : Int).toNat ((shr .u64 (Go.bits .or .u64 (IntKind.u64.wrap (rd x0 x13)) (IntKind.u64.wrap ((IntKind.u64.wrap (rd x0 (wrap64 (x13 + 1)))) * 4294967296))) x1) % 4294967296)) x12 (wrap64 (x13 + 1))) else (none)) else (none)) else (none)) else (if 0 ≤ x1 then (if x13 < (x5.length : Int) then (nat_right.l0 k x0 x1 (x5.set (x13 : Int).toNat ((shr .u64 (IntKind.u64.wrap (rd x0 x13)) x1) % 4294967296)) x12 (wrap64 (x13 + 1))) else (none)) else (none))) else (none)) else (none)) else ((nat_trim.f k x5).bind fun t458 => (some t458))
def nat_right.f (k : Nat) (l0 : List Int) (a1 : Int) : Option (List Int) := if 0 ≤ (l0.length : Int) then (if ((l0.length : Int) : Int).toNat ≤ 70368744177664 then (nat_right.l0 k l0 a1 (List.replicate ((l0.length : Int) : Int).toNat 0) (l0.length : Int) 0) else (none)) else (none)
theorem nat_right.mono_l : ∀ k, (∀ y0 y1 y2 y3 y4, LeO (nat_right.l0 k y0 y1 y2 y3 y4) (nat_right.l0 (k + 1) y0 y1 y2 y3 y4))
 | 0 => fun _ _ _ _ _ r h => by simp [nat_right.l0] at h
 | k + 1 => by
  have ih0 := nat_right.mono_l k
  ·intro y0 y1 y2 y3 y4
   unfold nat_right.l0
   repeat' with_reducible first | exact ih0 _ _ _ _ _ | exact nat_trim.mono _ _ | exact LeO.refl _ | exact LeO.none _ | refine LeO.ite ?_ ?_ | refine LeO.bind ?_ (fun _ => ?_)
theorem nat_right.mono : ∀ a0 a1 k, LeO (nat_right.f k a0 a1) (nat_right.f (k + 1) a0 a1) := by
 intro a0 a1 k
 have ih0 := nat_right.mono_l k
 unfold nat_right.f
 repeat' with_reducible first | exact ih0 _ _ _ _ _ | exact nat_trim.mono _ _ | exact LeO.refl _ | exact LeO.none _ | refine LeO.ite ?_ ?_ | refine LeO.bind ?_ (fun _ => ?_)
set_option maxHeartbeats 8000000 in
set_option maxRecDepth 100000 in
theorem nat_right.calls (k : Nat) (A0 : Option Addr) (c0 : Nat) (l0 : List Int) (a1 : Int) (r : List Int) (w : World) (hr0 : Kd.C (Kd.int .u32) w A0 l0.length l0) (hc0 : l0.length ≤ c0) (h : nat_right.f k l0 a1 = some r) :
  Calls Try.prog 89 #[.slice A0 l0.length c0, .int .u64 a1] w fun e w' => ∃ v0_ : Value, e = .returned (v0_) ∧ Kd.V (Kd.int .u32) 87 w' w.heap.size (fun k_ => (w.heap.size ≤ k_)) v0_ r ∧ Below w.heap.size w w' := by
 have HR0 := Aside0.mk hr0
 have HC0 := Aside0.mk hc0
 clear hr0 hc0
 have HB := Aside0.mk (Below.refl w.heap.size w)
 have H : (if 0 ≤ (l0.length : Int) then (if ((l0.length : Int) : Int).toNat ≤ 70368744177664 then (nat_right.l0 k l0 a1 (List.replicate ((l0.length : Int) : Int).toNat 0) (l0.length : Int) 0) else (none)) else (none)) = some r := h
 clear h
 by_cases c3 : 0 ≤ (l0.length : Int)
 ·rw [if_pos c3] at H
  have c3b0 := eq_true c3
  have c3b1 : decide (0 ≤ (l0.length : Int)) = true := decide_eq_true c3
  clear c3
  by_cases c4 : ((l0.length : Int) : Int).toNat ≤ 70368744177664
  ·rw [if_pos c4] at H
   have c4b0 := eq_true c4
   have c4b1 : decide (((l0.length : Int) : Int).toNat ≤ 70368744177664) = true := decide_eq_true c4
   clear c4
   obtain ⟨y451, hy451⟩ : ∃ y_ : List Int, y_ = (List.replicate ((l0.length : Int) : Int).toNat 0) := ⟨_, rfl⟩
   replace H : (nat_right.l0 k l0 a1 y451 (l0.length : Int) 0) = some r := by first | (rw [hy451]; with_reducible exact H) | (have H2_ := (Option.bind_some _ _).symm.trans H; rw [hy451]; with_reducible exact H2_) | (have H2_ := (Option.bind_some _ _).symm.trans H; with_reducible exact H2_) | with_reducible exact H | (rw [hy451]; exact H) | exact H
   have Ny451 := Aside0.mk hy451
   clear hy451
   have H' := Aside0.mk H
   clear H
   go_enter Try.func89, Try.ntmps89
   go_wp2_with (first | ((with_reducible refine gate_dst (N := 10) rfl ?_); refine Kd.R_make (Kd.int .u32) _ 87 rfl (N := 10) rfl 22 _ _ rfl (l0.length : Int) rfl rfl Try.underlying22 (.int .u32 0) 4 info87 rfl (by decide) (by omega) 0 (ok := fun _ => True) (okp := fun _ => True) rfl (fun _ hk => hk) trivial (td) (Nat.le_trans (Nat.mul_le_mul_right _ (td : (l0.length : Int).toNat ≤ 70368744177664)) (by omega)) (Below.refl _ _) (Nat.le_refl _) ?_; intro v452 w5 ho6 hb hg_ hnew_; clear hg_ hnew_; (first | rw [← Ny451.out] at ho6 | (simp only [Int.reduceToNat] at ho6; rw [← Ny451.out] at ho6)); have HO453 := Aside0.mk (Kd.R_lower (Kd.R_newM (M := fun k_ => (w.heap.size ≤ k_)) ho6 (below_size (tb HB)) (fun k_ h_ => h_)) (below_size (tb HB))); replace HB := bs HB hb; clear hb ho6))
   go_loopg [13] k (fun kq v13 w' => ∃ (x5_1 : List Int) (x13_1 : Int), v13 = .int .i64 x13_1 ∧ Aside0 (nat_right.l0 kq l0 a1 x5_1 (l0.length : Int) x13_1 = some r) ∧ Aside0 (kq ≤ k) ∧ Aside0 (Kd.R (Kd.int .u32) 87 w' w.heap.size (fun k_ => (w.heap.size ≤ k_)) v452 x5_1) ∧ Aside0 (Below w.heap.size w w'))
   case atStart => exact ⟨(y451), (0), (by first | rfl | (simp; done) | (simp [*]; done)), H', ⟨Nat.le_refl _⟩, ⟨by (with_reducible repeat first | apply qa | apply qn | apply qd); exact Kd.R_mono HO453.out (fun _ hk => hk.1)⟩, ⟨tb HB⟩⟩
   case round =>
    clear H'
    (try clear p2); (try clear c3); (try clear c3b0); (try clear c3b1); (try clear c4); (try clear c4b0); (try clear c4b1)
    obtain ⟨x5_1, x13_1, rfl, HA, HK1, HO_5, HB⟩ := hrel
    cases gk with
    | zero => exact absurd HA.out (by simp [nat_right.l0])
    | succ k1 =>
     have H := HA.out
     clear HA
     simp only [nat_right.l0] at H
     by_cases c7 : x13_1 < (l0.length : Int)
     ·rw [if_pos c7] at H
      have c7b0 : decide (x13_1 < (l0.length : Int)) = true := decide_eq_true c7
      clear c7
      by_cases c8 : 0 ≤ x13_1
      ·rw [if_pos c8] at H
       have c8b0 : decide (0 ≤ x13_1) = true := decide_eq_true c8
       clear c8
       by_cases c9 : x13_1 < (l0.length : Int)
       ·rw [if_pos c9] at H
        have c9b0 : decide (x13_1 < (l0.length : Int)) = true := decide_eq_true c9
        clear c9
        by_cases c10 : (wrap64 (x13_1 + 1)) < (l0.length : Int)
        ·rw [if_pos c10] at H
         have c10b0 : decide ((wrap64 (x13_1 + 1)) < (l0.length : Int)) = true := decide_eq_true c10
         clear c10
         obtain ⟨ji11, hji11⟩ : ∃ j_ : Int, (wrap64 (x13_1 + 1)) = j_ := ⟨_, rfl⟩
         replace H : (if 0 ≤ (ji11) then (if 0 ≤ a1 then (if x13_1 < (x5_1.length : Int) then (nat_right.l0 k1 l0 a1 (x5_1.set (x13_1 : Int).toNat ((shr .u64 (Go.bits .or .u64 (IntKind.u64.wrap (rd l0 x13_1)) (IntKind.u64.wrap ((IntKind.u64.wrap (rd l0 (ji11))) * 4294967296))) a1) % 4294967296)) (l0.length : Int) ji11) else (none)) else (none)) else (none)) = some r := by first | (rw [hji11] at H; exact H) | (simp only [hji11] at H ⊢; exact H)
         (try rw [hji11] at c10b0)
         have hji11w : (IntKind.i64.wrap (x13_1 + 1)) = ji11 := (i64_w _).trans hji11
         by_cases c12 : 0 ≤ (ji11)
         ·rw [if_pos c12] at H
          have c12b0 : decide (0 ≤ (ji11)) = true := decide_eq_true c12
          clear c12
          by_cases c13 : 0 ≤ a1
          ·rw [if_pos c13] at H
           have c13b0 := eq_true c13
           have c13b1 : decide (0 ≤ a1) = true := decide_eq_true c13
           clear c13
           obtain ⟨ji14, hji14⟩ : ∃ j_ : Int, (shr .u64 (Go.bits .or .u64 (IntKind.u64.wrap (rd l0 x13_1)) (IntKind.u64.wrap ((IntKind.u64.wrap (rd l0 (ji11))) * 4294967296))) a1) = j_ := ⟨_, rfl⟩
           replace H : (if x13_1 < (x5_1.length : Int) then (nat_right.l0 k1 l0 a1 (x5_1.set (x13_1 : Int).toNat ((ji14) % 4294967296)) (l0.length : Int) ji11) else (none)) = some r := by first | (rw [hji14] at H; exact H) | (simp only [hji14] at H ⊢; exact H)
           have hji14_ : ((Go.bits .or .u64 (IntKind.u64.wrap (rd l0 x13_1)) (IntKind.u64.wrap ((IntKind.u64.wrap (rd l0 (ji11))) * 4294967296))) / 2 ^ min a1.toNat 64) = ji14 := hji14
           have hji14z : a1 ≤ 64 → ((Go.bits .or .u64 (IntKind.u64.wrap (rd l0 x13_1)) (IntKind.u64.wrap ((IntKind.u64.wrap (rd l0 (ji11))) * 4294967296))) / 2 ^ a1.toNat) = ji14 := shr_small hji14
           by_cases c15 : x13_1 < (x5_1.length : Int)
           ·rw [if_pos c15] at H
            have c15b0 : decide (x13_1 < (x5_1.length : Int)) = true := decide_eq_true c15
            clear c15
            obtain ⟨y456, hy456⟩ : ∃ y_ : List Int, y_ = (x5_1.set (x13_1 : Int).toNat ((ji14) % 4294967296)) := ⟨_, rfl⟩
            replace H : (nat_right.l0 k1 l0 a1 y456 (l0.length : Int) ji11) = some r := by first | (rw [hy456]; with_reducible exact H) | (have H2_ := (Option.bind_some _ _).symm.trans H; rw [hy456]; with_reducible exact H2_) | (have H2_ := (Option.bind_some _ _).symm.trans H; with_reducible exact H2_) | with_reducible exact H | (rw [hy456]; exact H) | exact H
            have Ny456 := Aside0.mk hy456
            clear hy456
            have H' := Aside0.mk H
            clear H
            have p454 : 0 ≤ (x13_1 : Int) := td
            have q454 : x13_1 < (l0.length : Int) := td
            obtain ⟨ad454, e454, hx454_0⟩ := Kd.at_int HR0.out x13_1 p454 q454
            cases e454
            replace hx454_0 := (HB.out.cell (World.block_lt_of_cell? w _ hx454_0)).trans hx454_0
            replace p454 := eq_true p454
            replace q454 := eq_true q454
            have p455 : 0 ≤ ((ji11) : Int) := td
            have q455 : (ji11) < (l0.length : Int) := td
            obtain ⟨ad455, e455, hx455_0⟩ := Kd.at_int HR0.out (ji11) p455 q455
            obtain rfl : ad454 = ad455 := (by injection e455)
            replace hx455_0 := (HB.out.cell (World.block_lt_of_cell? w _ hx455_0)).trans hx455_0
            replace p455 := eq_true p455
            replace q455 := eq_true q455
            have p16 : 0 ≤ (x13_1 : Int) := td
            have q16 : (x13_1 : Int) < ((x5_1.length : Int) : Int) := td
            obtain ⟨go16, co16, eo16, gb16, gl16, cl16, HG16⟩ := Kd.R_form HO_5.out (by omega)
            (first | cases eo16 | (injection eo16 with ea_ en_ ec_; (first | subst ea_ | (injection ea_ with ea_; subst ea_)); subst ec_; clear en_))
            have GB16 := Aside0.mk gb16
            have GG16 := Aside0.mk HG16
            clear gb16 gl16 HG16
            obtain ⟨hx16_0, hf16_0⟩ := Kd.R_celln 0 HO_5.out (x13_1 : Int) p16 q16
            replace p16 := eq_true p16
            replace q16 := eq_true q16
            have HP17 := Kd.R_putg HO_5.out (x13_1 : Int) ((ji14) % 4294967296)
            go_wp2_with (first | ((with_reducible refine gate_store (t := 87) (p := 41) rfl ?_); refine store_event (t := 87) (p := 41) (v := ?vo_w18) (w1 := (wr.setCell ⟨go16, (x13_1 : Int).toNat, none⟩ (.int .u32 ((ji14) % 4294967296)))) ?hg ?ho ?hn ?hr ?_; (case ho => rfl); (case hg => rfl); (case hn => rfl); (case hr => first | (go_simp; done) | (go_simp; rfl)); intro w18 hw; have hg : wr.grownBy w18 (some go16) := (by rw [hw]; exact HP17.2); have hp_ : Kd.R (Kd.int .u32) 87 w18 w.heap.size (fun k_ => (w.heap.size ≤ k_)) (.slice (some ⟨go16, 0, none⟩) x5_1.length co16) y456 := (by rw [hw, Ny456.out]; exact HP17.1); clear HP17; replace HO_5 := Aside0.mk (hp_); replace HB := Aside0.mk ((by rw [hw]; exact below_set (HB.out) GB16.out : Below w.heap.size w w18)); clear hg hw hp_))
            go_roundg k1
            case measure => have := HK1.out; omega
            case rel => exact ⟨(y456), (ji11), (by first | rfl | (simp; done) | (simp only [← hji11] <;> (first | rfl | simp)) | (simp [*]; done)), H', ⟨by have := HK1.out; omega⟩, ⟨tq HO_5⟩, ⟨tb HB⟩⟩
           ·rw [if_neg c15] at H
            exact absurd H (by simp)
          ·rw [if_neg c13] at H
           exact absurd H (by simp)
         ·rw [if_neg c12] at H
          exact absurd H (by simp)
        ·rw [if_neg c10] at H
         have c10b0 : decide ((wrap64 (x13_1 + 1)) < (l0.length : Int)) = false := decide_eq_false c10
         clear c10
         by_cases c19 : 0 ≤ a1
         ·rw [if_pos c19] at H
          have c19b0 := eq_true c19
          have c19b1 : decide (0 ≤ a1) = true := decide_eq_true c19
          clear c19
          obtain ⟨ji20, hji20⟩ : ∃ j_ : Int, (shr .u64 (IntKind.u64.wrap (rd l0 x13_1)) a1) = j_ := ⟨_, rfl⟩
          replace H : (if x13_1 < (x5_1.length : Int) then (nat_right.l0 k1 l0 a1 (x5_1.set (x13_1 : Int).toNat ((ji20) % 4294967296)) (l0.length : Int) (wrap64 (x13_1 + 1))) else (none)) = some r := by first | (rw [hji20] at H; exact H) | (simp only [hji20] at H ⊢; exact H)
          have hji20_ : ((IntKind.u64.wrap (rd l0 x13_1)) / 2 ^ min a1.toNat 64) = ji20 := hji20
          have hji20z : a1 ≤ 64 → ((IntKind.u64.wrap (rd l0 x13_1)) / 2 ^ a1.toNat) = ji20 := shr_small hji20
          by_cases c21 : x13_1 < (x5_1.length : Int)
          ·rw [if_pos c21] at H
           have c21b0 : decide (x13_1 < (x5_1.length : Int)) = true := decide_eq_true c21
           clear c21
           obtain ⟨y457, hy457⟩ : ∃ y_ : List Int, y_ = (x5_1.set (x13_1 : Int).toNat ((ji20) % 4294967296)) := ⟨_, rfl⟩
           replace H : (nat_right.l0 k1 l0 a1 y457 (l0.length : Int) (wrap64 (x13_1 + 1))) = some r := by first | (rw [hy457]; with_reducible exact H) | (have H2_ := (Option.bind_some _ _).symm.trans H; rw [hy457]; with_reducible exact H2_) | (have H2_ := (Option.bind_some _ _).symm.trans H; with_reducible exact H2_) | with_reducible exact H | (rw [hy457]; exact H) | exact H
           have Ny457 := Aside0.mk hy457
           clear hy457
           have H' := Aside0.mk H
           clear H
           have p454 : 0 ≤ (x13_1 : Int) := td
           have q454 : x13_1 < (l0.length : Int) := td
           obtain ⟨ad454, e454, hx454_0⟩ := Kd.at_int HR0.out x13_1 p454 q454
           cases e454
           replace hx454_0 := (HB.out.cell (World.block_lt_of_cell? w _ hx454_0)).trans hx454_0
           replace p454 := eq_true p454
           replace q454 := eq_true q454
           have p22 : 0 ≤ (x13_1 : Int) := td
           have q22 : (x13_1 : Int) < ((x5_1.length : Int) : Int) := td
           obtain ⟨go22, co22, eo22, gb22, gl22, cl22, HG22⟩ := Kd.R_form HO_5.out (by omega)
           (first | cases eo22 | (injection eo22 with ea_ en_ ec_; (first | subst ea_ | (injection ea_ with ea_; subst ea_)); subst ec_; clear en_))
           have GB22 := Aside0.mk gb22
           have GG22 := Aside0.mk HG22
           clear gb22 gl22 HG22
           obtain ⟨hx22_0, hf22_0⟩ := Kd.R_celln 0 HO_5.out (x13_1 : Int) p22 q22
           replace p22 := eq_true p22
           replace q22 := eq_true q22
           have HP23 := Kd.R_putg HO_5.out (x13_1 : Int) ((ji20) % 4294967296)
           go_wp2_with (first | ((with_reducible refine gate_store (t := 87) (p := 41) rfl ?_); refine store_event (t := 87) (p := 41) (v := ?vo_w24) (w1 := (wr.setCell ⟨go22, (x13_1 : Int).toNat, none⟩ (.int .u32 ((ji20) % 4294967296)))) ?hg ?ho ?hn ?hr ?_; (case ho => rfl); (case hg => rfl); (case hn => rfl); (case hr => first | (go_simp; done) | (go_simp; rfl)); intro w24 hw; have hg : wr.grownBy w24 (some go22) := (by rw [hw]; exact HP23.2); have hp_ : Kd.R (Kd.int .u32) 87 w24 w.heap.size (fun k_ => (w.heap.size ≤ k_)) (.slice (some ⟨go22, 0, none⟩) x5_1.length co22) y457 := (by rw [hw, Ny457.out]; exact HP23.1); clear HP23; replace HO_5 := Aside0.mk (hp_); replace HB := Aside0.mk ((by rw [hw]; exact below_set (HB.out) GB22.out : Below w.heap.size w w24)); clear hg hw hp_))
           go_roundg k1
           case measure => have := HK1.out; omega
           case rel => exact ⟨(y457), (wrap64 (x13_1 + 1)), (by first | rfl | (simp; done) | (simp [*]; done)), H', ⟨by have := HK1.out; omega⟩, ⟨tq HO_5⟩, ⟨tb HB⟩⟩
          ·rw [if_neg c21] at H
           exact absurd H (by simp)
         ·rw [if_neg c19] at H
          exact absurd H (by simp)
       ·rw [if_neg c9] at H
        exact absurd H (by simp)
      ·rw [if_neg c8] at H
       exact absurd H (by simp)
     ·rw [if_neg c7] at H
      have c7b0 : decide (x13_1 < (l0.length : Int)) = false := decide_eq_false c7
      clear c7
      replace H := bi H
      obtain ⟨t458, A250, H⟩ := H
      have A25 := Aside0.mk A250
      clear A250
      obtain rfl := Option.some.inj H
      obtain ⟨Ao26, co26, eo26⟩ := Kd.R_slice HO_5.out
      subst eo26
      go_wp2_with (first | ((with_reducible refine gate_callee (f := 81) rfl ?_); refine gL (N := some 44) Try.func81 #[.slice Ao26 x5_1.length co26] ?_; (with_reducible refine (nat_trim.calls k1 (fun k_ => some k_ = (.slice Ao26 x5_1.length co26 : Value).ownBlock) _ _ x5_1 t458 _ ?side1 A25.out).mono ?_); (case side1 => exact Kd.R_V (Kd.R_tight rfl (HO_5.out))); rintro e w27 ⟨v459, rfl, ho0, hb⟩; refine ⟨_, rfl, ?_⟩; have HO460 := Aside0.mk (Kd.V_lower (Kd.V_mono (ok' := fun k_ => (w.heap.size ≤ k_)) ho0 (fun k_ hk_ => Or.elim hk_ (fun hs_ => ((HO_5.out).1 k_ hs_.symm)) (fun hn_ => (Nat.le_trans (below_size (tb HB)) hn_)))) (below_size (tb HB))); replace HB := bs HB hb; (try clear hb); (try clear hb2); (try clear hk); (try clear hi); (try clear ho0)))
      go_ret
      exact ⟨_, by first | rfl | (simp [errW_none, errW_some] <;> rfl) | (simp [*, errW_none, errW_some] <;> rfl), tv HO460, tb HB⟩
  ·rw [if_neg c4] at H
   exact absurd H (by simp)
 ·rw [if_neg c3] at H
  exact absurd H (by simp)

/-! ### nat_DivMod: function 67 -/
def nat_DivMod.l0 : Nat → List Int → Int → List Int → List Int → Int → Option (List Int × List Int × Int)
 | 0, _, _, _, _, _ => none
 | k + 1, x4, x9, x10, x11, x12 => if x12 ≥ 0 then ((nat_guess.f k x10 x12 x11).bind fun t499 => ((nat_lower.f k x10 x12 t499 x11).bind fun bt500 => (if bt500.1 = true then ((nat_raise.f k bt500.2 x12 x11).bind fun t502 => (if 0 ≤ x12 then (if x12 < (x4.length : Int) then (nat_DivMod.l0 k (x4.set (x12 : Int).toNat ((IntKind.u64.wrap (t499 - 1)) % 4294967296)) x9 t502 x11 (wrap64 (x12 - 1))) else (none)) else (none))) else (if 0 ≤ x12 then (if x12 < (x4.length : Int) then (nat_DivMod.l0 k (x4.set (x12 : Int).toNat ((t499) % 4294967296)) x9 bt500.2 x11 (wrap64 (x12 - 1))) else (none)) else (none))))) else ((nat_trim.f k x4).bind fun t493 => ((nat_right.f k x10 x9).bind fun t496 => (some (t493, t496, 0))))
def nat_DivMod.f (k : Nat) (l0 : List Int) (l1 : List Int) : Option (List Int × List Int × Int) := (nat_trim.f k l0).bind fun t461 => ((nat_trim.f k l1).bind fun t464 => (if (t464.length : Int) = 0 then (some (([] : List Int), ([] : List Int), 4)) else ((nat_Cmp.f k t461 t464).bind fun t467 => (if t467 < 0 then ((nat_Norm.f k t461).bind fun t468 => (some (([] : List Int), t468, 0))) else (if (t464.length : Int) = 1 then (if 0 < (t464.length : Int) then ((nat_short.f k t461 (rd t464 0)).bind fun bt472 => ((nat_Of.f k (IntKind.u64.wrap (bt472.2))).bind fun t476 => (some (bt472.1, t476, 0)))) else (none)) else (if 0 ≤ (wrap64 ((t464.length : Int) - 1)) then (if (wrap64 ((t464.length : Int) - 1)) < (t464.length : Int) then ((bits_LeadingZeros32.f (rd t464 (wrap64 ((t464.length : Int) - 1)))).bind fun t480 => ((nat_left.f k t461 (IntKind.u64.wrap (t480))).bind fun t481 => ((nat_left.f k t464 (IntKind.u64.wrap (t480))).bind fun t484 => ((nat_trim.f k t484).bind fun t487 => (if 0 ≤ (wrap64 ((wrap64 ((t461.length : Int) - (t464.length : Int))) + 1)) then (if (wrap64 ((wrap64 ((t461.length : Int) - (t464.length : Int))) + 1) : Int).toNat ≤ 70368744177664 then (nat_DivMod.l0 k (List.replicate (wrap64 ((wrap64 ((t461.length : Int) - (t464.length : Int))) + 1) : Int).toNat 0) (IntKind.u64.wrap (t480)) t481 t487 (wrap64 ((t461.length : Int) - (t464.length : Int)))) else (none)) else (none)))))) else (none)) else (none)))))))
theorem nat_DivMod.mono_l : ∀ k, (∀ y0 y1 y2 y3 y4, LeO (nat_DivMod.l0 k y0 y1 y2 y3 y4) (nat_DivMod.l0 (k + 1) y0 y1 y2 y3 y4))
 | 0 => fun _ _ _ _ _ r h => by simp [nat_DivMod.l0] at h
 | k + 1 => by
  have ih0 := nat_DivMod.mono_l k
  ·intro y0 y1 y2 y3 y4
   unfold nat_DivMod.l0
   repeat' with_reducible first | exact ih0 _ _ _ _ _ | exact nat_Cmp.mono _ _ _ | exact nat_Norm.mono _ _ | exact nat_Of.mono _ _ | exact nat_guess.mono _ _ _ _ | exact nat_left.mono _ _ _ | exact nat_lower.mono _ _ _ _ _ | exact nat_raise.mono _ _ _ _ | exact nat_right.mono _ _ _ | exact nat_short.mono _ _ _ | exact nat_trim.mono _ _ | exact LeO.refl _ | exact LeO.none _ | refine LeO.ite ?_ ?_ | refine LeO.bind ?_ (fun _ => ?_)
theorem nat_DivMod.mono : ∀ a0 a1 k, LeO (nat_DivMod.f k a0 a1) (nat_DivMod.f (k + 1) a0 a1) := by
 intro a0 a1 k
 have ih0 := nat_DivMod.mono_l k
 unfold nat_DivMod.f
 repeat' with_reducible first | exact ih0 _ _ _ _ _ | exact nat_Cmp.mono _ _ _ | exact nat_Norm.mono _ _ | exact nat_Of.mono _ _ | exact nat_guess.mono _ _ _ _ | exact nat_left.mono _ _ _ | exact nat_lower.mono _ _ _ _ _ | exact nat_raise.mono _ _ _ _ | exact nat_right.mono _ _ _ | exact nat_short.mono _ _ _ | exact nat_trim.mono _ _ | exact LeO.refl _ | exact LeO.none _ | refine LeO.ite ?_ ?_ | refine LeO.bind ?_ (fun _ => ?_)
set_option maxHeartbeats 8000000 in
set_option maxRecDepth 100000 in
theorem nat_DivMod.calls (k : Nat) (P0_ : Nat → Prop) (A0 : Option Addr) (c0 : Nat) (l0 : List Int) (P1_ : Nat → Prop) (A1 : Option Addr) (c1 : Nat) (l1 : List Int) (r1 : List Int) (r2 : List Int) (r3 : Int) (w : World) (hs0 : Kd.V (Kd.int .u32) 87 w w.heap.size (fun k_ => P0_ k_) (.slice A0 l0.length c0) l0) (hs1 : Kd.V (Kd.int .u32) 87 w w.heap.size (fun k_ => P1_ k_) (.slice A1 l1.length c1) l1) (h : nat_DivMod.f k l0 l1 = some (r1, r2, r3)) :
  Calls Try.prog 67 #[.slice A0 l0.length c0, .slice A1 l1.length c1] w fun e w' => ∃ v0_ v1_ : Value, e = .returned (.tuple #[v0_, v1_, .int .i64 r3]) ∧ Kd.V (Kd.int .u32) 87 w' w.heap.size (fun k_ => ((P0_ k_ ∨ P1_ k_) ∨ w.heap.size ≤ k_)) v0_ r1 ∧ Kd.V (Kd.int .u32) 87 w' w.heap.size (fun k_ => ((P0_ k_ ∨ P1_ k_) ∨ w.heap.size ≤ k_)) v1_ r2 ∧ Below w.heap.size w w' := by
 have HO0 := Aside0.mk (show Kd.V (Kd.int .u32) 87 w w.heap.size (fun k_ => ((P0_ k_ ∨ P1_ k_) ∨ w.heap.size ≤ k_)) (.slice A0 l0.length c0) l0 from Kd.V_mono hs0 (fun k_ hk => .inl (.inl hk)))
 have HO1 := Aside0.mk (show Kd.V (Kd.int .u32) 87 w w.heap.size (fun k_ => ((P0_ k_ ∨ P1_ k_) ∨ w.heap.size ≤ k_)) (.slice A1 l1.length c1) l1 from Kd.V_mono hs1 (fun k_ hk => .inl (.inr hk)))
 have HB := Aside0.mk (Below.refl w.heap.size w)
 have H : ((nat_trim.f k l0).bind fun t461 => ((nat_trim.f k l1).bind fun t464 => (if (t464.length : Int) = 0 then (some (([] : List Int), ([] : List Int), 4)) else ((nat_Cmp.f k t461 t464).bind fun t467 => (if t467 < 0 then ((nat_Norm.f k t461).bind fun t468 => (some (([] : List Int), t468, 0))) else (if (t464.length : Int) = 1 then (if 0 < (t464.length : Int) then ((nat_short.f k t461 (rd t464 0)).bind fun bt472 => ((nat_Of.f k (IntKind.u64.wrap (bt472.2))).bind fun t476 => (some (bt472.1, t476, 0)))) else (none)) else (if 0 ≤ (wrap64 ((t464.length : Int) - 1)) then (if (wrap64 ((t464.length : Int) - 1)) < (t464.length : Int) then ((bits_LeadingZeros32.f (rd t464 (wrap64 ((t464.length : Int) - 1)))).bind fun t480 => ((nat_left.f k t461 (IntKind.u64.wrap (t480))).bind fun t481 => ((nat_left.f k t464 (IntKind.u64.wrap (t480))).bind fun t484 => ((nat_trim.f k t484).bind fun t487 => (if 0 ≤ (wrap64 ((wrap64 ((t461.length : Int) - (t464.length : Int))) + 1)) then (if (wrap64 ((wrap64 ((t461.length : Int) - (t464.length : Int))) + 1) : Int).toNat ≤ 70368744177664 then (nat_DivMod.l0 k (List.replicate (wrap64 ((wrap64 ((t461.length : Int) - (t464.length : Int))) + 1) : Int).toNat 0) (IntKind.u64.wrap (t480)) t481 t487 (wrap64 ((t461.length : Int) - (t464.length : Int)))) else (none)) else (none)))))) else (none)) else (none)))))))) = some (r1, r2, r3) := h
 clear h
 replace H := bi H
 obtain ⟨t461, A30, H⟩ := H
 have A3 := Aside0.mk A30
 clear A30
 replace H := bi H
 obtain ⟨t464, A40, H⟩ := H
 have A4 := Aside0.mk A40
 clear A40
 by_cases c5 : (t464.length : Int) = 0
 ·rw [if_pos c5] at H
  have c5b0 : ((t464.length : Int) == 0) = true := beq_iff_eq.mpr c5
  have c5b1 : ((t464.length : Int) != 0) = false := bne_eq_false_iff_eq.mpr c5
  clear c5
  simp only [Option.some.injEq, Prod.mk.injEq] at H
  obtain ⟨rfl, rfl, rfl⟩ := H
  go_enter Try.func67, Try.ntmps67
  go_wp2_with (first | ((with_reducible refine gate_callee (f := 81) rfl ?_); refine gL (N := some 15) Try.func81 #[.slice A0 l0.length c0] ?_; (with_reducible refine (nat_trim.calls k (fun k_ => ((P0_ k_ ∨ P1_ k_) ∨ w.heap.size ≤ k_)) _ _ l0 t461 _ ?side1 A3.out).mono ?_); (case side1 => exact HO0.out); rintro e w6 ⟨v462, rfl, ho0, hb⟩; refine ⟨_, rfl, ?_⟩; replace HO1 := vb HO1 hb; replace HB := bs HB hb; (try clear hb); (try clear hb2); (try clear hk); (try clear hi); (try clear ho0)) | ((with_reducible refine gate_callee (f := 81) rfl ?_); refine gL (N := some 17) Try.func81 #[.slice A1 l1.length c1] ?_; (with_reducible refine (nat_trim.calls k (fun k_ => ((P0_ k_ ∨ P1_ k_) ∨ w.heap.size ≤ k_)) _ _ l1 t464 _ ?side1 A4.out).mono ?_); (case side1 => exact HO1.out); rintro e w7 ⟨v465, rfl, ho0, hb⟩; refine ⟨_, rfl, ?_⟩; have HO466 := Aside0.mk (Kd.V_lower (Kd.V_mono (ok' := fun k_ => ((P0_ k_ ∨ P1_ k_) ∨ w.heap.size ≤ k_)) ho0 (fun k_ hk_ => Or.elim hk_ (fun hs_ => hs_) (fun hn_ => (.inr (Nat.le_trans (below_size (tb HB)) hn_))))) (below_size (tb HB))); replace HB := bs HB hb; (try clear hb); (try clear hb2); (try clear hk); (try clear hi); (try clear ho0); obtain ⟨Ao8, co8, eo8⟩ := Kd.V_slice HO466.out; subst eo8))
  go_ret3
  exact ⟨_, _, by first | rfl | (simp [errW_none, errW_some] <;> rfl) | (simp [*, errW_none, errW_some] <;> rfl), Kd.V_nil _ _ _ _ _, Kd.V_nil _ _ _ _ _, tb HB⟩
 ·rw [if_neg c5] at H
  have c5b0 : ((t464.length : Int) == 0) = false := beq_eq_false_iff_ne.mpr c5
  have c5b1 : ((t464.length : Int) != 0) = true := bne_iff_ne.mpr c5
  have c5b2 : ¬ (t464 = []) := fun h_ => c5 (by rw [h_]; rfl)
  replace H := bi H
  obtain ⟨t467, A90, H⟩ := H
  have A9 := Aside0.mk A90
  clear A90
  by_cases c10 : t467 < 0
  ·rw [if_pos c10] at H
   have c10b0 : decide (t467 < 0) = true := decide_eq_true c10
   clear c10
   replace H := bi H
   obtain ⟨t468, A110, H⟩ := H
   have A11 := Aside0.mk A110
   clear A110
   simp only [Option.some.injEq, Prod.mk.injEq] at H
   obtain ⟨rfl, rfl, rfl⟩ := H
   go_enter Try.func67, Try.ntmps67
   go_wp2_with (first | ((with_reducible refine gate_callee (f := 81) rfl ?_); refine gL (N := some 15) Try.func81 #[.slice A0 l0.length c0] ?_; (with_reducible refine (nat_trim.calls k (fun k_ => ((P0_ k_ ∨ P1_ k_) ∨ w.heap.size ≤ k_)) _ _ l0 t461 _ ?side1 A3.out).mono ?_); (case side1 => exact HO0.out); rintro e w12 ⟨v462, rfl, ho0, hb⟩; refine ⟨_, rfl, ?_⟩; have HO463 := Aside0.mk (Kd.V_lower (Kd.V_mono (ok' := fun k_ => ((P0_ k_ ∨ P1_ k_) ∨ w.heap.size ≤ k_)) ho0 (fun k_ hk_ => Or.elim hk_ (fun hs_ => hs_) (fun hn_ => (.inr (Nat.le_trans (below_size (tb HB)) hn_))))) (below_size (tb HB))); replace HO1 := vb HO1 hb; replace HB := bs HB hb; (try clear hb); (try clear hb2); (try clear hk); (try clear hi); (try clear ho0)) | ((with_reducible refine gate_callee (f := 81) rfl ?_); refine gL (N := some 17) Try.func81 #[.slice A1 l1.length c1] ?_; (with_reducible refine (nat_trim.calls k (fun k_ => ((P0_ k_ ∨ P1_ k_) ∨ w.heap.size ≤ k_)) _ _ l1 t464 _ ?side1 A4.out).mono ?_); (case side1 => exact HO1.out); rintro e w13 ⟨v465, rfl, ho0, hb⟩; refine ⟨_, rfl, ?_⟩; have HO466 := Aside0.mk (Kd.V_lower (Kd.V_mono (ok' := fun k_ => ((P0_ k_ ∨ P1_ k_) ∨ w.heap.size ≤ k_)) ho0 (fun k_ hk_ => Or.elim hk_ (fun hs_ => hs_) (fun hn_ => (.inr (Nat.le_trans (below_size (tb HB)) hn_))))) (below_size (tb HB))); replace HO463 := vb HO463 hb; replace HB := bs HB hb; (try clear hb); (try clear hb2); (try clear hk); (try clear hi); (try clear ho0); obtain ⟨Ao14, co14, eo14⟩ := Kd.V_slice HO466.out; subst eo14; obtain ⟨Ao15, co15, eo15⟩ := Kd.V_slice HO463.out; subst eo15) | ((with_reducible refine gate_callee (f := 65) rfl ?_); refine gL (N := some 25) Try.func65 #[.slice Ao15 t461.length co15, .slice Ao14 t464.length co14] ?_; (with_reducible refine (nat_Cmp.calls k _ _ t461 _ _ t464 t467 _ ?side1 ?side2 ?side3 ?side4 A9.out).mono ?_); (case side1 => exact tc (Kd.V_reads' HO463.out).2.2); (case side2 => exact (Kd.V_reads' HO463.out).2.1); (case side3 => exact tc (Kd.V_reads' HO466.out).2.2); (case side4 => exact (Kd.V_reads' HO466.out).2.1); rintro e w16 ⟨rfl, hb⟩; refine ⟨_, rfl, ?_⟩; replace HO463 := vb HO463 hb; replace HB := bs HB hb; (try clear hb); (try clear hb2); (try clear hk); (try clear hi)) | ((with_reducible refine gate_callee (f := 75) rfl ?_); refine gL (N := some 28) Try.func75 #[.slice Ao15 t461.length co15] ?_; (with_reducible refine (nat_Norm.calls k _ _ t461 t468 _ ?side1 ?side2 A11.out).mono ?_); (case side1 => exact tc (Kd.V_reads' HO463.out).2.2); (case side2 => exact (Kd.V_reads' HO463.out).2.1); rintro e w17 ⟨v469, rfl, ho0, hb⟩; refine ⟨_, rfl, ?_⟩; have HO470 := Aside0.mk (Kd.R_lower (Kd.R_newM (M := fun k_ => (w.heap.size ≤ k_)) ho0 (below_size (tb HB)) (fun k_ h_ => h_)) (below_size (tb HB))); replace HB := bs HB hb; (try clear hb); (try clear hb2); (try clear hk); (try clear hi); (try clear ho0)))
   go_ret3
   exact ⟨_, _, by first | rfl | (simp [errW_none, errW_some] <;> rfl) | (simp [*, errW_none, errW_some] <;> rfl), Kd.V_nil _ _ _ _ _, Kd.V_mono (Kd.R_V (by (with_reducible repeat first | apply qa | apply qn | apply qd); exact Kd.R_mono HO470.out (fun _ hk => hk.1))) (fun k_ hk => by first | exact ⟨(.inr (hk.1)), hk.2⟩ | exact (.inr (hk))), tb HB⟩
  ·rw [if_neg c10] at H
   have c10b0 : decide (t467 < 0) = false := decide_eq_false c10
   clear c10
   by_cases c18 : (t464.length : Int) = 1
   ·rw [if_pos c18] at H
    have c18b0 : ((t464.length : Int) == 1) = true := beq_iff_eq.mpr c18
    have c18b1 : ((t464.length : Int) != 1) = false := bne_eq_false_iff_eq.mpr c18
    clear c18
    by_cases c19 : 0 < (t464.length : Int)
    ·rw [if_pos c19] at H
     have c19b0 : decide (0 < (t464.length : Int)) = true := decide_eq_true c19
     have c19b1 : decide (0 < t464.length) = true := decide_eq_true (by omega)
     clear c19
     replace H := bi H
     obtain ⟨⟨t472, t475⟩, A200, H⟩ := H
     try dsimp only at H
     have A20 := Aside0.mk A200
     clear A200
     replace H := bi H
     obtain ⟨t476, A210, H⟩ := H
     have A21 := Aside0.mk A210
     clear A210
     simp only [Option.some.injEq, Prod.mk.injEq] at H
     obtain ⟨rfl, rfl, rfl⟩ := H
     go_enter Try.func67, Try.ntmps67
     go_wp2_with (first | ((with_reducible refine gate_callee (f := 81) rfl ?_); refine gL (N := some 15) Try.func81 #[.slice A0 l0.length c0] ?_; (with_reducible refine (nat_trim.calls k (fun k_ => ((P0_ k_ ∨ P1_ k_) ∨ w.heap.size ≤ k_)) _ _ l0 t461 _ ?side1 A3.out).mono ?_); (case side1 => exact HO0.out); rintro e w22 ⟨v462, rfl, ho0, hb⟩; refine ⟨_, rfl, ?_⟩; have HO463 := Aside0.mk (Kd.V_lower (Kd.V_mono (ok' := fun k_ => ((P0_ k_ ∨ P1_ k_) ∨ w.heap.size ≤ k_)) ho0 (fun k_ hk_ => Or.elim hk_ (fun hs_ => hs_) (fun hn_ => (.inr (Nat.le_trans (below_size (tb HB)) hn_))))) (below_size (tb HB))); replace HO1 := vb HO1 hb; replace HB := bs HB hb; (try clear hb); (try clear hb2); (try clear hk); (try clear hi); (try clear ho0)) | ((with_reducible refine gate_callee (f := 81) rfl ?_); refine gL (N := some 17) Try.func81 #[.slice A1 l1.length c1] ?_; (with_reducible refine (nat_trim.calls k (fun k_ => ((P0_ k_ ∨ P1_ k_) ∨ w.heap.size ≤ k_)) _ _ l1 t464 _ ?side1 A4.out).mono ?_); (case side1 => exact HO1.out); rintro e w23 ⟨v465, rfl, ho0, hb⟩; refine ⟨_, rfl, ?_⟩; have HO466 := Aside0.mk (Kd.V_lower (Kd.V_mono (ok' := fun k_ => ((P0_ k_ ∨ P1_ k_) ∨ w.heap.size ≤ k_)) ho0 (fun k_ hk_ => Or.elim hk_ (fun hs_ => hs_) (fun hn_ => (.inr (Nat.le_trans (below_size (tb HB)) hn_))))) (below_size (tb HB))); replace HO463 := vb HO463 hb; replace HB := bs HB hb; (try clear hb); (try clear hb2); (try clear hk); (try clear hi); (try clear ho0); obtain ⟨Ao24, co24, eo24⟩ := Kd.V_slice HO466.out; subst eo24; obtain ⟨Ao25, co25, eo25⟩ := Kd.V_slice HO463.out; subst eo25) | ((with_reducible refine gate_callee (f := 65) rfl ?_); refine gL (N := some 25) Try.func65 #[.slice Ao25 t461.length co25, .slice Ao24 t464.length co24] ?_; (with_reducible refine (nat_Cmp.calls k _ _ t461 _ _ t464 t467 _ ?side1 ?side2 ?side3 ?side4 A9.out).mono ?_); (case side1 => exact tc (Kd.V_reads' HO463.out).2.2); (case side2 => exact (Kd.V_reads' HO463.out).2.1); (case side3 => exact tc (Kd.V_reads' HO466.out).2.2); (case side4 => exact (Kd.V_reads' HO466.out).2.1); rintro e w26 ⟨rfl, hb⟩; refine ⟨_, rfl, ?_⟩; replace HO463 := vb HO463 hb; replace HO466 := vb HO466 hb; replace HB := bs HB hb; (try clear hb); (try clear hb2); (try clear hk); (try clear hi); have p471 : 0 ≤ (0 : Int) := (by omega); have q471 : 0 < (t464.length : Int) := td; obtain ⟨ad471, e471, hx471_0⟩ := Kd.at_int (Kd.V_reads' HO466.out).2.2 0 p471 q471; cases e471; have qi471 : (0 < t464.length) = True := eq_true (by omega); (try rw [show ((0 : Int)).toNat = 0 from rfl] at hx471_0); (try rw [Addr.add_zero'] at hx471_0); replace p471 := eq_true p471; replace q471 := eq_true q471) | ((with_reducible refine gate_callee (f := 77) rfl ?_); refine gL (N := some 38) Try.func77 #[.slice Ao25 t461.length co25, .int .u32 (rd t464 0)] ?_; (with_reducible refine (nat_short.calls k _ _ t461 (rd t464 0) t472 t475 _ ?side1 ?side2 A20.out).mono ?_); (case side1 => exact tc (Kd.V_reads' HO463.out).2.2); (case side2 => exact (Kd.V_reads' HO463.out).2.1); rintro e w27 ⟨v473, rfl, ho0, hb⟩; refine ⟨_, rfl, ?_⟩; have HO474 := Aside0.mk (Kd.V_lower (Kd.V_mono (ok' := fun k_ => ((P0_ k_ ∨ P1_ k_) ∨ w.heap.size ≤ k_)) ho0 (fun k_ hk_ => (.inr (Nat.le_trans (below_size (tb HB)) hk_)))) (below_size (tb HB))); replace HB := bs HB hb; (try clear hb); (try clear hb2); (try clear hk); (try clear hi); (try clear ho0)) | ((with_reducible refine gate_callee (f := 71) rfl ?_); refine gL (N := some 44) Try.func71 #[.int .u64 (IntKind.u64.wrap (t475))] ?_; (with_reducible refine (nat_Of.calls k (IntKind.u64.wrap (t475)) t476 _ A21.out).mono ?_); rintro e w28 ⟨v477, rfl, ho0, hb⟩; refine ⟨_, rfl, ?_⟩; have HO478 := Aside0.mk (Kd.R_lower (Kd.R_newM (M := fun k_ => (w.heap.size ≤ k_)) ho0 (below_size (tb HB)) (fun k_ h_ => h_)) (below_size (tb HB))); replace HO474 := Aside0.mk (Kd.V_elder' (tv HO474) (Kd.R_base ho0) hb); replace HB := bs HB hb; (try clear hb); (try clear hb2); (try clear hk); (try clear hi); (try clear ho0)))
     go_ret3
     exact ⟨_, _, by first | rfl | (simp [errW_none, errW_some] <;> rfl) | (simp [*, errW_none, errW_some] <;> rfl), by (with_reducible repeat first | apply va | apply vn | apply vd); exact Kd.V_mono HO474.out (fun _ hk => hk.1), Kd.V_mono (Kd.R_V (by (with_reducible repeat first | apply qa | apply qn | apply qd); exact Kd.R_mono HO478.out (fun _ hk => hk.1))) (fun k_ hk => by first | exact ⟨(.inr (hk.1)), hk.2⟩ | exact (.inr (hk))), tb HB⟩
    ·rw [if_neg c19] at H
     exact absurd H (by simp)
   ·rw [if_neg c18] at H
    have c18b0 : ((t464.length : Int) == 1) = false := beq_eq_false_iff_ne.mpr c18
    have c18b1 : ((t464.length : Int) != 1) = true := bne_iff_ne.mpr c18
    obtain ⟨ji29, hji29⟩ : ∃ j_ : Int, (wrap64 ((t464.length : Int) - 1)) = j_ := ⟨_, rfl⟩
    replace H : (if 0 ≤ (ji29) then (if (ji29) < (t464.length : Int) then ((bits_LeadingZeros32.f (rd t464 (ji29))).bind fun t480 => ((nat_left.f k t461 (IntKind.u64.wrap (t480))).bind fun t481 => ((nat_left.f k t464 (IntKind.u64.wrap (t480))).bind fun t484 => ((nat_trim.f k t484).bind fun t487 => (if 0 ≤ (wrap64 ((wrap64 ((t461.length : Int) - (t464.length : Int))) + 1)) then (if (wrap64 ((wrap64 ((t461.length : Int) - (t464.length : Int))) + 1) : Int).toNat ≤ 70368744177664 then (nat_DivMod.l0 k (List.replicate (wrap64 ((wrap64 ((t461.length : Int) - (t464.length : Int))) + 1) : Int).toNat 0) (IntKind.u64.wrap (t480)) t481 t487 (wrap64 ((t461.length : Int) - (t464.length : Int)))) else (none)) else (none)))))) else (none)) else (none)) = some (r1, r2, r3) := by first | (rw [hji29] at H; exact H) | (simp only [hji29] at H ⊢; exact H)
    (try rw [hji29] at A3)
    (try rw [hji29] at A4)
    (try rw [hji29] at A9)
    have hji29w : (IntKind.i64.wrap ((t464.length : Int) - 1)) = ji29 := (i64_w _).trans hji29
    by_cases c30 : 0 ≤ (ji29)
    ·rw [if_pos c30] at H
     have c30b0 : decide (0 ≤ (ji29)) = true := decide_eq_true c30
     clear c30
     by_cases c31 : (ji29) < (t464.length : Int)
     ·rw [if_pos c31] at H
      have c31b0 : decide ((ji29) < (t464.length : Int)) = true := decide_eq_true c31
      clear c31
      replace H := bi H
      obtain ⟨t480, A320, H⟩ := H
      have A32 := Aside0.mk A320
      clear A320
      replace H := bi H
      obtain ⟨t481, A330, H⟩ := H
      have A33 := Aside0.mk A330
      clear A330
      replace H := bi H
      obtain ⟨t484, A340, H⟩ := H
      have A34 := Aside0.mk A340
      clear A340
      replace H := bi H
      obtain ⟨t487, A350, H⟩ := H
      have A35 := Aside0.mk A350
      clear A350
      obtain ⟨ji36, hji36⟩ : ∃ j_ : Int, (wrap64 ((wrap64 ((t461.length : Int) - (t464.length : Int))) + 1)) = j_ := ⟨_, rfl⟩
      replace H : (if 0 ≤ (ji36) then (if (ji36 : Int).toNat ≤ 70368744177664 then (nat_DivMod.l0 k (List.replicate (ji36 : Int).toNat 0) (IntKind.u64.wrap (t480)) t481 t487 (wrap64 ((t461.length : Int) - (t464.length : Int)))) else (none)) else (none)) = some (r1, r2, r3) := by first | (rw [hji36] at H; exact H) | (simp only [hji36] at H ⊢; exact H)
      (try rw [hji36] at A3)
      (try rw [hji36] at A4)
      (try rw [hji36] at A9)
      (try rw [hji36] at A32)
      (try rw [hji36] at A33)
      (try rw [hji36] at A34)
      (try rw [hji36] at A35)
      have hji36w : (IntKind.i64.wrap ((wrap64 ((t461.length : Int) - (t464.length : Int))) + 1)) = ji36 := (i64_w _).trans hji36
      by_cases c37 : 0 ≤ (ji36)
      ·rw [if_pos c37] at H
       have c37b0 := eq_true c37
       have c37b1 : decide (0 ≤ (ji36)) = true := decide_eq_true c37
       clear c37
       by_cases c38 : (ji36 : Int).toNat ≤ 70368744177664
       ·rw [if_pos c38] at H
        have c38b0 := eq_true c38
        have c38b1 : decide ((ji36 : Int).toNat ≤ 70368744177664) = true := decide_eq_true c38
        clear c38
        obtain ⟨y490, hy490⟩ : ∃ y_ : List Int, y_ = (List.replicate (ji36 : Int).toNat 0) := ⟨_, rfl⟩
        replace H : (nat_DivMod.l0 k y490 (IntKind.u64.wrap (t480)) t481 t487 (wrap64 ((t461.length : Int) - (t464.length : Int)))) = some (r1, r2, r3) := by first | (rw [hy490]; with_reducible exact H) | (have H2_ := (Option.bind_some _ _).symm.trans H; rw [hy490]; with_reducible exact H2_) | (have H2_ := (Option.bind_some _ _).symm.trans H; with_reducible exact H2_) | with_reducible exact H | (rw [hy490]; exact H) | exact H
        have Ny490 := Aside0.mk hy490
        clear hy490
        have H' := Aside0.mk H
        clear H
        go_enter Try.func67, Try.ntmps67
        go_wp2_with (first | ((with_reducible refine gate_callee (f := 81) rfl ?_); refine gL (N := some 15) Try.func81 #[.slice A0 l0.length c0] ?_; (with_reducible refine (nat_trim.calls k (fun k_ => ((P0_ k_ ∨ P1_ k_) ∨ w.heap.size ≤ k_)) _ _ l0 t461 _ ?side1 A3.out).mono ?_); (case side1 => exact HO0.out); rintro e w39 ⟨v462, rfl, ho0, hb⟩; refine ⟨_, rfl, ?_⟩; have HO463 := Aside0.mk (Kd.V_lower (Kd.V_mono (ok' := fun k_ => ((P0_ k_ ∨ P1_ k_) ∨ w.heap.size ≤ k_)) ho0 (fun k_ hk_ => Or.elim hk_ (fun hs_ => hs_) (fun hn_ => (.inr (Nat.le_trans (below_size (tb HB)) hn_))))) (below_size (tb HB))); replace HO1 := vb HO1 hb; replace HB := bs HB hb; (try clear hb); (try clear hb2); (try clear hk); (try clear hi); (try clear ho0)) | ((with_reducible refine gate_callee (f := 81) rfl ?_); refine gL (N := some 17) Try.func81 #[.slice A1 l1.length c1] ?_; (with_reducible refine (nat_trim.calls k (fun k_ => ((P0_ k_ ∨ P1_ k_) ∨ w.heap.size ≤ k_)) _ _ l1 t464 _ ?side1 A4.out).mono ?_); (case side1 => exact HO1.out); rintro e w40 ⟨v465, rfl, ho0, hb⟩; refine ⟨_, rfl, ?_⟩; have HO466 := Aside0.mk (Kd.V_lower (Kd.V_mono (ok' := fun k_ => ((P0_ k_ ∨ P1_ k_) ∨ w.heap.size ≤ k_)) ho0 (fun k_ hk_ => Or.elim hk_ (fun hs_ => hs_) (fun hn_ => (.inr (Nat.le_trans (below_size (tb HB)) hn_))))) (below_size (tb HB))); replace HO463 := vb HO463 hb; replace HB := bs HB hb; (try clear hb); (try clear hb2); (try clear hk); (try clear hi); (try clear ho0); obtain ⟨Ao41, co41, eo41⟩ := Kd.V_slice HO466.out; subst eo41; obtain ⟨Ao42, co42, eo42⟩ := Kd.V_slice HO463.out; subst eo42) | ((with_reducible refine gate_callee (f := 65) rfl ?_); refine gL (N := some 25) Try.func65 #[.slice Ao42 t461.length co42, .slice Ao41 t464.length co41] ?_; (with_reducible refine (nat_Cmp.calls k _ _ t461 _ _ t464 t467 _ ?side1 ?side2 ?side3 ?side4 A9.out).mono ?_); (case side1 => exact tc (Kd.V_reads' HO463.out).2.2); (case side2 => exact (Kd.V_reads' HO463.out).2.1); (case side3 => exact tc (Kd.V_reads' HO466.out).2.2); (case side4 => exact (Kd.V_reads' HO466.out).2.1); rintro e w43 ⟨rfl, hb⟩; refine ⟨_, rfl, ?_⟩; replace HO463 := vb HO463 hb; replace HO466 := vb HO466 hb; replace HB := bs HB hb; (try clear hb); (try clear hb2); (try clear hk); (try clear hi); have p479 : 0 ≤ ((ji29) : Int) := td; have q479 : (ji29) < (t464.length : Int) := td; obtain ⟨ad479, e479, hx479_0⟩ := Kd.at_int (Kd.V_reads' HO466.out).2.2 (ji29) p479 q479; cases e479; replace p479 := eq_true p479; replace q479 := eq_true q479) | ((with_reducible refine gate_callee (f := 84) rfl ?_); refine goesL_ (some 51) rfl rfl Try.func84 (by kernel_rfl) rfl #[.int .u32 (rd t464 (ji29))] rfl (by (try simp only [List.map_toArray, List.map_cons, List.map_nil]); first | done | (simp only [hji29]; rfl) | rfl | (simp only [List.length_drop, List.length_take]; rfl)) ?_; (with_reducible refine (bits_LeadingZeros32.calls (rd t464 (ji29)) t480 _ A32.out).mono ?_); rintro e w' ⟨rfl, ⟨nd, rfl⟩⟩; refine ⟨_, rfl, ?_⟩) | ((with_reducible refine gate_callee (f := 85) rfl ?_); refine gL (N := some 55) Try.func85 #[.slice Ao42 t461.length co42, .int .u64 (IntKind.u64.wrap (t480))] ?_; (with_reducible refine (nat_left.calls k _ _ t461 (IntKind.u64.wrap (t480)) t481 _ ?side1 ?side2 A33.out).mono ?_); (case side1 => exact tc (Kd.V_reads' HO463.out).2.2); (case side2 => exact (Kd.V_reads' HO463.out).2.1); rintro e w44 ⟨v482, rfl, ho0, hb⟩; refine ⟨_, rfl, ?_⟩; have HO483 := Aside0.mk (Kd.R_lower (Kd.R_newM (M := fun k_ => (w.heap.size ≤ k_)) ho0 (below_size (tb HB)) (fun k_ h_ => h_)) (below_size (tb HB))); replace HO466 := Aside0.mk (Kd.V_elder' (tv HO466) (Kd.R_base ho0) hb); replace HB := bs HB hb; (try clear hb); (try clear hb2); (try clear hk); (try clear hi); (try clear ho0)) | ((with_reducible refine gate_callee (f := 85) rfl ?_); refine gL (N := some 58) Try.func85 #[.slice (some ad479) t464.length co41, .int .u64 (IntKind.u64.wrap (t480))] ?_; (with_reducible refine (nat_left.calls k _ _ t464 (IntKind.u64.wrap (t480)) t484 _ ?side1 ?side2 A34.out).mono ?_); (case side1 => exact tc (Kd.V_reads' HO466.out).2.2); (case side2 => exact (Kd.V_reads' HO466.out).2.1); rintro e w45 ⟨v485, rfl, ho0, hb⟩; refine ⟨_, rfl, ?_⟩; have HO486 := Aside0.mk (Kd.R_lower (Kd.R_new' (Kd.R_newM (M := fun k_ => (w.heap.size ≤ k_)) ho0 (below_size (tb HB)) (fun k_ h_ => h_)) (Kd.R_lt (tq HO483))) (below_size (tb HB))); replace HO483 := re HO483 (Kd.R_base ho0) hb; replace HB := bs HB hb; (try clear hb); (try clear hb2); (try clear hk); (try clear hi); (try clear ho0); obtain ⟨Ao46, co46, eo46⟩ := Kd.R_slice HO486.out; subst eo46) | ((with_reducible refine gate_callee (f := 81) rfl ?_); refine gL (N := some 59) Try.func81 #[.slice Ao46 t484.length co46] ?_; (with_reducible refine (nat_trim.calls k (fun k_ => some k_ = (.slice Ao46 t484.length co46 : Value).ownBlock) _ _ t484 t487 _ ?side1 A35.out).mono ?_); (case side1 => exact Kd.R_V (Kd.R_tight rfl (HO486.out))); rintro e w47 ⟨v488, rfl, ho0, hb⟩; refine ⟨_, rfl, ?_⟩; have HO489 := Aside0.mk (Kd.V_lower (Kd.V_mono (ok' := fun k_ => ((P0_ k_ ∨ P1_ k_) ∨ w.heap.size ≤ k_) ∧ some k_ ≠ (v482 : Value).ownBlock) ho0 (fun k_ hk_ => ⟨Or.elim hk_ (fun hs_ => (.inr (((HO486.out).1 k_ hs_.symm).1.1))) (fun hn_ => (.inr (Nat.le_trans (below_size (tb HB)) hn_))), Or.elim hk_ (fun hs_ => ((HO486.out).1 k_ hs_.symm).2) (fun hn_ => (Kd.fresh' (Kd.R_lt (tq HO483)) k_ hn_))⟩)) (below_size (tb HB))); replace HO483 := rb HO483 hb; replace HO486 := rb HO486 hb; replace HB := bs HB hb; (try clear hb); (try clear hb2); (try clear hk); (try clear hi); (try clear ho0)) | ((with_reducible refine gate_dst (N := 66) rfl ?_); refine Kd.R_make (Kd.int .u32) _ 87 rfl (N := 66) rfl 22 _ _ rfl ji36 rfl rfl Try.underlying22 (.int .u32 0) 4 info87 rfl (by decide) (by omega) 0 (ok := fun _ => True) (okp := fun _ => True) rfl (fun _ hk => hk) trivial (td) (Nat.le_trans (Nat.mul_le_mul_right _ (td : ji36.toNat ≤ 70368744177664)) (by omega)) (Below.refl _ _) (Nat.le_refl _) ?_; intro v491 w48 ho49 hb hg_ hnew_; clear hg_ hnew_; (first | rw [← Ny490.out] at ho49 | (simp only [Int.reduceToNat] at ho49; rw [← Ny490.out] at ho49)); have HO492 := Aside0.mk (Kd.R_lower (Kd.R_new' (Kd.R_new' (Kd.R_newM (M := fun k_ => (w.heap.size ≤ k_)) ho49 (below_size (tb HB)) (fun k_ h_ => h_)) (Kd.R_lt (tq HO483))) (Kd.R_lt (tq HO486))) (below_size (tb HB))); replace HO483 := re HO483 (Kd.R_base ho49) hb; replace HO489 := Aside0.mk (Kd.V_elder' (tv HO489) (Kd.R_base ho49) hb); replace HB := bs HB hb; clear hb ho49))
        go_loopg [12] k (fun kq v12 w' => ∃ (x4_1 : List Int) (x10_1 : List Int) (x12_1 : Int), v12 = .int .i64 x12_1 ∧ Aside0 (nat_DivMod.l0 kq x4_1 (IntKind.u64.wrap (t480)) x10_1 t487 x12_1 = some (r1, r2, r3)) ∧ Aside0 (kq ≤ k) ∧ Aside0 (Kd.R (Kd.int .u32) 87 w' w.heap.size (fun k_ => (w.heap.size ≤ k_) ∧ some k_ ≠ (v482 : Value).ownBlock) v491 x4_1) ∧ Aside0 (Kd.R (Kd.int .u32) 87 w' w.heap.size (fun k_ => (w.heap.size ≤ k_) ∧ some k_ ≠ (v491 : Value).ownBlock) v482 x10_1) ∧ Aside0 (Kd.V (Kd.int .u32) 87 w' w.heap.size (fun k_ => ((P0_ k_ ∨ P1_ k_) ∨ w.heap.size ≤ k_) ∧ some k_ ≠ (v491 : Value).ownBlock ∧ some k_ ≠ (v482 : Value).ownBlock) v488 t487) ∧ Aside0 (Below w.heap.size w w'))
        case atStart => exact ⟨(y490), (t481), (wrap64 ((t461.length : Int) - (t464.length : Int))), (by first | rfl | (simp; done) | (simp [*]; done)), H', ⟨Nat.le_refl _⟩, ⟨by (with_reducible repeat first | apply qa | apply qn | apply qd); exact Kd.R_mono HO492.out (fun _ hk => ⟨hk.1.1.1, hk.1.2⟩)⟩, ⟨by (with_reducible repeat first | apply qa | apply qn | apply qd); exact Kd.R_mono HO483.out (fun _ hk => ⟨hk.1.1.1, hk.2⟩)⟩, ⟨by (with_reducible repeat first | apply va | apply vn | apply vd); exact Kd.V_mono HO489.out (fun _ hk => ⟨hk.1.1, ⟨hk.2, hk.1.2⟩⟩)⟩, ⟨tb HB⟩⟩
        case round =>
         clear H'
         (try clear c1); (try clear p2); (try clear c3); (try clear p4); (try clear q4); (try clear hx4); (try clear qi4); (try clear c5); (try clear c5b0); (try clear c5b1); (try clear c5b2); (try clear c6); (try clear p6); (try clear c7); (try clear c8); (try clear c10); (try clear c10b0); (try clear c18); (try clear c18b0); (try clear c18b1); (try clear c19); (try clear c19b0); (try clear c19b1); (try clear c30); (try clear c30b0); (try clear c31); (try clear c31b0); (try clear c37); (try clear c37b0); (try clear c37b1); (try clear c38); (try clear c38b0); (try clear c38b1); (try clear p47); (try clear q47); (try clear hx47); (try clear qi47); (try clear hx471_0); (try clear hx479_0); (try clear p471); (try clear p479); (try clear q471); (try clear q479)
         obtain ⟨x4_1, x10_1, x12_1, rfl, HA, HK1, HO_4, HO_10, HO_11, HB⟩ := hrel
         cases gk with
         | zero => exact absurd HA.out (by simp [nat_DivMod.l0])
         | succ k1 =>
          have H := HA.out
          clear HA
          simp only [nat_DivMod.l0] at H
          by_cases c50 : x12_1 ≥ 0
          ·rw [if_pos c50] at H
           have c50b0 : decide (0 ≤ x12_1) = true := decide_eq_true c50
           clear c50
           replace H := bi H
           obtain ⟨t499, A510, H⟩ := H
           have A51 := Aside0.mk A510
           clear A510
           replace H := bi H
           obtain ⟨⟨t500, t501⟩, A520, H⟩ := H
           try dsimp only at H
           have A52 := Aside0.mk A520
           clear A520
           by_cases c53 : t500 = true
           ·subst c53
            have H1 : ((nat_raise.f k1 t501 x12_1 t487).bind fun t502 => (if 0 ≤ x12_1 then (if x12_1 < (x4_1.length : Int) then (nat_DivMod.l0 k1 (x4_1.set (x12_1 : Int).toNat ((IntKind.u64.wrap (t499 - 1)) % 4294967296)) (IntKind.u64.wrap (t480)) t502 t487 (wrap64 (x12_1 - 1))) else (none)) else (none))) = some (r1, r2, r3) := by rw [if_pos rfl] at H; exact H
            clear H
            have H := H1
            clear H1
            replace H := bi H
            obtain ⟨t502, A540, H⟩ := H
            have A54 := Aside0.mk A540
            clear A540
            by_cases c55 : 0 ≤ x12_1
            ·rw [if_pos c55] at H
             have c55b0 : decide (0 ≤ x12_1) = true := decide_eq_true c55
             clear c55
             by_cases c56 : x12_1 < (x4_1.length : Int)
             ·rw [if_pos c56] at H
              have c56b0 : decide (x12_1 < (x4_1.length : Int)) = true := decide_eq_true c56
              clear c56
              obtain ⟨y503, hy503⟩ : ∃ y_ : List Int, y_ = (x4_1.set (x12_1 : Int).toNat ((IntKind.u64.wrap (t499 - 1)) % 4294967296)) := ⟨_, rfl⟩
              replace H : (nat_DivMod.l0 k1 y503 (IntKind.u64.wrap (t480)) t502 t487 (wrap64 (x12_1 - 1))) = some (r1, r2, r3) := by first | (rw [hy503]; with_reducible exact H) | (have H2_ := (Option.bind_some _ _).symm.trans H; rw [hy503]; with_reducible exact H2_) | (have H2_ := (Option.bind_some _ _).symm.trans H; with_reducible exact H2_) | with_reducible exact H | (rw [hy503]; exact H) | exact H
              have Ny503 := Aside0.mk hy503
              clear hy503
              have H' := Aside0.mk H
              clear H
              obtain ⟨Ao58, co58, eo58⟩ := Kd.R_slice HO_10.out
              subst eo58
              obtain ⟨Ao59, co59, eo59⟩ := Kd.V_slice HO_11.out
              subst eo59
              go_wp2_with (first | ((with_reducible refine gate_callee (f := 86) rfl ?_); refine gL (N := some 79) Try.func86 #[.slice Ao58 x10_1.length co58, .int .i64 x12_1, .slice Ao59 t487.length co59] ?_; (with_reducible refine (nat_guess.calls k1 _ _ x10_1 x12_1 _ _ t487 t499 _ ?side1 ?side2 ?side3 ?side4 A51.out).mono ?_); (case side1 => exact tc (Kd.R_reads' HO_10.out).2.2); (case side2 => exact (Kd.R_reads' HO_10.out).2.1); (case side3 => exact tc (Kd.V_reads' HO_11.out).2.2); (case side4 => exact (Kd.V_reads' HO_11.out).2.1); rintro e w' ⟨rfl, ⟨nd, rfl⟩⟩; refine ⟨_, rfl, ?_⟩; (try (rw [drewN_self wr]; generalize hq_ : World.drewN wr _ = wr; have n0_ : Aside0 (Kd.R (Kd.int .u32) 87 wr w.heap.size (fun k_ => (w.heap.size ≤ k_) ∧ some k_ ≠ (v491 : Value).ownBlock) (.slice Ao58 x10_1.length co58) x10_1) := ⟨by rw [← hq_]; exact (tq HO_10)⟩; have n1_ := Aside0.mk (Kd.V_at_ hq_ HO_11.out); have n2_ : Aside0 (Kd.R (Kd.int .u32) 87 wr w.heap.size (fun k_ => (w.heap.size ≤ k_) ∧ some k_ ≠ (.slice Ao58 x10_1.length co58 : Value).ownBlock) v491 x4_1) := ⟨by rw [← hq_]; exact (tq HO_4)⟩; have n3_ : Aside0 (Below w.heap.size w wr) := ⟨by rw [← hq_]; exact (tb HB)⟩; clear HO_10 HO_11 HO_4 HB hq_; have HO_10 := n0_; have HO_11 := n1_; have HO_4 := n2_; have HB := n3_; clear n0_ n1_ n2_ n3_))) | ((with_reducible refine gate_callee (f := 87) rfl ?_); refine gL (N := some 84) Try.func87 #[.slice Ao58 x10_1.length co58, .int .i64 x12_1, .int .u64 t499, .slice Ao59 t487.length co59] ?_; (with_reducible refine (nat_lower.calls k1 (fun k_ => some k_ = (.slice Ao58 x10_1.length co58 : Value).ownBlock) (.slice Ao58 x10_1.length co58) x10_1 x12_1 t499 _ _ t487 true t501 w _ ?side1 ?side2 ?side3 ?side4 A52.out).mono ?_); (case side1 => exact tb HB); (case side2 => exact Kd.R_tight rfl HO_10.out); (case side3 => exact Kd.C_kept_ownV (HO_11.out) (fun k_ hk_ hs_ => (hk_.2.2) hs_)); (case side4 => exact (Kd.V_reads' HO_11.out).2.1); rintro e w60 ⟨rfl, hy0, hb, hkp⟩; refine ⟨_, rfl, ?_⟩; replace HO_4 := Aside0.mk (Kd.R_mono (ok' := fun k_ => (w.heap.size ≤ k_) ∧ some k_ ≠ (.slice Ao58 x10_1.length co58 : Value).ownBlock) (Kd.R_keptB (HO_4.out) hkp (fun k_ hk_ hs_ => (hk_.2) hs_)) (fun k_ hk_ => ⟨hk_.1.1, hk_.1.2⟩)); replace HO_10 := Aside0.mk (Kd.R_reok rfl hy0 (fun k_ e_ => HO_10.out.1 k_ e_)); replace HO_11 := Aside0.mk (Kd.V_mono (ok' := fun k_ => ((P0_ k_ ∨ P1_ k_) ∨ w.heap.size ≤ k_) ∧ some k_ ≠ (v491 : Value).ownBlock ∧ some k_ ≠ (.slice Ao58 x10_1.length co58 : Value).ownBlock) (Kd.V_keptB (HO_11.out) hkp (fun k_ hk_ hs_ => (hk_.2.2) hs_)) (fun k_ hk_ => ⟨hk_.1.1, hk_.1.2.1, hk_.1.2.2⟩)); replace HB := Aside0.mk (hb); (try clear hb); (try clear hkp); (try clear hy0)) | ((with_reducible refine gate_callee (f := 88) rfl ?_); refine gL (N := some 90) Try.func88 #[.slice Ao58 x10_1.length co58, .int .i64 x12_1, .slice Ao59 t487.length co59] ?_; (with_reducible refine (nat_raise.calls k1 (fun k_ => some k_ = (.slice Ao58 x10_1.length co58 : Value).ownBlock) (.slice Ao58 x10_1.length co58) t501 x12_1 _ _ t487 t502 w _ ?side1 ?side2 ?side3 ?side4 A54.out).mono ?_); (case side1 => exact tb HB); (case side2 => exact Kd.R_tight rfl HO_10.out); (case side3 => exact Kd.C_kept_ownV (HO_11.out) (fun k_ hk_ hs_ => (hk_.2.2) hs_)); (case side4 => exact (Kd.V_reads' HO_11.out).2.1); rintro e w61 ⟨rfl, hy0, hb, hkp⟩; refine ⟨_, rfl, ?_⟩; replace HO_4 := Aside0.mk (Kd.R_mono (ok' := fun k_ => (w.heap.size ≤ k_) ∧ some k_ ≠ (.slice Ao58 x10_1.length co58 : Value).ownBlock) (Kd.R_keptB (HO_4.out) hkp (fun k_ hk_ hs_ => (hk_.2) hs_)) (fun k_ hk_ => ⟨hk_.1.1, hk_.1.2⟩)); replace HO_10 := Aside0.mk (Kd.R_reok rfl hy0 (fun k_ e_ => HO_10.out.1 k_ e_)); replace HO_11 := Aside0.mk (Kd.V_mono (ok' := fun k_ => ((P0_ k_ ∨ P1_ k_) ∨ w.heap.size ≤ k_) ∧ some k_ ≠ (v491 : Value).ownBlock ∧ some k_ ≠ (.slice Ao58 x10_1.length co58 : Value).ownBlock) (Kd.V_keptB (HO_11.out) hkp (fun k_ hk_ hs_ => (hk_.2.2) hs_)) (fun k_ hk_ => ⟨hk_.1.1, hk_.1.2.1, hk_.1.2.2⟩)); replace HB := Aside0.mk (hb); (try clear hb); (try clear hkp); (try clear hy0); have p57 : 0 ≤ (x12_1 : Int) := td; have q57 : (x12_1 : Int) < ((x4_1.length : Int) : Int) := td; obtain ⟨go57, co57, eo57, gb57, gl57, cl57, HG57⟩ := Kd.R_form HO_4.out (by omega); (first | cases eo57 | (injection eo57 with ea_ en_ ec_; (first | subst ea_ | (injection ea_ with ea_; subst ea_)); subst ec_; clear en_)); have GB57 := Aside0.mk gb57; have GG57 := Aside0.mk HG57; clear gb57 gl57 HG57; obtain ⟨hx57_0, hf57_0⟩ := Kd.R_celln 0 HO_4.out (x12_1 : Int) p57 q57; replace p57 := eq_true p57; replace q57 := eq_true q57; obtain ⟨hy62_, hz62_⟩ := Kd.R_celln 0 HO_4.out (x12_1 : Int) (td) (td); have HP62 := Kd.R_putg HO_4.out (x12_1 : Int) ((IntKind.u64.wrap (t499 - 1)) % 4294967296)) | ((with_reducible refine gate_store (t := 87) (p := 95) rfl ?_); refine store_event (t := 87) (p := 95) (v := ?vo_w63) (w1 := (w61.setCell ⟨go57, (x12_1 : Int).toNat, none⟩ (.int .u32 ((IntKind.u64.wrap (t499 - 1)) % 4294967296)))) ?hg ?ho ?hn ?hr ?_; (case ho => rfl); (case hg => rfl); (case hn => rfl); (case hr => first | (go_simp; done) | (go_simp; rfl)); intro w63 hw; have hg : w61.grownBy w63 (some go57) := (by rw [hw]; exact HP62.2); have hp_ : Kd.R (Kd.int .u32) 87 w63 w.heap.size (fun k_ => (w.heap.size ≤ k_) ∧ some k_ ≠ (.slice Ao58 x10_1.length co58 : Value).ownBlock) (.slice (some ⟨go57, 0, none⟩) x4_1.length co57) y503 := (by rw [hw, Ny503.out]; exact HP62.1); clear HP62; replace HO_4 := Aside0.mk (hp_); replace HO_10 := Aside0.mk (Kd.R_after (v := (.slice (some ⟨go57, 0, none⟩) x4_1.length co57)) (v1 := (.slice (some ⟨go57, 0, none⟩) x4_1.length co57)) (ok := (fun k_ => (w.heap.size ≤ k_))) (tq HO_10) hg (.inl rfl)); replace HO_11 := Aside0.mk (Kd.V_afterv (v := (.slice (some ⟨go57, 0, none⟩) x4_1.length co57)) (v1 := (.slice (some ⟨go57, 0, none⟩) x4_1.length co57)) (ok := (fun k_ => ((P0_ k_ ∨ P1_ k_) ∨ w.heap.size ≤ k_) ∧ some k_ ≠ (.slice Ao58 x10_1.length co58 : Value).ownBlock)) (by (with_reducible repeat first | apply va | apply vn | apply vd); exact Kd.V_mono HO_11.out (fun _ hk => ⟨⟨hk.1, hk.2.2⟩, hk.2.1⟩)) hg (.inl rfl)); replace HB := Aside0.mk ((by rw [hw]; exact below_set (HB.out) GB57.out : Below w.heap.size w w63)); clear hg hw hp_))
              go_roundg k1
              case measure => have := HK1.out; omega
              case rel => exact ⟨(y503), (t502), (wrap64 (x12_1 - 1)), (by first | rfl | (simp; done) | (simp [*]; done)), H', ⟨by have := HK1.out; omega⟩, ⟨tq HO_4⟩, ⟨tq HO_10⟩, ⟨by (with_reducible repeat first | apply va | apply vn | apply vd); exact Kd.V_mono HO_11.out (fun _ hk => ⟨hk.1.1, ⟨hk.2, hk.1.2⟩⟩)⟩, ⟨tb HB⟩⟩
             ·rw [if_neg c56] at H
              exact absurd H (by simp)
            ·rw [if_neg c55] at H
             exact absurd H (by simp)
           ·replace c53 := Bool.eq_false_iff.mpr c53
            subst c53
            have H1 : (if 0 ≤ x12_1 then (if x12_1 < (x4_1.length : Int) then (nat_DivMod.l0 k1 (x4_1.set (x12_1 : Int).toNat ((t499) % 4294967296)) (IntKind.u64.wrap (t480)) t501 t487 (wrap64 (x12_1 - 1))) else (none)) else (none)) = some (r1, r2, r3) := by rw [if_neg (show ¬ (false = true) by decide)] at H; exact H
            clear H
            have H := H1
            clear H1
            by_cases c64 : 0 ≤ x12_1
            ·rw [if_pos c64] at H
             have c64b0 : decide (0 ≤ x12_1) = true := decide_eq_true c64
             clear c64
             by_cases c65 : x12_1 < (x4_1.length : Int)
             ·rw [if_pos c65] at H
              have c65b0 : decide (x12_1 < (x4_1.length : Int)) = true := decide_eq_true c65
              clear c65
              obtain ⟨y504, hy504⟩ : ∃ y_ : List Int, y_ = (x4_1.set (x12_1 : Int).toNat ((t499) % 4294967296)) := ⟨_, rfl⟩
              replace H : (nat_DivMod.l0 k1 y504 (IntKind.u64.wrap (t480)) t501 t487 (wrap64 (x12_1 - 1))) = some (r1, r2, r3) := by first | (rw [hy504]; with_reducible exact H) | (have H2_ := (Option.bind_some _ _).symm.trans H; rw [hy504]; with_reducible exact H2_) | (have H2_ := (Option.bind_some _ _).symm.trans H; with_reducible exact H2_) | with_reducible exact H | (rw [hy504]; exact H) | exact H
              have Ny504 := Aside0.mk hy504
              clear hy504
              have H' := Aside0.mk H
              clear H
              obtain ⟨Ao67, co67, eo67⟩ := Kd.R_slice HO_10.out
              subst eo67
              obtain ⟨Ao68, co68, eo68⟩ := Kd.V_slice HO_11.out
              subst eo68
              go_wp2_with (first | ((with_reducible refine gate_callee (f := 86) rfl ?_); refine gL (N := some 79) Try.func86 #[.slice Ao67 x10_1.length co67, .int .i64 x12_1, .slice Ao68 t487.length co68] ?_; (with_reducible refine (nat_guess.calls k1 _ _ x10_1 x12_1 _ _ t487 t499 _ ?side1 ?side2 ?side3 ?side4 A51.out).mono ?_); (case side1 => exact tc (Kd.R_reads' HO_10.out).2.2); (case side2 => exact (Kd.R_reads' HO_10.out).2.1); (case side3 => exact tc (Kd.V_reads' HO_11.out).2.2); (case side4 => exact (Kd.V_reads' HO_11.out).2.1); rintro e w' ⟨rfl, ⟨nd, rfl⟩⟩; refine ⟨_, rfl, ?_⟩; (try (rw [drewN_self wr]; generalize hq_ : World.drewN wr _ = wr; have n0_ : Aside0 (Kd.R (Kd.int .u32) 87 wr w.heap.size (fun k_ => (w.heap.size ≤ k_) ∧ some k_ ≠ (v491 : Value).ownBlock) (.slice Ao67 x10_1.length co67) x10_1) := ⟨by rw [← hq_]; exact (tq HO_10)⟩; have n1_ := Aside0.mk (Kd.V_at_ hq_ HO_11.out); have n2_ : Aside0 (Kd.R (Kd.int .u32) 87 wr w.heap.size (fun k_ => (w.heap.size ≤ k_) ∧ some k_ ≠ (.slice Ao67 x10_1.length co67 : Value).ownBlock) v491 x4_1) := ⟨by rw [← hq_]; exact (tq HO_4)⟩; have n3_ : Aside0 (Below w.heap.size w wr) := ⟨by rw [← hq_]; exact (tb HB)⟩; clear HO_10 HO_11 HO_4 HB hq_; have HO_10 := n0_; have HO_11 := n1_; have HO_4 := n2_; have HB := n3_; clear n0_ n1_ n2_ n3_))) | ((with_reducible refine gate_callee (f := 87) rfl ?_); refine gL (N := some 84) Try.func87 #[.slice Ao67 x10_1.length co67, .int .i64 x12_1, .int .u64 t499, .slice Ao68 t487.length co68] ?_; (with_reducible refine (nat_lower.calls k1 (fun k_ => some k_ = (.slice Ao67 x10_1.length co67 : Value).ownBlock) (.slice Ao67 x10_1.length co67) x10_1 x12_1 t499 _ _ t487 false t501 w _ ?side1 ?side2 ?side3 ?side4 A52.out).mono ?_); (case side1 => exact tb HB); (case side2 => exact Kd.R_tight rfl HO_10.out); (case side3 => exact Kd.C_kept_ownV (HO_11.out) (fun k_ hk_ hs_ => (hk_.2.2) hs_)); (case side4 => exact (Kd.V_reads' HO_11.out).2.1); rintro e w69 ⟨rfl, hy0, hb, hkp⟩; refine ⟨_, rfl, ?_⟩; replace HO_4 := Aside0.mk (Kd.R_mono (ok' := fun k_ => (w.heap.size ≤ k_) ∧ some k_ ≠ (.slice Ao67 x10_1.length co67 : Value).ownBlock) (Kd.R_keptB (HO_4.out) hkp (fun k_ hk_ hs_ => (hk_.2) hs_)) (fun k_ hk_ => ⟨hk_.1.1, hk_.1.2⟩)); replace HO_10 := Aside0.mk (Kd.R_reok rfl hy0 (fun k_ e_ => HO_10.out.1 k_ e_)); replace HO_11 := Aside0.mk (Kd.V_mono (ok' := fun k_ => ((P0_ k_ ∨ P1_ k_) ∨ w.heap.size ≤ k_) ∧ some k_ ≠ (v491 : Value).ownBlock ∧ some k_ ≠ (.slice Ao67 x10_1.length co67 : Value).ownBlock) (Kd.V_keptB (HO_11.out) hkp (fun k_ hk_ hs_ => (hk_.2.2) hs_)) (fun k_ hk_ => ⟨hk_.1.1, hk_.1.2.1, hk_.1.2.2⟩)); replace HB := Aside0.mk (hb); (try clear hb); (try clear hkp); (try clear hy0); have p66 : 0 ≤ (x12_1 : Int) := td; have q66 : (x12_1 : Int) < ((x4_1.length : Int) : Int) := td; obtain ⟨go66, co66, eo66, gb66, gl66, cl66, HG66⟩ := Kd.R_form HO_4.out (by omega); (first | cases eo66 | (injection eo66 with ea_ en_ ec_; (first | subst ea_ | (injection ea_ with ea_; subst ea_)); subst ec_; clear en_)); have GB66 := Aside0.mk gb66; have GG66 := Aside0.mk HG66; clear gb66 gl66 HG66; obtain ⟨hx66_0, hf66_0⟩ := Kd.R_celln 0 HO_4.out (x12_1 : Int) p66 q66; replace p66 := eq_true p66; replace q66 := eq_true q66; obtain ⟨hy70_, hz70_⟩ := Kd.R_celln 0 HO_4.out (x12_1 : Int) (td) (td); have HP70 := Kd.R_putg HO_4.out (x12_1 : Int) ((t499) % 4294967296)) | ((with_reducible refine gate_store (t := 87) (p := 95) rfl ?_); refine store_event (t := 87) (p := 95) (v := ?vo_w71) (w1 := (w69.setCell ⟨go66, (x12_1 : Int).toNat, none⟩ (.int .u32 ((t499) % 4294967296)))) ?hg ?ho ?hn ?hr ?_; (case ho => rfl); (case hg => rfl); (case hn => rfl); (case hr => first | (go_simp; done) | (go_simp; rfl)); intro w71 hw; have hg : w69.grownBy w71 (some go66) := (by rw [hw]; exact HP70.2); have hp_ : Kd.R (Kd.int .u32) 87 w71 w.heap.size (fun k_ => (w.heap.size ≤ k_) ∧ some k_ ≠ (.slice Ao67 x10_1.length co67 : Value).ownBlock) (.slice (some ⟨go66, 0, none⟩) x4_1.length co66) y504 := (by rw [hw, Ny504.out]; exact HP70.1); clear HP70; replace HO_4 := Aside0.mk (hp_); replace HO_10 := Aside0.mk (Kd.R_after (v := (.slice (some ⟨go66, 0, none⟩) x4_1.length co66)) (v1 := (.slice (some ⟨go66, 0, none⟩) x4_1.length co66)) (ok := (fun k_ => (w.heap.size ≤ k_))) (tq HO_10) hg (.inl rfl)); replace HO_11 := Aside0.mk (Kd.V_afterv (v := (.slice (some ⟨go66, 0, none⟩) x4_1.length co66)) (v1 := (.slice (some ⟨go66, 0, none⟩) x4_1.length co66)) (ok := (fun k_ => ((P0_ k_ ∨ P1_ k_) ∨ w.heap.size ≤ k_) ∧ some k_ ≠ (.slice Ao67 x10_1.length co67 : Value).ownBlock)) (by (with_reducible repeat first | apply va | apply vn | apply vd); exact Kd.V_mono HO_11.out (fun _ hk => ⟨⟨hk.1, hk.2.2⟩, hk.2.1⟩)) hg (.inl rfl)); replace HB := Aside0.mk ((by rw [hw]; exact below_set (HB.out) GB66.out : Below w.heap.size w w71)); clear hg hw hp_))
              go_roundg k1
              case measure => have := HK1.out; omega
              case rel => exact ⟨(y504), (t501), (wrap64 (x12_1 - 1)), (by first | rfl | (simp; done) | (simp [*]; done)), H', ⟨by have := HK1.out; omega⟩, ⟨tq HO_4⟩, ⟨tq HO_10⟩, ⟨by (with_reducible repeat first | apply va | apply vn | apply vd); exact Kd.V_mono HO_11.out (fun _ hk => ⟨hk.1.1, ⟨hk.2, hk.1.2⟩⟩)⟩, ⟨tb HB⟩⟩
             ·rw [if_neg c65] at H
              exact absurd H (by simp)
            ·rw [if_neg c64] at H
             exact absurd H (by simp)
          ·rw [if_neg c50] at H
           have c50b0 : decide (0 ≤ x12_1) = false := decide_eq_false c50
           clear c50
           replace H := bi H
           obtain ⟨t493, A720, H⟩ := H
           have A72 := Aside0.mk A720
           clear A720
           replace H := bi H
           obtain ⟨t496, A730, H⟩ := H
           have A73 := Aside0.mk A730
           clear A730
           simp only [Option.some.injEq, Prod.mk.injEq] at H
           obtain ⟨rfl, rfl, rfl⟩ := H
           obtain ⟨Ao74, co74, eo74⟩ := Kd.R_slice HO_4.out
           subst eo74
           go_wp2_with (first | ((with_reducible refine gate_callee (f := 81) rfl ?_); refine gL (N := some 97) Try.func81 #[.slice Ao74 x4_1.length co74] ?_; (with_reducible refine (nat_trim.calls k1 (fun k_ => some k_ = (.slice Ao74 x4_1.length co74 : Value).ownBlock) _ _ x4_1 t493 _ ?side1 A72.out).mono ?_); (case side1 => exact Kd.R_V (Kd.R_tight rfl (HO_4.out))); rintro e w75 ⟨v494, rfl, ho0, hb⟩; refine ⟨_, rfl, ?_⟩; have HO495 := Aside0.mk (Kd.V_lower (Kd.V_mono (ok' := fun k_ => ((P0_ k_ ∨ P1_ k_) ∨ w.heap.size ≤ k_) ∧ some k_ ≠ (v482 : Value).ownBlock) ho0 (fun k_ hk_ => ⟨Or.elim hk_ (fun hs_ => (.inr (((HO_4.out).1 k_ hs_.symm).1))) (fun hn_ => (.inr (Nat.le_trans (below_size (tb HB)) hn_))), Or.elim hk_ (fun hs_ => ((HO_4.out).1 k_ hs_.symm).2) (fun hn_ => (Kd.fresh' (Kd.R_lt (tq HO_10)) k_ hn_))⟩)) (below_size (tb HB))); replace HO_4 := rb HO_4 hb; replace HO_10 := rb HO_10 hb; replace HB := bs HB hb; (try clear hb); (try clear hb2); (try clear hk); (try clear hi); (try clear ho0); obtain ⟨Ao76, co76, eo76⟩ := Kd.R_slice HO_10.out; subst eo76) | ((with_reducible refine gate_callee (f := 89) rfl ?_); refine gL (N := some 100) Try.func89 #[.slice Ao76 x10_1.length co76, .int .u64 (IntKind.u64.wrap (t480))] ?_; (with_reducible refine (nat_right.calls k1 _ _ x10_1 (IntKind.u64.wrap (t480)) t496 _ ?side1 ?side2 A73.out).mono ?_); (case side1 => exact tc (Kd.R_reads' HO_10.out).2.2); (case side2 => exact (Kd.R_reads' HO_10.out).2.1); rintro e w77 ⟨v497, rfl, ho0, hb⟩; refine ⟨_, rfl, ?_⟩; have HO498 := Aside0.mk (Kd.V_lower (Kd.V_mono (ok' := fun k_ => ((P0_ k_ ∨ P1_ k_) ∨ w.heap.size ≤ k_) ∧ some k_ ≠ (.slice Ao74 x4_1.length co74 : Value).ownBlock ∧ some k_ ≠ (.slice Ao76 x10_1.length co76 : Value).ownBlock) ho0 (fun k_ hk_ => ⟨(.inr (Nat.le_trans (below_size (tb HB)) hk_)), (Kd.fresh' (Kd.R_lt (tq HO_4)) k_ hk_), (Kd.fresh' (Kd.R_lt (tq HO_10)) k_ hk_)⟩)) (below_size (tb HB))); replace HO495 := vb HO495 hb; replace HB := bs HB hb; (try clear hb); (try clear hb2); (try clear hk); (try clear hi); (try clear ho0)))
           go_ret3
           exact ⟨_, _, by first | rfl | (simp [errW_none, errW_some] <;> rfl) | (simp only [← hji29, ← hji36]; first | rfl | (simp [errW_none, errW_some] <;> rfl)) | (simp [*, errW_none, errW_some] <;> rfl), by (with_reducible repeat first | apply va | apply vn | apply vd); exact Kd.V_mono HO495.out (fun _ hk => hk.1), by (with_reducible repeat first | apply va | apply vn | apply vd); exact Kd.V_mono HO498.out (fun _ hk => hk.1), tb HB⟩
       ·rw [if_neg c38] at H
        exact absurd H (by simp)
      ·rw [if_neg c37] at H
       exact absurd H (by simp)
     ·rw [if_neg c31] at H
      exact absurd H (by simp)
    ·rw [if_neg c30] at H
     exact absurd H (by simp)

end Go.Proofs.Ytjpnaapimnoamaa.QBigGcds
