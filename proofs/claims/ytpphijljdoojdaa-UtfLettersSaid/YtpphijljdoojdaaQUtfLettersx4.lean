-- written by wip/wprint, a program of this session
import Derived.Test.YtpphijljdoojdaaQUtfLettersx0
import Derived.Test.YtpphijljdoojdaaQUtfLettersx3
namespace Go.Proofs.Ytpphijljdoojdaa.QUtfLetters
open Go.RowKit Go.Proofs.YtpphijljdoojdaaW.PrintWords Go.Proofs.YtpphijljdoojdaaW.PrintLast Go.Proofs.YtpphijljdoojdaaW.PrintMore
set_option linter.unusedVariables false
set_option linter.unusedSimpArgs false

/-! ### utf_end: function 28 -/
def utf_end.l0 : Nat → List Int → Int → Option (Int)
  | 0, _, _ => none
  | k + 1, x0, x5 => if x5 < (x0.length : Int) then (if 0 ≤ x5 then (if (rd x0 x5) = 10 then (some x5) else (if (rd x0 x5) = 13 then (some x5) else (utf_end.l0 k x0 (wrap64 (x5 + 1))))) else (none)) else (some x5)
def utf_end.f (k : Nat) (l0 : List Int) (a1 : Int) : Option (Int) := utf_end.l0 k l0 a1
theorem utf_end.mono_l : ∀ k, (∀ y0 y1, LeO (utf_end.l0 k y0 y1) (utf_end.l0 (k + 1) y0 y1))
  | 0 => fun _ _ r h => by simp [utf_end.l0] at h
  | k + 1 => by
    have ih0 := utf_end.mono_l k
    · intro y0 y1
      unfold utf_end.l0
      repeat' first
      | (with_reducible exact ih0 _ _)
      | (with_reducible exact LeO.refl _)
      | (with_reducible exact LeO.none _)
      | (with_reducible refine LeO.ite ?_ ?_)
      | (with_reducible refine LeO.bind ?_ (fun _ => ?_))
      | exact ih0 _ _
      | exact LeO.none _
      | refine LeO.ite ?_ ?_
      | refine LeO.bind ?_ (fun _ => ?_)
theorem utf_end.mono : ∀ a0 a1 k, LeO (utf_end.f k a0 a1) (utf_end.f (k + 1) a0 a1) := by
  intro a0 a1 k
  have ih0 := utf_end.mono_l k
  unfold utf_end.f
  repeat' first
      | (with_reducible exact ih0 _ _)
      | (with_reducible exact LeO.refl _)
      | (with_reducible exact LeO.none _)
      | (with_reducible refine LeO.ite ?_ ?_)
      | (with_reducible refine LeO.bind ?_ (fun _ => ?_))
      | exact ih0 _ _
      | exact LeO.none _
      | refine LeO.ite ?_ ?_
      | refine LeO.bind ?_ (fun _ => ?_)
set_option maxHeartbeats 8000000 in
set_option maxRecDepth 100000 in
theorem utf_end.calls (k : Nat) (A0 : Option Addr) (c0 : Nat) (l0 : List Int) (a1 : Int) (r : Int) (w : World) (hr0 : Kd.C (Kd.int .u8) w A0 l0.length l0) (hc0 : l0.length ≤ c0) (h : utf_end.f k l0 a1 = some r) :
    Calls Try.prog 28 #[.slice A0 l0.length c0, .int .i64 a1] w fun e w' => e = .returned (.int .i64 r) ∧ Drawn0 w w' := by
  have HR0 := Aside0.mk hr0
  have HC0 := Aside0.mk hc0
  clear hr0 hc0
  have H : (utf_end.l0 k l0 a1) = some r := h
  clear h
  have H' := Aside0.mk H
  clear H
  go_enter Try.func28, Try.ntmps28
  go_wp2
  go_loopg [5] k (fun kq v5 w' => ∃ (x5_1 : Int), v5 = .int .i64 x5_1 ∧ Aside0 (utf_end.l0 kq l0 x5_1 = some r) ∧ Aside0 (kq ≤ k) ∧ Drawn0 w w')
  case atStart => exact ⟨(a1), (by first | rfl | (simp; done) | (simp [*]; done)), H', ⟨Nat.le_refl _⟩, by repeat (first | exact Drawn0.refl _ | apply Drawn0.step)⟩
  case round =>
    clear H'
    try clear c2
    try clear p2
    obtain ⟨x5_1, rfl, HA, HK1, ⟨m1, rfl⟩⟩ := hrel
    cases gk with
    | zero => exact absurd HA.out (by simp [utf_end.l0])
    | succ k1 =>
      have H := HA.out
      clear HA
      simp only [utf_end.l0] at H
      by_cases c3 : x5_1 < (l0.length : Int)
      · rw [if_pos c3] at H
        have c3b0 : decide (x5_1 < (l0.length : Int)) = true := decide_eq_true c3
        clear c3
        by_cases c4 : 0 ≤ x5_1
        · rw [if_pos c4] at H
          have c4b0 : decide (0 ≤ x5_1) = true := decide_eq_true c4
          clear c4
          by_cases c5 : (rd l0 x5_1) = 10
          · rw [if_pos c5] at H
            have c5b0 : ((rd l0 x5_1) == 10) = true := beq_iff_eq.mpr c5
            have c5b1 : ((rd l0 x5_1) != 10) = false := bne_eq_false_iff_eq.mpr c5
            clear c5
            obtain rfl := Option.some.inj H
            have p144 : 0 ≤ (x5_1 : Int) := of_decide_eq_true (by first | (with_reducible assumption) | assumption)
            have q144 : x5_1 < (l0.length : Int) := of_decide_eq_true (by first | (with_reducible assumption) | assumption)
            obtain ⟨ad144, e144, hx144_0⟩ := Kd.at_int HR0.out x5_1 p144 q144
            cases e144
            replace p144 := eq_true p144
            replace q144 := eq_true q144
            go_wp2
            go_ret
            exact ⟨by first | rfl | (simp; done) | (simp [*]; done), by repeat (first | exact Drawn0.refl _ | apply Drawn0.step)⟩
          · rw [if_neg c5] at H
            have c5b0 : ((rd l0 x5_1) == 10) = false := beq_eq_false_iff_ne.mpr c5
            have c5b1 : ((rd l0 x5_1) != 10) = true := bne_iff_ne.mpr c5
            by_cases c6 : (rd l0 x5_1) = 13
            · rw [if_pos c6] at H
              have c6b0 : ((rd l0 x5_1) == 13) = true := beq_iff_eq.mpr c6
              have c6b1 : ((rd l0 x5_1) != 13) = false := bne_eq_false_iff_eq.mpr c6
              clear c6
              obtain rfl := Option.some.inj H
              have p144 : 0 ≤ (x5_1 : Int) := of_decide_eq_true (by first | (with_reducible assumption) | assumption)
              have q144 : x5_1 < (l0.length : Int) := of_decide_eq_true (by first | (with_reducible assumption) | assumption)
              obtain ⟨ad144, e144, hx144_0⟩ := Kd.at_int HR0.out x5_1 p144 q144
              cases e144
              replace p144 := eq_true p144
              replace q144 := eq_true q144
              have p145 : 0 ≤ (x5_1 : Int) := of_decide_eq_true (by first | (with_reducible assumption) | assumption)
              have q145 : x5_1 < (l0.length : Int) := of_decide_eq_true (by first | (with_reducible assumption) | assumption)
              obtain ⟨ad145, e145, hx145_0⟩ := Kd.at_int HR0.out x5_1 p145 q145
              obtain rfl : ad144 = ad145 := (by injection e145)
              replace p145 := eq_true p145
              replace q145 := eq_true q145
              go_wp2
              go_ret
              exact ⟨by first | rfl | (simp; done) | (simp [*]; done), by repeat (first | exact Drawn0.refl _ | apply Drawn0.step)⟩
            · rw [if_neg c6] at H
              have c6b0 : ((rd l0 x5_1) == 13) = false := beq_eq_false_iff_ne.mpr c6
              have c6b1 : ((rd l0 x5_1) != 13) = true := bne_iff_ne.mpr c6
              have H' := Aside0.mk H
              clear H
              have p144 : 0 ≤ (x5_1 : Int) := of_decide_eq_true (by first | (with_reducible assumption) | assumption)
              have q144 : x5_1 < (l0.length : Int) := of_decide_eq_true (by first | (with_reducible assumption) | assumption)
              obtain ⟨ad144, e144, hx144_0⟩ := Kd.at_int HR0.out x5_1 p144 q144
              cases e144
              replace p144 := eq_true p144
              replace q144 := eq_true q144
              have p145 : 0 ≤ (x5_1 : Int) := of_decide_eq_true (by first | (with_reducible assumption) | assumption)
              have q145 : x5_1 < (l0.length : Int) := of_decide_eq_true (by first | (with_reducible assumption) | assumption)
              obtain ⟨ad145, e145, hx145_0⟩ := Kd.at_int HR0.out x5_1 p145 q145
              obtain rfl : ad144 = ad145 := (by injection e145)
              replace p145 := eq_true p145
              replace q145 := eq_true q145
              go_wp2
              go_roundg k1
              case measure => have := HK1.out; omega
              case rel => exact ⟨(wrap64 (x5_1 + 1)), (by first | rfl | (simp; done) | (simp [*]; done)), H', ⟨by have := HK1.out; omega⟩, by repeat (first | exact Drawn0.refl _ | apply Drawn0.step)⟩
        · rw [if_neg c4] at H
          exact absurd H (by simp)
      · rw [if_neg c3] at H
        have c3b0 : decide (x5_1 < (l0.length : Int)) = false := decide_eq_false c3
        clear c3
        obtain rfl := Option.some.inj H
        go_wp2
        go_ret
        exact ⟨by first | rfl | (simp; done) | (simp [*]; done), by repeat (first | exact Drawn0.refl _ | apply Drawn0.step)⟩

/-! ### utf_Place: function 21 -/
attribute [local go_sem] Oper.semAt_some
/-- The line of a byte: the last one that begins no later. -/
def utf_Place.line : Nat → List Int → Int → Int → Option Int
  | 0, _, _, _ => none
  | k + 1, l, a, i => if i + 1 < (l.length : Int) then (if rd l (i + 1) ≤ a then utf_Place.line k l a (i + 1) else some i) else some i
theorem utf_Encode.one (r : Int) : utf_Encode.f 1 r = some ((utf_Encode.f 1 r).getD ([], 0)) := by
  have hj : ∀ b, ∃ p, utf_Encode.j0 1 r b = some p := by
    intro b
    rw [utf_Encode.j0.eq_2]
    repeat' split
    all_goals exact ⟨_, rfl⟩
  have h : ∃ p, utf_Encode.f 1 r = some p := by
    unfold utf_Encode.f
    repeat' split
    all_goals exact hj _
  obtain ⟨p, h⟩ := h
  rw [h]; rfl
def utf_Place.size (r : Int) : Int := if r ≥ 0 then (((utf_Encode.f 1 r).getD ([], 0)).1.length : Int) else 1
def utf_Place.go (lo hi : Int) : List (Int × Int) → Int → Int
  | [], n => n
  | x :: t, n => if wrap64 (wrap64 (lo + x.1) + utf_Place.size x.2) > hi then n else utf_Place.go lo hi t (wrap64 (n + utf_Units.u x.2))
def utf_Place.at' (b : List Int) (a2 : Int) : Int := min (max a2 0) (b.length : Int)
def utf_Place.lo (b l : List Int) (ln : Int) : Int := min (max (rd l ln) 0) (b.length : Int)
def utf_Place.f (k : Nat) (l0 l1 : List Int) (a2 : Int) : Option (Int × Int) :=
  if l0.length ≤ 4611686018427387904 ∧ l1.length ≤ 4611686018427387904 then ((utf_Place.line k l1 (utf_Place.at' l0 a2) 0).bind fun ln => (if l1.length = 0 then some (0, 0) else (if 0 ≤ ln ∧ ln < (l1.length : Int) then ((utf_end.f k l0 (utf_Place.lo l0 l1 ln)).bind fun e => ((utf_Letters.l k (l0.drop (utf_Place.lo l0 l1 ln).toNat) 0).bind fun items => some (ln, utf_Place.go (utf_Place.lo l0 l1 ln) (min (utf_Place.at' l0 a2) e) items 0))) else none))) else none
theorem utf_Place.mono_l : ∀ k l a i, LeO (utf_Place.line k l a i) (utf_Place.line (k + 1) l a i)
  | 0, _, _, _ => fun r h => by simp [utf_Place.line] at h
  | k + 1, l, a, i => by
    have ih := utf_Place.mono_l k
    unfold utf_Place.line
    exact LeO.ite (LeO.ite (ih _ _ _) (LeO.refl _)) (LeO.refl _)
theorem utf_Place.mono : ∀ a0 a1 a2 k, LeO (utf_Place.f k a0 a1 a2) (utf_Place.f (k + 1) a0 a1 a2) := by
  intro a0 a1 a2 k
  unfold utf_Place.f
  exact LeO.ite (LeO.bind (utf_Place.mono_l _ _ _ _) (fun _ => LeO.ite (LeO.refl _) (LeO.ite (LeO.bind (utf_end.mono _ _ _) (fun _ => LeO.bind (utf_Letters.mono _ _ _) (fun _ => LeO.refl _))) (LeO.refl _)))) (LeO.refl _)
set_option maxHeartbeats 8000000 in
set_option maxRecDepth 100000 in
theorem utf_Place.calls (k : Nat) (A0 : Option Addr) (c0 : Nat) (l0 : List Int) (A1 : Option Addr) (c1 : Nat) (l1 : List Int) (a2 : Int) (r1 r2 : Int) (w : World) (hr0 : Kd.C (Kd.int .u8) w A0 l0.length l0) (hc0 : l0.length ≤ c0) (hr1 : Kd.C (Kd.int .i64) w A1 l1.length l1) (hc1 : l1.length ≤ c1) (h : utf_Place.f k l0 l1 a2 = some (r1, r2)) :
    Calls Try.prog 21 #[.slice A0 l0.length c0, .slice A1 l1.length c1, .int .i64 a2] w fun e w' => e = .returned (.agg #[.int .i64 r1, .int .i64 r2]) ∧ Below w.heap.size w w' := by
  unfold utf_Place.f at h
  by_cases hlen : l0.length ≤ 4611686018427387904 ∧ l1.length ≤ 4611686018427387904
  rotate_left
  · rw [if_neg hlen] at h
    exact absurd h (by simp)
  rw [if_pos hlen] at h
  obtain ⟨ln, hln, h⟩ := Option.bind_eq_some_iff.mp h
  refine (callsIn_wide (n := 4)).1 ?_
  refine callsIn_of_wp_marks Try.func21 rfl trivial ?_ rfl
  simp only [Try.ntmps21, List.size_toArray, List.length_cons, List.length_nil, Nat.reduceAdd, Nat.reduceSub, Array.replicate_succ, Array.replicate_zero, List.push_toArray, List.append_toArray, List.nil_append, List.cons_append]
  have hb1 : Below w.heap.size w (w.alloc (.cells #[.int .i64 0, .int .i64 0] 49)) := (Below.refl _ w).alloc (Nat.le_refl _) _
  have hC1 := Kd.C_below hr1 hb1
  gi_wp2
  rename_i K0 hK0
  have rest : ∀ (u21 u22 u23 u24 u25 u26 u27 u28 u29 u30 u31 u32 u33 u34 u35 u36 : Value), K0 { tmps := #[.slice A0 l0.length c0, .slice A1 l1.length c1, .int .i64 (min (max a2 0) (l0.length : Int)), undef, undef, undef, .pointer (some ⟨w.heap.size, 0, none⟩), .int .i64 ln, undef, undef, undef, undef, undef, undef, undef, undef, .int .i64 a2, .int .i64 (max a2 0), .slice A0 l0.length c0, .int .i64 l0.length, .int .i64 (min (max a2 0) (l0.length : Int)), u21, u22, u23, u24, u25, u26, u27, u28, u29, u30, u31, u32, u33, u34, u35, u36, undef, undef, undef, undef, undef, undef, undef, undef, undef, undef, undef, undef, undef, undef, undef, undef, undef, undef, undef, undef, undef, undef, undef, undef, undef, undef, undef, undef, undef, undef, undef, undef, undef, undef, undef, undef, undef, undef, undef, undef, undef, undef, undef, undef, undef, undef], defers := [] } (w.alloc (.cells #[.int .i64 0, .int .i64 0] 49)) := by
    intro u21 u22 u23 u24 u25 u26 u27 u28 u29 u30 u31 u32 u33 u34 u35 u36
    refine hK0 _ _ ?_
    dsimp only
    by_cases hz : l1.length = 0
    · rw [if_pos hz] at h
      obtain ⟨rfl, rfl⟩ := Prod.mk.inj (Option.some.inj h)
      have hzd : decide ((l1.length : Int) = 0) = true := decide_eq_true (by omega)
      have hze : (l1.length : Int) = 0 := by omega
      gi_wp2
      exact ⟨.agg #[.int .i64 0, .int .i64 0], by simp [results, Try.f21, go_sem], rfl, hb1⟩
    rw [if_neg hz] at h
    have hzd : decide ((l1.length : Int) = 0) = false := decide_eq_false (by omega)
    have hze : ¬ (l1.length : Int) = 0 := by omega
    by_cases h3 : 0 ≤ ln ∧ ln < (l1.length : Int)
    rotate_left
    · rw [if_neg h3] at h
      exact absurd h (by simp)
    rw [if_pos h3] at h
    obtain ⟨en, hend, h⟩ := Option.bind_eq_some_iff.mp h
    obtain ⟨items, hitems, h⟩ := Option.bind_eq_some_iff.mp h
    obtain ⟨rfl, rfl⟩ := Prod.mk.inj (Option.some.inj h)
    clear h
    obtain ⟨ad1, e1, hx1⟩ := Kd.at_int hC1 ln h3.1 h3.2
    cases e1
    have hlo : 0 ≤ utf_Place.lo l0 l1 ln ∧ utf_Place.lo l0 l1 ln ≤ (l0.length : Int) := by unfold utf_Place.lo; omega
    gi_wp2
    refine ⟨trivial, ?_⟩
    rw [show min (max (rd l1 ln) 0) (l0.length : Int) = utf_Place.lo l0 l1 ln from rfl]
    generalize hlod : utf_Place.lo l0 l1 ln = lo at *
    have hb2 : Below w.heap.size w ((w.alloc (.cells #[.int .i64 0, .int .i64 0] 49)).alloc (.cells #[.int .i64 lo] 3)) := hb1.alloc (by simp) _
    refine (callsIn_wide.2 (utf_end.calls k A0 c0 l0 lo en _ (Kd.C_below hr0 hb2) hc0 hend)).mono ?_
    rintro e w5 ⟨rfl, ⟨nd, rfl⟩⟩
    obtain ⟨i0, hi0, _, hsz0, _⟩ := info_parts info5
    obtain ⟨A2, hcut, hA2, hC2⟩ := print_drop_of (P := Try.prog) (Value.int .u8) 0 22 5 .i64 Try.underlying22 hi0 hsz0 A0 c0 l0 lo hlo.1 hlo.2 hc0
    gi_wp2
    have hhi : min (utf_Place.at' l0 a2) en = min (max a2 0) (min (l0.length : Int) en) := by unfold utf_Place.at'; omega
    generalize min (max a2 0) (min (l0.length : Int) en) = hi at *
    have hzl : (l0.drop lo.toNat).length = l0.length - lo.toNat := List.length_drop
    have hCz := Kd.C_of_reads (h1 := fun _ => rfl) (hA2 _ (Kd.reads_of_C hr0))
    rw [← hzl]
    have hzlen : (l0.drop lo.toNat).length ≤ 4611686018427387904 := by rw [hzl]; omega
    generalize l0.drop lo.toNat = zs at *
    refine ⟨trivial, (utf_Letters_in Fence.wide _ trivial rfl _ _ _ _).mono ?_⟩
    rintro e w' ⟨rfl, rfl⟩
    have bP0 : ((w.alloc (.cells #[.int .i64 0, .int .i64 0] 49)).alloc (.cells #[.int .i64 lo] 3)).heap[w.heap.size]? = some (.cells #[.int .i64 0, .int .i64 0] 49) := by
      rw [(((Below.refl _ (w.alloc (.cells #[.int .i64 0, .int .i64 0] 49))).alloc (Nat.le_refl _) (.cells #[.int .i64 lo] 3)).block w.heap.size (by simp))]
      exact World.alloc_heap_new w _
    have bL0 := Boxed.new (w.alloc (.cells #[.int .i64 0, .int .i64 0] 49)) 3 (.int .i64 lo)
    rw [World.size_alloc] at bL0
    have bL := ((show Boxed (((w.alloc (.cells #[.int .i64 0, .int .i64 0] 49)).alloc (.cells #[.int .i64 lo] 3)).drewN nd) (w.heap.size + 1) 3 (.int .i64 lo) from bL0).alloc (.cells #[.int .i64 hi] 3)).alloc (.cells #[.int .i64 0] 3) |>.alloc (.cells #[.slice A2 zs.length (c0 - lo.toNat)] 22)
    have hb3 := pw_below_drewN hb2 nd
    have hs3 : (((w.alloc (.cells #[.int .i64 0, .int .i64 0] 49)).alloc (.cells #[.int .i64 lo] 3)).drewN nd).heap.size = w.heap.size + 1 + 1 := by simp
    have bP1 : (((w.alloc (.cells #[.int .i64 0, .int .i64 0] 49)).alloc (.cells #[.int .i64 lo] 3)).drewN nd).heap[w.heap.size]? = some (.cells #[.int .i64 0, .int .i64 0] 49) := bP0
    generalize ((w.alloc (.cells #[.int .i64 0, .int .i64 0] 49)).alloc (.cells #[.int .i64 lo] 3)).drewN nd = W5 at *
    have bH := ((Boxed.new W5 3 (.int .i64 hi)).alloc (.cells #[.int .i64 0] 3)).alloc (.cells #[.slice A2 zs.length (c0 - lo.toNat)] 22)
    have bN := (Boxed.new (W5.alloc (.cells #[.int .i64 hi] 3)) 3 (.int .i64 0)).alloc (.cells #[.slice A2 zs.length (c0 - lo.toNat)] 22)
    have bI := Boxed.new ((W5.alloc (.cells #[.int .i64 hi] 3)).alloc (.cells #[.int .i64 0] 3)) 22 (.slice A2 zs.length (c0 - lo.toNat))
    have hB6 : Below w.heap.size w (((W5.alloc (.cells #[.int .i64 hi] 3)).alloc (.cells #[.int .i64 0] 3)).alloc (.cells #[.slice A2 zs.length (c0 - lo.toNat)] 22)) := ((hb3.alloc (by omega) _).alloc (by simp; omega) _).alloc (by simp; omega) _
    have hB56 : Below W5.heap.size W5 (((W5.alloc (.cells #[.int .i64 hi] 3)).alloc (.cells #[.int .i64 0] 3)).alloc (.cells #[.slice A2 zs.length (c0 - lo.toNat)] 22)) := (((Below.refl _ W5).alloc (by omega) _).alloc (by simp) _).alloc (by simp; omega) _
    have bP := (hB56.block w.heap.size (by omega)).trans bP1
    have hV6 : Kd.V (Kd.int .u8) 5 (((W5.alloc (.cells #[.int .i64 hi] 3)).alloc (.cells #[.int .i64 0] 3)).alloc (.cells #[.slice A2 zs.length (c0 - lo.toNat)] 22)) 0 (fun q => q < w.heap.size) (.slice A2 zs.length (c0 - lo.toNat)) zs := Kd.V_below (Kd.V_mk hC2 (Kd.C_F (Kd.heap_int .u8) hCz)) hB6
    have hsz6 : (((W5.alloc (.cells #[.int .i64 hi] 3)).alloc (.cells #[.int .i64 0] 3)).alloc (.cells #[.slice A2 zs.length (c0 - lo.toNat)] 22)).heap.size = w.heap.size + 5 := by simp [hs3]
    simp only [World.size_alloc, hs3] at bI bH bN ⊢
    generalize ((W5.alloc (.cells #[.int .i64 hi] 3)).alloc (.cells #[.int .i64 0] 3)).alloc (.cells #[.slice A2 zs.length (c0 - lo.toNat)] 22) = W6 at *
    gi_wp2
    have hKr : ∀ A : World, utf_Letters.Kp W6.heap.size (w.heap.size + 1 + 1 + 1) A A := fun A => ⟨Nat.le_refl _, fun _ _ _ => rfl⟩
    refine wpIn_rangeFunc_ownG rfl (by omega) (gf := 27) (lb := #[.pointer (some ⟨w.heap.size + 1 + 1 + 1 + 1, 0, none⟩)]) rfl trivial (enters_of Try.func27 (by kernel_rfl) rfl)
      (utf_Letters_stops 3 (by omega) (w.heap.size + 1 + 1 + 1 + 1) (c0 - lo.toNat) A2 zs k items hitems hzlen hC2 (fun W => Kd.V (Kd.int .u8) 5 W 0 (fun q => q < w.heap.size) (.slice A2 zs.length (c0 - lo.toNat)) zs ∧ Boxed W (w.heap.size + 1 + 1 + 1 + 1) 22 (.slice A2 zs.length (c0 - lo.toNat))) (fun h => ⟨(Kd.V_reads' h.1).2.2, h.2.cell⟩) (fun h n => ⟨Kd.V_drewN h.1 n, h.2⟩) (utf_Letters.Kp W6.heap.size (w.heap.size + 1 + 1 + 1))
        (fun h hR => ⟨Kd.V_step hR.1 (fun q hq _ => h.2 q (by omega) (by omega)), (h.2 (w.heap.size + 1 + 1 + 1 + 1) (by omega) (by omega)).trans hR.2⟩) W6 (fun hb => ⟨Kd.V_below hV6 hb, (hb.block (w.heap.size + 1 + 1 + 1 + 1) (by omega)).trans bI⟩))
      (fun h h' => h.trans h') (fun W l o o' hl ho hc hw => utf_Letters.Kp.putObj hl ho hc) (Below.refl _ _) (fun _ => rfl)
      (fun pre W => (Boxed W (w.heap.size + 1 + 1 + 1) 3 (.int .i64 (utf_Units.fold pre)) ∧ ∀ rest, utf_Place.go lo hi (pre ++ rest) 0 = utf_Place.go lo hi rest (utf_Units.fold pre)) ∧ utf_Letters.Kp W6.heap.size (w.heap.size + 1 + 1 + 1) W6 W ∧ Below w.heap.size w W)
      (fun c pre W => (c = .exit 2 ∧ ∃ v, (∀ rest, utf_Place.go lo hi (pre ++ rest) 0 = v) ∧ W.cell? ⟨w.heap.size + 1 + 1 + 1, 0, none⟩ = some (.int .i64 v)) ∧ utf_Letters.Kp W6.heap.size (w.heap.size + 1 + 1 + 1) W6 W ∧ Below w.heap.size w W)
      (OwnFrom.and (fun s A B row hs hg hr => ⟨utf_Letters.moved hs.1 hg (fun r e => (hr r e).2), hs.2⟩) (OwnFrom.and utf_Letters.Kp.own (ownFrom_below (Nat.le_refl _) (by omega))))
      (fun c => OwnFrom.and (Own.from (fun s A B row hs hg hr => by obtain ⟨hc, v, e1, e2⟩ := hs; exact ⟨hc, v, e1, cell_kept e2 hg hr⟩) _) (OwnFrom.and utf_Letters.Kp.own (ownFrom_below (Nat.le_refl _) (by omega))))
      ⟨⟨bN, fun rest => rfl⟩, hKr _, hB6⟩
      (fun x => { tmps := #[.slice A0 l0.length c0, .slice (some ad1) l1.length c1, .int .i64 (min (max a2 0) (l0.length : Int)), undef, undef, undef, .pointer (some ⟨w.heap.size, 0, none⟩), .int .i64 ln, .pointer (some ⟨w.heap.size + 1, 0, none⟩), .pointer (some ⟨w.heap.size + 1 + 1, 0, none⟩), .pointer (some ⟨w.heap.size + 1 + 1 + 1, 0, none⟩), .int .i64 x.1, .int .i32 x.2, undef, undef, undef, .int .i64 a2, .int .i64 (max a2 0), .slice A0 l0.length c0, .int .i64 l0.length, .int .i64 (min (max a2 0) (l0.length : Int)), u21, u22, u23, u24, u25, u26, u27, u28, u29, u30, u31, u32, u33, u34, u35, u36, .slice (some ad1) l1.length c1, .int .i64 l1.length, .bool false, undef, .slice (some ad1) l1.length c1, .int .i64 ln, .pointer (some (ad1.add ln.toNat)), .int .i64 (rd l1 ln), .int .i64 (max (rd l1 ln) 0), .slice A0 l0.length c0, .int .i64 l0.length, .int .i64 lo, .int .i64 (min (max a2 0) (l0.length : Int)), .slice A0 l0.length c0, .int .i64 lo, .int .i64 en, .int .i64 hi, .slice A0 l0.length c0, .int .i64 lo, .slice A2 (l0.length - lo.toNat) (c0 - lo.toNat), .func (.func 27) #[] #[.pointer (some ⟨w.heap.size + 1 + 1 + 1 + 1, 0, none⟩)], .int .i64 x.1, .int .i32 x.2, undef, undef, undef, undef, undef, undef, undef, undef, undef, undef, undef, undef, undef, undef, undef, undef, undef, undef, undef, undef, undef, undef, undef], defers := [] }) ?assign ?body ?done ?stop
    case assign =>
      intro l x W K hK
      gi_wp2
      exact hK
    case body =>
      rintro l pre x W ⟨⟨hb, hgo⟩, hKp, hBw⟩ _
      have hu : utf_units.f x.2 = some (utf_Units.u x.2) := by unfold utf_units.f utf_Units.u; split <;> rfl
      have bL2 : Boxed W (w.heap.size + 1) 3 (.int .i64 lo) := (hKp.2 (w.heap.size + 1) (by omega) (by omega)).trans bL
      have bH2 : Boxed W (w.heap.size + 1 + 1) 3 (.int .i64 hi) := (hKp.2 (w.heap.size + 1 + 1) (by omega) (by omega)).trans bH
      by_cases hr : x.2 ≥ 0
      · have hrd : decide (0 ≤ x.2) = true := decide_eq_true hr
        obtain ⟨⟨eb, ee⟩, hp⟩ : ∃ p, utf_Encode.f 1 x.2 = some p := ⟨_, utf_Encode.one x.2⟩
        have hsz : utf_Place.size x.2 = (eb.length : Int) := by unfold utf_Place.size; rw [if_pos hr, hp]; rfl
        gi_wp2
        refine ⟨trivial, (callsIn_wide.2 (utf_Encode.calls 1 x.2 eb ee _ hp)).mono ?_⟩
        rintro e9 w9 ⟨v9, rfl, ho9, hb9⟩
        obtain ⟨A9, c9, rfl⟩ := Kd.R_slice ho9
        have hkc : KeepsOthers W w9 := ⟨hb9.size, fun k o hk _ => (hb9.block k (Array.getElem?_eq_some_iff.1 hk).1).trans hk⟩
        have hKc : utf_Letters.Kp W6.heap.size (w.heap.size + 1 + 1 + 1) W w9 := ⟨hb9.size, fun j h1 _ => hb9.block j (Nat.lt_of_lt_of_le h1 hKp.1)⟩
        have hBc : Below w.heap.size w w9 := hBw.trans (hb9.mono hBw.size)
        have hbn : Boxed w9 (w.heap.size + 1 + 1 + 1) 3 (.int .i64 (utf_Units.fold pre)) := (hb9.block _ hb.lt).trans hb
        have hbl : Boxed w9 (w.heap.size + 1) 3 (.int .i64 lo) := (hb9.block _ bL2.lt).trans bL2
        have hbh : Boxed w9 (w.heap.size + 1 + 1) 3 (.int .i64 hi) := (hb9.block _ bH2.lt).trans bH2
        have hbc := hbn.cell
        have hlc := hbl.cell
        have hhc := hbh.cell
        clear ho9 hb9
        by_cases hgt : wrap64 (wrap64 (lo + x.1) + (eb.length : Int)) > hi
        · have hgd : decide (hi < wrap64 (wrap64 (lo + x.1) + (eb.length : Int))) = true := decide_eq_true hgt
          gi_wp2
          exact ⟨hkc.from _, ⟨rfl, utf_Units.fold pre, fun rest => by rw [List.append_assoc, hgo, List.singleton_append, utf_Place.go, hsz, if_pos hgt], hbc⟩, (by first | exact hKp.trans hKc | (rw [← hsz6]; exact hKp.trans hKc)), hBc⟩
        · have hgd : decide (hi < wrap64 (wrap64 (lo + x.1) + (eb.length : Int))) = false := decide_eq_false hgt
          gi_wp2
          refine Code.wpIn_mono (Q := utf_Letters.endsIn (fun W' => ∃ W2, Drawn0 w9 W2 ∧ W' = W2.setCell ⟨w.heap.size + 1 + 1 + 1, 0, none⟩ (.int .i64 (utf_Units.fold (pre ++ [x]))))) ?_ ?_
          · intro e a W5' h5
            cases e with
            | normal =>
              obtain ⟨W2, ⟨m2, rfl⟩, rfl⟩ := h5
              have hk2 := (utf_Letters.keepsN w9 m2).trans (KeepsOthers.setCell _ ⟨w.heap.size + 1 + 1 + 1, 0, none⟩ (.int .i64 (utf_Units.fold (pre ++ [x]))))
              have hp2 : utf_Letters.Kp W6.heap.size (w.heap.size + 1 + 1 + 1) w9 ((w9.drewN m2).setCell ⟨w.heap.size + 1 + 1 + 1, 0, none⟩ (.int .i64 (utf_Units.fold (pre ++ [x])))) := ⟨hk2.size, fun j h1 h2 => Below.heap_setCell _ _ _ _ (by exact h2)⟩
              refine ⟨(hkc.trans hk2).from _, hKc.trans hp2, ⟨(show Boxed (w9.drewN m2) (w.heap.size + 1 + 1 + 1) 3 (.int .i64 (utf_Units.fold pre)) from hbn).set _, fun rest => ?_⟩, (hKp.trans hKc).trans hp2, (pw_below_drewN hBc m2).setCell (p := ⟨w.heap.size + 1 + 1 + 1, 0, none⟩) (by show w.heap.size ≤ w.heap.size + 1 + 1 + 1; omega) _⟩
              rw [List.append_assoc, hgo, List.singleton_append, utf_Place.go, hsz, if_neg (by omega), utf_Units.fold_snoc]
            | _ => exact h5.elim
          · clear hr0 hc0 hlen hend hitems hzlen hzl hCz hA2 hC2 hcut bL hb3 hs3 bH bN bI bP bP0 bP1 bL0 hB6 hB56 hV6 hsz6 hKr hKp hBw hgo hr1 hc1 hb1 hx1 hC1 hb hkc hKc hBc hbl hbh hlc hhc hsz
            rw [utf_Units.fold_snoc]
            have hbc := hbn.cell
            have hbf := hbn.frozen
            clear hbn
            generalize utf_Units.fold pre = s0 at *
            generalize w9 = Wm at *
            refine wpIn_region_any (by kernel_rfl) ?_
            change wpAnyIn _ _ _ _ _ _ _ _ _ (World.drew _)
            have hD1 : Drawn0 Wm Wm.drew := ⟨⟨1, rfl⟩⟩
            have hbc1 : Wm.drew.cell? ⟨w.heap.size + 1 + 1 + 1, 0, none⟩ = some (.int .i64 s0) := hbc
            have hbf1 : Wm.drew.frozen? ⟨w.heap.size + 1 + 1 + 1, 0, none⟩ = false := hbf
            clear hbc hbf
            generalize Wm.drew = W1 at *
            refine utf_Letters.round (by kernel_rfl) ?_
            refine wpAnyIn_take (i := 1) (v := .int .i32 x.2) rfl rfl (by kernel_rfl) (by kernel_rfl) (by kernel_rfl) (fun _ _ _ h => h) ⟨Or.inl ⟨by rfl, fun w => by go_simp⟩, fun _ => rfl⟩ ?_
            try simp only [Act.put, List.setIfInBounds_toArray, List.set_cons_zero, List.set_cons_succ]
            refine wpAnyIn_ready (rs := [0, 2]) (by kernel_rfl) (by simp) ?_
            refine AllReadyIn.cons rfl (fun K hK => ?_) ?_
            · go_simp
              refine hK _ _ ?_
              clear hK K
              refine wpAnyIn_ready (rs := [2]) (by kernel_rfl) (by simp) ?_
              refine AllReadyIn.cons rfl (fun K hK => ?_) AllReadyIn.nil
              go_simp
              refine ⟨trivial, (callsIn_wide.2 (utf_units.calls x.2 _ W1 hu)).mono ?_⟩
              rintro e w9 ⟨rfl, ⟨nd, rfl⟩⟩
              refine hK _ _ ?_
              clear hK K
              have hD2 := hD1.step nd
              have hbc2 : (W1.drewN nd).cell? ⟨w.heap.size + 1 + 1 + 1, 0, none⟩ = some (.int .i64 s0) := hbc1
              have hbf2 : (W1.drewN nd).frozen? ⟨w.heap.size + 1 + 1 + 1, 0, none⟩ = false := hbf1
              clear hbc1 hbf1
              generalize W1.drewN nd = W2 at *
              refine wpAnyIn_ready (rs := [3]) (by kernel_rfl) (by simp) ?_
              refine AllReadyIn.cons rfl (fun K hK => ?_) AllReadyIn.nil
              go_simp
              refine hK _ _ ?_
              clear hK K
              refine wpAnyIn_ready (rs := [4]) (by kernel_rfl) (by simp) ?_
              refine AllReadyIn.cons rfl (fun K hK => ?_) AllReadyIn.nil
              go_simp
              refine hK _ _ ?_
              clear hK K
              refine wpAnyIn_done (by kernel_rfl) ?_ _
              exact ⟨W2, hD2, by rw [i64_w]⟩
            refine AllReadyIn.cons rfl (fun K hK => ?_) AllReadyIn.nil
            go_simp
            refine ⟨trivial, (callsIn_wide.2 (utf_units.calls x.2 _ W1 hu)).mono ?_⟩
            rintro e w9 ⟨rfl, ⟨nd, rfl⟩⟩
            refine hK _ _ ?_
            clear hK K
            have hD2 := hD1.step nd
            have hbc2 : (W1.drewN nd).cell? ⟨w.heap.size + 1 + 1 + 1, 0, none⟩ = some (.int .i64 s0) := hbc1
            have hbf2 : (W1.drewN nd).frozen? ⟨w.heap.size + 1 + 1 + 1, 0, none⟩ = false := hbf1
            clear hbc1 hbf1
            generalize W1.drewN nd = W2 at *
            refine wpAnyIn_ready (rs := [0]) (by kernel_rfl) (by simp) ?_
            refine AllReadyIn.cons rfl (fun K hK => ?_) AllReadyIn.nil
            go_simp
            refine hK _ _ ?_
            clear hK K
            refine wpAnyIn_ready (rs := [3]) (by kernel_rfl) (by simp) ?_
            refine AllReadyIn.cons rfl (fun K hK => ?_) AllReadyIn.nil
            go_simp
            refine hK _ _ ?_
            clear hK K
            refine wpAnyIn_ready (rs := [4]) (by kernel_rfl) (by simp) ?_
            refine AllReadyIn.cons rfl (fun K hK => ?_) AllReadyIn.nil
            go_simp
            refine hK _ _ ?_
            clear hK K
            refine wpAnyIn_done (by kernel_rfl) ?_ _
            exact ⟨W2, hD2, by rw [i64_w]⟩
      · have hrd : decide (0 ≤ x.2) = false := decide_eq_false hr
        have hsz : utf_Place.size x.2 = 1 := by unfold utf_Place.size; rw [if_neg hr]
        have hkc : KeepsOthers W W := KeepsOthers.refl W
        have hKc : utf_Letters.Kp W6.heap.size (w.heap.size + 1 + 1 + 1) W W := hKr W
        have hBc := hBw
        have hbn := hb
        have hbl := bL2
        have hbh := bH2
        have hbc := hbn.cell
        have hlc := hbl.cell
        have hhc := hbh.cell
        by_cases hgt : wrap64 (wrap64 (lo + x.1) + 1) > hi
        · have hgd : decide (hi < wrap64 (wrap64 (lo + x.1) + 1)) = true := decide_eq_true hgt
          gi_wp2
          exact ⟨hkc.from _, ⟨rfl, utf_Units.fold pre, fun rest => by rw [List.append_assoc, hgo, List.singleton_append, utf_Place.go, hsz, if_pos hgt], hbc⟩, (by first | exact hKp.trans hKc | (rw [← hsz6]; exact hKp.trans hKc)), hBc⟩
        · have hgd : decide (hi < wrap64 (wrap64 (lo + x.1) + 1)) = false := decide_eq_false hgt
          gi_wp2
          refine Code.wpIn_mono (Q := utf_Letters.endsIn (fun W' => ∃ W2, Drawn0 W W2 ∧ W' = W2.setCell ⟨w.heap.size + 1 + 1 + 1, 0, none⟩ (.int .i64 (utf_Units.fold (pre ++ [x]))))) ?_ ?_
          · intro e a W5' h5
            cases e with
            | normal =>
              obtain ⟨W2, ⟨m2, rfl⟩, rfl⟩ := h5
              have hk2 := (utf_Letters.keepsN W m2).trans (KeepsOthers.setCell _ ⟨w.heap.size + 1 + 1 + 1, 0, none⟩ (.int .i64 (utf_Units.fold (pre ++ [x]))))
              have hp2 : utf_Letters.Kp W6.heap.size (w.heap.size + 1 + 1 + 1) W ((W.drewN m2).setCell ⟨w.heap.size + 1 + 1 + 1, 0, none⟩ (.int .i64 (utf_Units.fold (pre ++ [x])))) := ⟨hk2.size, fun j h1 h2 => Below.heap_setCell _ _ _ _ (by exact h2)⟩
              refine ⟨(hkc.trans hk2).from _, hKc.trans hp2, ⟨(show Boxed (W.drewN m2) (w.heap.size + 1 + 1 + 1) 3 (.int .i64 (utf_Units.fold pre)) from hbn).set _, fun rest => ?_⟩, (hKp.trans hKc).trans hp2, (pw_below_drewN hBc m2).setCell (p := ⟨w.heap.size + 1 + 1 + 1, 0, none⟩) (by show w.heap.size ≤ w.heap.size + 1 + 1 + 1; omega) _⟩
              rw [List.append_assoc, hgo, List.singleton_append, utf_Place.go, hsz, if_neg (by omega), utf_Units.fold_snoc]
            | _ => exact h5.elim
          · clear hr0 hc0 hlen hend hitems hzlen hzl hCz hA2 hC2 hcut bL hb3 hs3 bH bN bI bP bP0 bP1 bL0 hB6 hB56 hV6 hsz6 hKr hKp hBw hgo hr1 hc1 hb1 hx1 hC1 hb hkc hKc hBc hbl hbh hlc hhc hsz
            rw [utf_Units.fold_snoc]
            have hbc := hbn.cell
            have hbf := hbn.frozen
            clear hbn
            generalize utf_Units.fold pre = s0 at *
            generalize W = Wm at *
            refine wpIn_region_any (by kernel_rfl) ?_
            change wpAnyIn _ _ _ _ _ _ _ _ _ (World.drew _)
            have hD1 : Drawn0 Wm Wm.drew := ⟨⟨1, rfl⟩⟩
            have hbc1 : Wm.drew.cell? ⟨w.heap.size + 1 + 1 + 1, 0, none⟩ = some (.int .i64 s0) := hbc
            have hbf1 : Wm.drew.frozen? ⟨w.heap.size + 1 + 1 + 1, 0, none⟩ = false := hbf
            clear hbc hbf
            generalize Wm.drew = W1 at *
            refine utf_Letters.round (by kernel_rfl) ?_
            refine wpAnyIn_take (i := 1) (v := .int .i32 x.2) rfl rfl (by kernel_rfl) (by kernel_rfl) (by kernel_rfl) (fun _ _ _ h => h) ⟨Or.inl ⟨by rfl, fun w => by go_simp⟩, fun _ => rfl⟩ ?_
            try simp only [Act.put, List.setIfInBounds_toArray, List.set_cons_zero, List.set_cons_succ]
            refine wpAnyIn_ready (rs := [0, 2]) (by kernel_rfl) (by simp) ?_
            refine AllReadyIn.cons rfl (fun K hK => ?_) ?_
            · go_simp
              refine hK _ _ ?_
              clear hK K
              refine wpAnyIn_ready (rs := [2]) (by kernel_rfl) (by simp) ?_
              refine AllReadyIn.cons rfl (fun K hK => ?_) AllReadyIn.nil
              go_simp
              refine ⟨trivial, (callsIn_wide.2 (utf_units.calls x.2 _ W1 hu)).mono ?_⟩
              rintro e w9 ⟨rfl, ⟨nd, rfl⟩⟩
              refine hK _ _ ?_
              clear hK K
              have hD2 := hD1.step nd
              have hbc2 : (W1.drewN nd).cell? ⟨w.heap.size + 1 + 1 + 1, 0, none⟩ = some (.int .i64 s0) := hbc1
              have hbf2 : (W1.drewN nd).frozen? ⟨w.heap.size + 1 + 1 + 1, 0, none⟩ = false := hbf1
              clear hbc1 hbf1
              generalize W1.drewN nd = W2 at *
              refine wpAnyIn_ready (rs := [3]) (by kernel_rfl) (by simp) ?_
              refine AllReadyIn.cons rfl (fun K hK => ?_) AllReadyIn.nil
              go_simp
              refine hK _ _ ?_
              clear hK K
              refine wpAnyIn_ready (rs := [4]) (by kernel_rfl) (by simp) ?_
              refine AllReadyIn.cons rfl (fun K hK => ?_) AllReadyIn.nil
              go_simp
              refine hK _ _ ?_
              clear hK K
              refine wpAnyIn_done (by kernel_rfl) ?_ _
              exact ⟨W2, hD2, by rw [i64_w]⟩
            refine AllReadyIn.cons rfl (fun K hK => ?_) AllReadyIn.nil
            go_simp
            refine ⟨trivial, (callsIn_wide.2 (utf_units.calls x.2 _ W1 hu)).mono ?_⟩
            rintro e w9 ⟨rfl, ⟨nd, rfl⟩⟩
            refine hK _ _ ?_
            clear hK K
            have hD2 := hD1.step nd
            have hbc2 : (W1.drewN nd).cell? ⟨w.heap.size + 1 + 1 + 1, 0, none⟩ = some (.int .i64 s0) := hbc1
            have hbf2 : (W1.drewN nd).frozen? ⟨w.heap.size + 1 + 1 + 1, 0, none⟩ = false := hbf1
            clear hbc1 hbf1
            generalize W1.drewN nd = W2 at *
            refine wpAnyIn_ready (rs := [0]) (by kernel_rfl) (by simp) ?_
            refine AllReadyIn.cons rfl (fun K hK => ?_) AllReadyIn.nil
            go_simp
            refine hK _ _ ?_
            clear hK K
            refine wpAnyIn_ready (rs := [3]) (by kernel_rfl) (by simp) ?_
            refine AllReadyIn.cons rfl (fun K hK => ?_) AllReadyIn.nil
            go_simp
            refine hK _ _ ?_
            clear hK K
            refine wpAnyIn_ready (rs := [4]) (by kernel_rfl) (by simp) ?_
            refine AllReadyIn.cons rfl (fun K hK => ?_) AllReadyIn.nil
            go_simp
            refine hK _ _ ?_
            clear hK K
            refine wpAnyIn_done (by kernel_rfl) ?_ _
            exact ⟨W2, hD2, by rw [i64_w]⟩
    case done =>
      rintro D ys W hD rfl ⟨⟨hb, hgo⟩, hKp, hBw⟩ hK
      have bP2 := (hKp.2 w.heap.size (by omega) (by omega)).trans bP
      have hnc := hb.cell
      have hv : utf_Place.go lo hi ys 0 = utf_Units.fold ys := by
        have h := hgo []
        rw [List.append_nil] at h
        exact h
      have hp0 : W.cell? ⟨w.heap.size, 0, none⟩ = some (.int .i64 0) := by rw [cell_of_row W _ 0 _ _ _ bP2]; rfl
      have hq0 := blk_frozen bP2 0
      have hp1 : (W.setCell ⟨w.heap.size, 0, none⟩ (.int .i64 ln)).cell? ⟨w.heap.size, 1, none⟩ = some (.int .i64 0) := (World.cell?_setCell_other _ _ _ _ (show (⟨w.heap.size, 0, none⟩ : Addr) ≠ ⟨w.heap.size, 1, none⟩ by simp)).trans (by rw [cell_of_row W _ 1 _ _ _ bP2]; rfl)
      have hq1 : (W.setCell ⟨w.heap.size, 0, none⟩ (.int .i64 ln)).frozen? ⟨w.heap.size, 1, none⟩ = false := (World.frozen?_setCell _ _ _ _).trans (blk_frozen bP2 1)
      gi_wp2
      have hK' := ((KeepsOthers.setCell W ⟨w.heap.size, 0, none⟩ (.int .i64 ln)).trans (KeepsOthers.setCell _ ⟨w.heap.size, 1, none⟩ (.int .i64 (utf_Units.fold ys)))).same D _ hK rfl
      refine ⟨by simp, .inl ⟨_, _, rfl, run_takeDeferred hK', ?_⟩⟩
      have hc5 := cell_kept (show ((W.setCell ⟨w.heap.size, 0, none⟩ (.int .i64 ln)).setCell ⟨w.heap.size, 1, none⟩ (.int .i64 (utf_Units.fold ys))).cell? ⟨w.heap.size, 0, none⟩ = some (.int .i64 ln) from (World.cell?_setCell_other _ _ _ _ (show (⟨w.heap.size, 1, none⟩ : Addr) ≠ ⟨w.heap.size, 0, none⟩ by simp)).trans (World.cell?_setCell_same' _ _ _ (by rw [hp0]; rfl))) (grownBy_putObj' _ D (.deferred none)) (fun r e => by cases e; exact ⟨_, hK', rfl⟩)
      have hc6 := cell_kept (show ((W.setCell ⟨w.heap.size, 0, none⟩ (.int .i64 ln)).setCell ⟨w.heap.size, 1, none⟩ (.int .i64 (utf_Units.fold ys))).cell? ⟨w.heap.size, 1, none⟩ = some (.int .i64 (utf_Units.fold ys)) from World.cell?_setCell_same' _ _ _ (by rw [hp1]; rfl)) (grownBy_putObj' _ D (.deferred none)) (fun r e => by cases e; exact ⟨_, hK', rfl⟩)
      exact ⟨.agg #[.int .i64 ln, .int .i64 (utf_Units.fold ys)], by simp [results, Try.f21, go_sem, hc5, hc6], by rw [hlod, hhi, hv], ((hBw.setCell (p := ⟨w.heap.size, 0, none⟩) (Nat.le_refl _) _).setCell (p := ⟨w.heap.size, 1, none⟩) (Nat.le_refl _) _).trans (belowK_b (w := w) (Nat.le_refl _) _ D _ _ (by omega) hK' rfl rfl)⟩
    case stop =>
      rintro D c pre W hD ⟨k', hk', rfl⟩ ⟨⟨rfl, v, e1, e2⟩, hKp, hBw⟩ hK
      have bP2 := (hKp.2 w.heap.size (by omega) (by omega)).trans bP
      have hv : utf_Place.go lo hi items 0 = v := by
        have h := e1 (items.drop k')
        rwa [List.take_append_drop] at h
      have hp0 : W.cell? ⟨w.heap.size, 0, none⟩ = some (.int .i64 0) := by rw [cell_of_row W _ 0 _ _ _ bP2]; rfl
      have hq0 := blk_frozen bP2 0
      have hp1 : (W.setCell ⟨w.heap.size, 0, none⟩ (.int .i64 ln)).cell? ⟨w.heap.size, 1, none⟩ = some (.int .i64 0) := (World.cell?_setCell_other _ _ _ _ (show (⟨w.heap.size, 0, none⟩ : Addr) ≠ ⟨w.heap.size, 1, none⟩ by simp)).trans (by rw [cell_of_row W _ 1 _ _ _ bP2]; rfl)
      have hq1 : (W.setCell ⟨w.heap.size, 0, none⟩ (.int .i64 ln)).frozen? ⟨w.heap.size, 1, none⟩ = false := (World.frozen?_setCell _ _ _ _).trans (blk_frozen bP2 1)
      gi_wp2
      have hK' := ((KeepsOthers.setCell W ⟨w.heap.size, 0, none⟩ (.int .i64 ln)).trans (KeepsOthers.setCell _ ⟨w.heap.size, 1, none⟩ (.int .i64 v))).same D _ hK rfl
      refine ⟨by simp, .inl ⟨_, _, rfl, run_takeDeferred hK', ?_⟩⟩
      have hc5 := cell_kept (show ((W.setCell ⟨w.heap.size, 0, none⟩ (.int .i64 ln)).setCell ⟨w.heap.size, 1, none⟩ (.int .i64 v)).cell? ⟨w.heap.size, 0, none⟩ = some (.int .i64 ln) from (World.cell?_setCell_other _ _ _ _ (show (⟨w.heap.size, 1, none⟩ : Addr) ≠ ⟨w.heap.size, 0, none⟩ by simp)).trans (World.cell?_setCell_same' _ _ _ (by rw [hp0]; rfl))) (grownBy_putObj' _ D (.deferred none)) (fun r e => by cases e; exact ⟨_, hK', rfl⟩)
      have hc6 := cell_kept (show ((W.setCell ⟨w.heap.size, 0, none⟩ (.int .i64 ln)).setCell ⟨w.heap.size, 1, none⟩ (.int .i64 v)).cell? ⟨w.heap.size, 1, none⟩ = some (.int .i64 v) from World.cell?_setCell_same' _ _ _ (by rw [hp1]; rfl)) (grownBy_putObj' _ D (.deferred none)) (fun r e => by cases e; exact ⟨_, hK', rfl⟩)
      exact ⟨.agg #[.int .i64 ln, .int .i64 v], by simp [results, Try.f21, go_sem, hc5, hc6], by rw [hlod, hhi, hv], ((hBw.setCell (p := ⟨w.heap.size, 0, none⟩) (Nat.le_refl _) _).setCell (p := ⟨w.heap.size, 1, none⟩) (Nat.le_refl _) _).trans (belowK_b (w := w) (Nat.le_refl _) _ D _ _ (by omega) hK' rfl rfl)⟩
  gi_loopw [7] (fun i wr => ∃ k' pos, utf_Place.line k' l1 (utf_Place.at' l0 a2) pos = some ln ∧ i = .int .i64 pos ∧ 0 ≤ pos ∧ pos ≤ l1.length ∧ wr = w.alloc (.cells #[.int .i64 0, .int .i64 0] 49)) (fun i _ => (l1.length + 1 - intOf i).toNat)
  case atStart => exact ⟨k, 0, hln, rfl, by omega, by omega, rfl⟩
  case round =>
    obtain ⟨k', pos, hl, rfl, hp0, hp1, rfl⟩ := hrel
    cases k' with
    | zero => simp [utf_Place.line] at hl
    | succ k' =>
      unfold utf_Place.line at hl
      have hw : wrap64 (pos + 1) = pos + 1 := by unfold wrap64; omega
      by_cases d1 : pos + 1 < (l1.length : Int)
      · rw [if_pos d1] at hl
        have d1d : decide (pos + 1 < (l1.length : Int)) = true := decide_eq_true d1
        obtain ⟨ad1, e1, hx1⟩ := Kd.at_int hC1 (pos + 1) (by omega) (by omega)
        cases e1
        by_cases d2 : rd l1 (pos + 1) ≤ utf_Place.at' l0 a2
        · rw [if_pos d2] at hl
          have d2d : decide (rd l1 (pos + 1) ≤ min (max a2 0) (l0.length : Int)) = true := decide_eq_true d2
          gi_wp2
          exact ⟨⟨k', pos + 1, hl, rfl, by omega, by omega, trivial⟩, by simp [intOf]; omega⟩
        · rw [if_neg d2] at hl
          have hl2 := Option.some.inj hl
          subst hl2
          have d2d : decide (rd l1 (pos + 1) ≤ min (max a2 0) (l0.length : Int)) = false := decide_eq_false d2
          gi_wp2
          exact rest _ _ _ _ _ _ _ _ _ _ _ _ _ _ _ _
      · rw [if_neg d1] at hl
        have hl2 := Option.some.inj hl
        subst hl2
        have d1d : decide (pos + 1 < (l1.length : Int)) = false := decide_eq_false d1
        gi_wp2
        exact rest _ _ _ _ _ _ _ _ _ _ _ _ _ _ _ _

/-! ### utf_Offset: function 22 -/
attribute [local go_sem] Oper.semAt_some
/-- The byte at which so many units are left: the letters of a line, one by one. -/
def utf_Offset.go (lo hi : Int) : List (Int × Int) → Int → Int
  | [], _ => hi
  | x :: t, left => if left < utf_Units.u x.2 then wrap64 (lo + x.1) else utf_Offset.go lo hi t (wrap64 (left - utf_Units.u x.2))
def utf_Offset.lo (b l : List Int) (f0 : Int) : Int := min (max (rd l f0) 0) (b.length : Int)
def utf_Offset.f (k : Nat) (l0 l1 : List Int) (f0 f1 : Int) : Option Int :=
  if l0.length ≤ 4611686018427387904 then (if f0 < 0 then some 0 else (if (l1.length : Int) ≤ f0 then some (l0.length : Int) else ((utf_end.f k l0 (utf_Offset.lo l0 l1 f0)).bind fun hi => (if utf_Offset.lo l0 l1 f0 ≤ hi ∧ hi ≤ (l0.length : Int) then ((utf_Letters.l k ((l0.take hi.toNat).drop (utf_Offset.lo l0 l1 f0).toNat) 0).bind fun items => some (utf_Offset.go (utf_Offset.lo l0 l1 f0) hi items f1)) else none)))) else none
theorem utf_Offset.mono : ∀ a0 a1 a2 a3 k, LeO (utf_Offset.f k a0 a1 a2 a3) (utf_Offset.f (k + 1) a0 a1 a2 a3) := by
  intro a0 a1 a2 a3 k
  unfold utf_Offset.f
  exact LeO.ite (LeO.ite (LeO.refl _) (LeO.ite (LeO.refl _) (LeO.bind (utf_end.mono _ _ _) (fun _ => LeO.ite (LeO.bind (utf_Letters.mono _ _ _) (fun _ => LeO.refl _)) (LeO.refl _))))) (LeO.refl _)
def utf_Offset.left (f1 : Int) (pre : List (Int × Int)) : Int := pre.foldl (fun n x => wrap64 (n - utf_Units.u x.2)) f1
theorem utf_Offset.left_snoc (f1 : Int) (pre : List (Int × Int)) (x : Int × Int) : utf_Offset.left f1 (pre ++ [x]) = wrap64 (utf_Offset.left f1 pre - utf_Units.u x.2) := by simp [utf_Offset.left]
set_option maxHeartbeats 8000000 in
set_option maxRecDepth 100000 in
theorem utf_Offset.calls (k : Nat) (A0 : Option Addr) (c0 : Nat) (l0 : List Int) (A1 : Option Addr) (c1 : Nat) (l1 : List Int) (f0 f1 : Int) (r : Int) (w : World) (hr0 : Kd.C (Kd.int .u8) w A0 l0.length l0) (hc0 : l0.length ≤ c0) (hr1 : Kd.C (Kd.int .i64) w A1 l1.length l1) (hc1 : l1.length ≤ c1) (h : utf_Offset.f k l0 l1 f0 f1 = some r) :
    Calls Try.prog 22 #[.slice A0 l0.length c0, .slice A1 l1.length c1, .agg #[.int .i64 f0, .int .i64 f1]] w fun e w' => e = .returned (.int .i64 r) ∧ Below w.heap.size w w' := by
  unfold utf_Offset.f at h
  by_cases hlen : l0.length ≤ 4611686018427387904
  rotate_left
  · rw [if_neg hlen] at h
    exact absurd h (by simp)
  rw [if_pos hlen] at h
  refine (callsIn_wide (n := 4)).1 ?_
  refine callsIn_of_wp_marks Try.func22 rfl trivial ?_ rfl
  simp only [Try.ntmps22, List.size_toArray, List.length_cons, List.length_nil, Nat.reduceAdd, Nat.reduceSub, Array.replicate_succ, Array.replicate_zero, List.push_toArray, List.append_toArray, List.nil_append, List.cons_append]
  have hV0 : Kd.V (Kd.int .u8) 5 w 0 (fun q => q < w.heap.size) (.slice A0 l0.length c0) l0 := Kd.V_mk hc0 (Kd.C_F (Kd.heap_int .u8) hr0)
  have hV1 : Kd.V (Kd.int .i64) 3 w 0 (fun q => q < w.heap.size) (.slice A1 l1.length c1) l1 := Kd.V_mk hc1 (Kd.C_F (Kd.heap_int .i64) hr1)
  have hlen1 : l1.length ≤ 9223372036854775807 := hr1.2.1
  by_cases h1 : f0 < 0
  · rw [if_pos h1] at h
    cases h
    have h1d : decide (f0 < 0) = true := decide_eq_true h1
    gi_wp2
    exact ⟨.int .i64 0, by simp [results, Try.f22, go_sem], rfl, ((Below.refl _ w).alloc (Nat.le_refl _) _).alloc (by simp) _⟩
  rw [if_neg h1] at h
  have h1d : decide (f0 < 0) = false := decide_eq_false h1
  by_cases h2 : (l1.length : Int) ≤ f0
  · rw [if_pos h2] at h
    cases h
    have h2d : decide ((l1.length : Int) ≤ f0) = true := decide_eq_true h2
    gi_wp2
    exact ⟨.int .i64 l0.length, by simp [results, Try.f22, go_sem], rfl, ((Below.refl _ w).alloc (Nat.le_refl _) _).alloc (by simp) _⟩
  rw [if_neg h2] at h
  have h2d : decide ((l1.length : Int) ≤ f0) = false := decide_eq_false h2
  obtain ⟨hi, hend, h⟩ := Option.bind_eq_some_iff.mp h
  by_cases h3 : utf_Offset.lo l0 l1 f0 ≤ hi ∧ hi ≤ (l0.length : Int)
  rotate_left
  · rw [if_neg h3] at h
    exact absurd h (by simp)
  rw [if_pos h3] at h
  obtain ⟨items, hitems, h⟩ := Option.bind_eq_some_iff.mp h
  have hr := Option.some.inj h
  clear h
  subst hr
  obtain ⟨ad1, e1, hx1⟩ := Kd.at_int hr1 f0 (by omega) (by omega)
  cases e1
  have hb1 : Below w.heap.size w ((w.alloc (.cells #[.int .i64 f0, .int .i64 f1] 49)).alloc (.cells #[.int .i64 0] 3)) := ((Below.refl _ w).alloc (Nat.le_refl _) _).alloc (by simp) _
  obtain ⟨ad2, e2, hx2⟩ := Kd.at_int (Kd.C_below hr1 hb1) f0 (by omega) (by omega)
  cases e2
  have hlo : 0 ≤ utf_Offset.lo l0 l1 f0 ∧ utf_Offset.lo l0 l1 f0 ≤ (l0.length : Int) := by unfold utf_Offset.lo; omega
  gi_wp2
  refine ⟨trivial, ?_⟩
  rw [show min (max (rd l1 f0) 0) (l0.length : Int) = utf_Offset.lo l0 l1 f0 from rfl]
  generalize hlod : utf_Offset.lo l0 l1 f0 = lo at *
  have hb2 : Below w.heap.size w (((w.alloc (.cells #[.int .i64 f0, .int .i64 f1] 49)).alloc (.cells #[.int .i64 0] 3)).alloc (.cells #[.int .i64 lo] 3)) := hb1.alloc (by simp; omega) _
  refine (callsIn_wide.2 (utf_end.calls k A0 c0 l0 lo hi _ (Kd.C_below hr0 hb2) hc0 hend)).mono ?_
  rintro e w5 ⟨rfl, ⟨nd, rfl⟩⟩
  obtain ⟨i0, hi0, _, hsz0, _⟩ := info_parts info5
  obtain ⟨A2, hcut, hA2, hC2⟩ := print_mid_of (P := Try.prog) (Value.int .u8) 0 22 5 .i64 .i64 Try.underlying22 hi0 hsz0 A0 c0 l0 lo hi hlo.1 h3.1 h3.2 hc0
  have hd1 : decide (0 ≤ lo) = true := decide_eq_true hlo.1
  gi_wp2
  have hzl : ((l0.take hi.toNat).drop lo.toNat).length = hi.toNat - lo.toNat := by rw [List.length_drop, List.length_take, Nat.min_eq_left (by omega)]
  have hCz := Kd.C_of_reads (h1 := fun _ => rfl) (hA2 _ (Kd.reads_of_C hr0))
  rw [← hzl]
  have hzlen : ((l0.take hi.toNat).drop lo.toNat).length ≤ 4611686018427387904 := by rw [hzl]; omega
  generalize (l0.take hi.toNat).drop lo.toNat = zs at *
  refine ⟨trivial, (utf_Letters_in Fence.wide _ trivial rfl _ _ _ _).mono ?_⟩
  rintro e w' ⟨rfl, rfl⟩
  have bR := (((show Boxed ((((w.alloc (.cells #[.int .i64 f0, .int .i64 f1] 49)).alloc (.cells #[.int .i64 0] 3)).alloc (.cells #[.int .i64 lo] 3)).drewN nd) (w.heap.size + 1) 3 (.int .i64 0) from (by have h := (Boxed.new (w.alloc (.cells #[.int .i64 f0, .int .i64 f1] 49)) 3 (.int .i64 0)).alloc (.cells #[.int .i64 lo] 3); rw [World.size_alloc] at h; exact h)).alloc (.cells #[.int .i64 f1] 3)).alloc (.cells #[.slice A2 zs.length (c0 - lo.toNat)] 22))
  have bL := (((show Boxed ((((w.alloc (.cells #[.int .i64 f0, .int .i64 f1] 49)).alloc (.cells #[.int .i64 0] 3)).alloc (.cells #[.int .i64 lo] 3)).drewN nd) (w.heap.size + 1 + 1) 3 (.int .i64 lo) from (by have h := Boxed.new ((w.alloc (.cells #[.int .i64 f0, .int .i64 f1] 49)).alloc (.cells #[.int .i64 0] 3)) 3 (.int .i64 lo); rw [World.size_alloc, World.size_alloc] at h; exact h)).alloc (.cells #[.int .i64 f1] 3)).alloc (.cells #[.slice A2 zs.length (c0 - lo.toNat)] 22))
  have hb3 := pw_below_drewN hb2 nd
  have hs3 : ((((w.alloc (.cells #[.int .i64 f0, .int .i64 f1] 49)).alloc (.cells #[.int .i64 0] 3)).alloc (.cells #[.int .i64 lo] 3)).drewN nd).heap.size = w.heap.size + 1 + 1 + 1 := by simp
  generalize (((w.alloc (.cells #[.int .i64 f0, .int .i64 f1] 49)).alloc (.cells #[.int .i64 0] 3)).alloc (.cells #[.int .i64 lo] 3)).drewN nd = W5 at *
  have bF := (Boxed.new W5 3 (.int .i64 f1)).alloc (.cells #[.slice A2 zs.length (c0 - lo.toNat)] 22)
  have bI := Boxed.new (W5.alloc (.cells #[.int .i64 f1] 3)) 22 (.slice A2 zs.length (c0 - lo.toNat))
  have hB6 : Below w.heap.size w ((W5.alloc (.cells #[.int .i64 f1] 3)).alloc (.cells #[.slice A2 zs.length (c0 - lo.toNat)] 22)) := (hb3.alloc (by omega) _).alloc (by simp; omega) _
  have hV6 : Kd.V (Kd.int .u8) 5 ((W5.alloc (.cells #[.int .i64 f1] 3)).alloc (.cells #[.slice A2 zs.length (c0 - lo.toNat)] 22)) 0 (fun q => q < w.heap.size) (.slice A2 zs.length (c0 - lo.toNat)) zs := Kd.V_below (Kd.V_mk hC2 (Kd.C_F (Kd.heap_int .u8) hCz)) hB6
  have hsz6 : ((W5.alloc (.cells #[.int .i64 f1] 3)).alloc (.cells #[.slice A2 zs.length (c0 - lo.toNat)] 22)).heap.size = w.heap.size + 5 := by simp [hs3]
  simp only [World.size_alloc, hs3] at bI bF ⊢
  generalize (W5.alloc (.cells #[.int .i64 f1] 3)).alloc (.cells #[.slice A2 zs.length (c0 - lo.toNat)] 22) = W6 at *
  gi_wp2
  have hKr : ∀ A : World, utf_Letters.Kp W6.heap.size (w.heap.size + 1 + 1 + 1) A A := fun A => ⟨Nat.le_refl _, fun _ _ _ => rfl⟩
  refine wpIn_rangeFunc_ownG rfl (by omega) (gf := 27) (lb := #[.pointer (some ⟨w.heap.size + 1 + 1 + 1 + 1, 0, none⟩)]) rfl trivial (enters_of Try.func27 (by kernel_rfl) rfl)
    (utf_Letters_stops 3 (by omega) (w.heap.size + 1 + 1 + 1 + 1) (c0 - lo.toNat) A2 zs k items hitems hzlen hC2 (fun W => Kd.V (Kd.int .u8) 5 W 0 (fun q => q < w.heap.size) (.slice A2 zs.length (c0 - lo.toNat)) zs ∧ Boxed W (w.heap.size + 1 + 1 + 1 + 1) 22 (.slice A2 zs.length (c0 - lo.toNat))) (fun h => ⟨(Kd.V_reads' h.1).2.2, h.2.cell⟩) (fun h n => ⟨Kd.V_drewN h.1 n, h.2⟩) (utf_Letters.Kp W6.heap.size (w.heap.size + 1 + 1 + 1))
      (fun h hR => ⟨Kd.V_step hR.1 (fun q hq _ => h.2 q (by omega) (by omega)), (h.2 (w.heap.size + 1 + 1 + 1 + 1) (by omega) (by omega)).trans hR.2⟩) W6 (fun hb => ⟨Kd.V_below hV6 hb, (hb.block (w.heap.size + 1 + 1 + 1 + 1) (by omega)).trans bI⟩))
    (fun h h' => h.trans h') (fun W l o o' hl ho hc hw => utf_Letters.Kp.putObj hl ho hc) (Below.refl _ _) (fun _ => rfl)
    (fun pre W => (Boxed W (w.heap.size + 1 + 1 + 1) 3 (.int .i64 (utf_Offset.left f1 pre)) ∧ ∀ rest, utf_Offset.go lo hi (pre ++ rest) f1 = utf_Offset.go lo hi rest (utf_Offset.left f1 pre)) ∧ utf_Letters.Kp W6.heap.size (w.heap.size + 1 + 1 + 1) W6 W ∧ Below w.heap.size w W)
    (fun c pre W => (c = .ret ∧ ∃ v, (∀ rest, utf_Offset.go lo hi (pre ++ rest) f1 = v) ∧ W.cell? ⟨w.heap.size + 1, 0, none⟩ = some (.int .i64 v)) ∧ Below w.heap.size w W)
    (OwnFrom.and (fun s A B row hs hg hr => ⟨utf_Letters.moved hs.1 hg (fun r e => (hr r e).2), hs.2⟩) (OwnFrom.and utf_Letters.Kp.own (ownFrom_below (Nat.le_refl _) (by omega))))
    (fun c => OwnFrom.and (Own.from (fun s A B row hs hg hr => by obtain ⟨hc, v, e1, e2⟩ := hs; exact ⟨hc, v, e1, cell_kept e2 hg hr⟩) _) (ownFrom_below (Nat.le_refl _) (by omega)))
    ⟨⟨bF, fun rest => rfl⟩, hKr _, hB6⟩
    (fun x => { tmps := #[.slice A0 l0.length c0, .slice (some ad1) l1.length c1, .agg #[.int .i64 f0, .int .i64 f1], undef, undef, .pointer (some ⟨w.heap.size, 0, none⟩), .pointer (some ⟨w.heap.size + 1, 0, none⟩), .pointer (some ⟨w.heap.size + 1 + 1, 0, none⟩), .int .i64 hi, .pointer (some ⟨w.heap.size + 1 + 1 + 1, 0, none⟩), .int .i64 x.1, .int .i32 x.2, .bool false, .pointer (some ⟨w.heap.size, 0, none⟩), .int .i64 f0, .bool false, .bool false, .pointer (some ⟨w.heap.size, 0, none⟩), .int .i64 f0, .slice (some ad1) l1.length c1, .int .i64 l1.length, .bool false, undef, undef, .slice (some ad1) l1.length c1, .pointer (some ⟨w.heap.size, 0, none⟩), .int .i64 f0, .pointer (some (ad1.add f0.toNat)), .int .i64 (rd l1 f0), .int .i64 (max (rd l1 f0) 0), .slice A0 l0.length c0, .int .i64 l0.length, .int .i64 lo, .slice A0 l0.length c0, .int .i64 lo, .int .i64 hi, .pointer (some ⟨w.heap.size, 1, none⟩), .int .i64 f1, .slice A0 l0.length c0, .int .i64 lo, .int .i64 hi, .slice A2 (hi.toNat - lo.toNat) (c0 - lo.toNat), .func (.func 27) #[] #[.pointer (some ⟨w.heap.size + 1 + 1 + 1 + 1, 0, none⟩)], .int .i64 x.1, .int .i32 x.2, undef, undef, undef, undef, undef, undef, undef, undef, undef, undef, undef, undef], defers := [] }) ?assign ?body ?done ?stop
  case assign =>
    intro l x W K hK
    gi_wp2
    exact hK
  case body =>
    rintro l pre x W ⟨⟨hb, hgo⟩, hKp, hBw⟩ _
    have hbc := hb.cell
    have hbf := hb.frozen
    have hu : utf_units.f x.2 = some (utf_Units.u x.2) := by unfold utf_units.f utf_Units.u; split <;> rfl
    have bL2 : Boxed W (w.heap.size + 1 + 1) 3 (.int .i64 lo) := (hKp.2 (w.heap.size + 1 + 1) (by omega) (by omega)).trans bL
    have bR2 : Boxed W (w.heap.size + 1) 3 (.int .i64 0) := (hKp.2 (w.heap.size + 1) (by omega) (by omega)).trans bR
    gi_wp2
    rename_i K0 hK0
    refine Code.wpIn_mono (Q := utf_Letters.endsAt (fun a W' => a = { tmps := #[.slice A0 l0.length c0, .slice (some ad1) l1.length c1, .agg #[.int .i64 f0, .int .i64 f1], undef, undef, .pointer (some ⟨w.heap.size, 0, none⟩), .pointer (some ⟨w.heap.size + 1, 0, none⟩), .pointer (some ⟨w.heap.size + 1 + 1, 0, none⟩), .int .i64 hi, .pointer (some ⟨w.heap.size + 1 + 1 + 1, 0, none⟩), .int .i64 x.1, .int .i32 x.2, .bool false, .pointer (some ⟨w.heap.size, 0, none⟩), .int .i64 f0, .bool false, .bool false, .pointer (some ⟨w.heap.size, 0, none⟩), .int .i64 f0, .slice (some ad1) l1.length c1, .int .i64 l1.length, .bool false, undef, undef, .slice (some ad1) l1.length c1, .pointer (some ⟨w.heap.size, 0, none⟩), .int .i64 f0, .pointer (some (ad1.add f0.toNat)), .int .i64 (rd l1 f0), .int .i64 (max (rd l1 f0) 0), .slice A0 l0.length c0, .int .i64 l0.length, .int .i64 lo, .slice A0 l0.length c0, .int .i64 lo, .int .i64 hi, .pointer (some ⟨w.heap.size, 1, none⟩), .int .i64 f1, .slice A0 l0.length c0, .int .i64 lo, .int .i64 hi, .slice A2 (hi.toNat - lo.toNat) (c0 - lo.toNat), .func (.func 27) #[] #[.pointer (some ⟨w.heap.size + 1 + 1 + 1 + 1, 0, none⟩)], .int .i64 x.1, .int .i32 x.2, .int .i64 (utf_Offset.left f1 pre), .int .i32 x.2, .int .i64 (utf_Units.u x.2), .bool (decide ((utf_Offset.left f1 pre) < utf_Units.u x.2)), undef, undef, undef, undef, undef, undef, undef, undef], defers := [] } ∧ Drawn0 W W')) ?_ ?_
    · intro e a W5' h5
      cases e with
      | normal =>
        obtain ⟨rfl, ⟨m, rfl⟩⟩ := h5
        refine hK0 _ _ ?_
        dsimp only
        have hb' : Boxed (W.drewN m) (w.heap.size + 1 + 1 + 1) 3 (.int .i64 (utf_Offset.left f1 pre)) := hb
        have bL3 : Boxed (W.drewN m) (w.heap.size + 1 + 1) 3 (.int .i64 lo) := bL2
        have bR3 : Boxed (W.drewN m) (w.heap.size + 1) 3 (.int .i64 0) := bR2
        have hkm := utf_Letters.keepsN W m
        have hBm := pw_below_drewN hBw m
        have hbc := hb'.cell
        have hbf := hb'.frozen
        have hlc := bL3.cell
        have hrc := bR3.cell
        have hrf := bR3.frozen
        by_cases hlt : utf_Offset.left f1 pre < utf_Units.u x.2
        · have hld : decide (utf_Offset.left f1 pre < utf_Units.u x.2) = true := decide_eq_true hlt
          gi_wp2
          refine ⟨(hkm.trans (KeepsOthers.setCell _ _ _)).from _, ⟨rfl, wrap64 (lo + x.1), fun rest => ?_, ?_⟩, hBm.setCell (p := ⟨w.heap.size + 1, 0, none⟩) (Nat.le_succ _) _⟩
          · rw [List.append_assoc, hgo, List.singleton_append, utf_Offset.go, if_pos hlt]
          · rw [World.cell?_setCell_same' _ _ _ (by rw [hrc]; rfl)]; try rw [i64_w]
        · have hld : decide (utf_Offset.left f1 pre < utf_Units.u x.2) = false := decide_eq_false hlt
          gi_wp2
          refine Code.wpIn_mono (Q := utf_Letters.endsIn (fun W' => ∃ W2, Drawn0 (W.drewN m) W2 ∧ W' = W2.setCell ⟨w.heap.size + 1 + 1 + 1, 0, none⟩ (.int .i64 (utf_Offset.left f1 (pre ++ [x]))))) ?_ ?_
          · intro e a W5' h5
            cases e with
            | normal =>
              obtain ⟨W2, ⟨m2, rfl⟩, rfl⟩ := h5
              have hk2 := (hkm.trans (utf_Letters.keepsN (W.drewN m) m2)).trans (KeepsOthers.setCell _ ⟨w.heap.size + 1 + 1 + 1, 0, none⟩ (.int .i64 (utf_Offset.left f1 (pre ++ [x]))))
              refine ⟨hk2.from _, ⟨hk2.size, fun j h1 h2 => Below.heap_setCell _ _ _ _ (by exact h2)⟩, ⟨(show Boxed ((W.drewN m).drewN m2) (w.heap.size + 1 + 1 + 1) 3 (.int .i64 (utf_Offset.left f1 pre)) from hb').set _, fun rest => ?_⟩, ?_, ?_⟩
              · rw [List.append_assoc, hgo, List.singleton_append, utf_Offset.go, if_neg (by omega), utf_Offset.left_snoc]
              · exact hKp.trans ⟨hk2.size, fun j h1 h2 => Below.heap_setCell _ _ _ _ (by exact h2)⟩
              · exact (pw_below_drewN hBm m2).setCell (p := ⟨w.heap.size + 1 + 1 + 1, 0, none⟩) (by show w.heap.size ≤ w.heap.size + 1 + 1 + 1; omega) _
            | _ => exact h5.elim
          · clear hr0 hc0 hlen hend hitems hzlen hzl hCz hA2 hC2 hcut bR bL hb3 hs3 bF bI hB6 hV6 hsz6 hKr hKp hBw hgo bL2 bR2 hr1 hV1 hV0 hc1 hb1 hx1 hx2 hb hK0 hb' bL3 bR3 hkm hBm hlc hrc hrf
            rw [utf_Offset.left_snoc]
            generalize utf_Offset.left f1 pre = s0 at *
            generalize W.drewN m = Wm at *
            refine wpIn_region_any (by kernel_rfl) ?_
            change wpAnyIn _ _ _ _ _ _ _ _ _ (World.drew _)
            have hD1 : Drawn0 Wm Wm.drew := ⟨⟨1, rfl⟩⟩
            have hbc1 : Wm.drew.cell? ⟨w.heap.size + 1 + 1 + 1, 0, none⟩ = some (.int .i64 s0) := hbc
            have hbf1 : Wm.drew.frozen? ⟨w.heap.size + 1 + 1 + 1, 0, none⟩ = false := hbf
            clear hbc hbf
            generalize Wm.drew = W1 at *
            refine utf_Letters.round (by kernel_rfl) ?_
            refine wpAnyIn_take (i := 1) (v := .int .i32 x.2) rfl rfl (by kernel_rfl) (by kernel_rfl) (by kernel_rfl) (fun _ _ _ h => h) ⟨Or.inl ⟨by rfl, fun w => by go_simp⟩, fun _ => rfl⟩ ?_
            try simp only [Act.put, List.setIfInBounds_toArray, List.set_cons_zero, List.set_cons_succ]
            refine wpAnyIn_ready (rs := [0, 2]) (by kernel_rfl) (by simp) ?_
            refine AllReadyIn.cons rfl (fun K hK => ?_) ?_
            · go_simp
              refine hK _ _ ?_
              clear hK K
              refine wpAnyIn_ready (rs := [2]) (by kernel_rfl) (by simp) ?_
              refine AllReadyIn.cons rfl (fun K hK => ?_) AllReadyIn.nil
              go_simp
              refine ⟨trivial, (callsIn_wide.2 (utf_units.calls x.2 _ W1 hu)).mono ?_⟩
              rintro e w9 ⟨rfl, ⟨nd, rfl⟩⟩
              refine hK _ _ ?_
              clear hK K
              have hD2 := hD1.step nd
              have hbc2 : (W1.drewN nd).cell? ⟨w.heap.size + 1 + 1 + 1, 0, none⟩ = some (.int .i64 s0) := hbc1
              have hbf2 : (W1.drewN nd).frozen? ⟨w.heap.size + 1 + 1 + 1, 0, none⟩ = false := hbf1
              clear hbc1 hbf1
              generalize W1.drewN nd = W2 at *
              refine wpAnyIn_ready (rs := [3]) (by kernel_rfl) (by simp) ?_
              refine AllReadyIn.cons rfl (fun K hK => ?_) AllReadyIn.nil
              go_simp
              refine hK _ _ ?_
              clear hK K
              refine wpAnyIn_ready (rs := [4]) (by kernel_rfl) (by simp) ?_
              refine AllReadyIn.cons rfl (fun K hK => ?_) AllReadyIn.nil
              go_simp
              refine hK _ _ ?_
              clear hK K
              refine wpAnyIn_done (by kernel_rfl) ?_ _
              exact ⟨W2, hD2, by rw [i64_w]⟩
            refine AllReadyIn.cons rfl (fun K hK => ?_) AllReadyIn.nil
            go_simp
            refine ⟨trivial, (callsIn_wide.2 (utf_units.calls x.2 _ W1 hu)).mono ?_⟩
            rintro e w9 ⟨rfl, ⟨nd, rfl⟩⟩
            refine hK _ _ ?_
            clear hK K
            have hD2 := hD1.step nd
            have hbc2 : (W1.drewN nd).cell? ⟨w.heap.size + 1 + 1 + 1, 0, none⟩ = some (.int .i64 s0) := hbc1
            have hbf2 : (W1.drewN nd).frozen? ⟨w.heap.size + 1 + 1 + 1, 0, none⟩ = false := hbf1
            clear hbc1 hbf1
            generalize W1.drewN nd = W2 at *
            refine wpAnyIn_ready (rs := [0]) (by kernel_rfl) (by simp) ?_
            refine AllReadyIn.cons rfl (fun K hK => ?_) AllReadyIn.nil
            go_simp
            refine hK _ _ ?_
            clear hK K
            refine wpAnyIn_ready (rs := [3]) (by kernel_rfl) (by simp) ?_
            refine AllReadyIn.cons rfl (fun K hK => ?_) AllReadyIn.nil
            go_simp
            refine hK _ _ ?_
            clear hK K
            refine wpAnyIn_ready (rs := [4]) (by kernel_rfl) (by simp) ?_
            refine AllReadyIn.cons rfl (fun K hK => ?_) AllReadyIn.nil
            go_simp
            refine hK _ _ ?_
            clear hK K
            refine wpAnyIn_done (by kernel_rfl) ?_ _
            exact ⟨W2, hD2, by rw [i64_w]⟩
      | _ => exact h5.elim
    · clear hr0 hc0 hlen hend hitems hzlen hzl hCz hA2 hC2 hcut bR bL hb3 hs3 bF bI hB6 hV6 hsz6 hKr hKp hBw hgo bL2 bR2 hr1 hV1 hV0 hc1 hb1 hx1 hx2 hb hK0
      generalize utf_Offset.left f1 pre = s0 at *
      refine wpIn_region_any (by kernel_rfl) ?_
      change wpAnyIn _ _ _ _ _ _ _ _ _ (World.drew _)
      have hD1 : Drawn0 W W.drew := ⟨⟨1, rfl⟩⟩
      have hbc1 : W.drew.cell? ⟨w.heap.size + 1 + 1 + 1, 0, none⟩ = some (.int .i64 s0) := hbc
      have hbf1 : W.drew.frozen? ⟨w.heap.size + 1 + 1 + 1, 0, none⟩ = false := hbf
      clear hbc hbf
      generalize W.drew = W1 at *
      refine utf_Letters.round (by kernel_rfl) ?_
      refine wpAnyIn_take (i := 1) (v := .int .i32 x.2) rfl rfl (by kernel_rfl) (by kernel_rfl) (by kernel_rfl) (fun _ _ _ h => h) ⟨Or.inl ⟨by rfl, fun w => by go_simp⟩, fun _ => rfl⟩ ?_
      try simp only [Act.put, List.setIfInBounds_toArray, List.set_cons_zero, List.set_cons_succ]
      refine wpAnyIn_ready (rs := [0, 2]) (by kernel_rfl) (by simp) ?_
      refine AllReadyIn.cons rfl (fun K hK => ?_) ?_
      · go_simp
        refine hK _ _ ?_
        clear hK K
        refine wpAnyIn_ready (rs := [2]) (by kernel_rfl) (by simp) ?_
        refine AllReadyIn.cons rfl (fun K hK => ?_) AllReadyIn.nil
        go_simp
        refine ⟨trivial, (callsIn_wide.2 (utf_units.calls x.2 _ W1 hu)).mono ?_⟩
        rintro e w9 ⟨rfl, ⟨nd, rfl⟩⟩
        refine hK _ _ ?_
        clear hK K
        have hD2 := hD1.step nd
        have hbc2 : (W1.drewN nd).cell? ⟨w.heap.size + 1 + 1 + 1, 0, none⟩ = some (.int .i64 s0) := hbc1
        have hbf2 : (W1.drewN nd).frozen? ⟨w.heap.size + 1 + 1 + 1, 0, none⟩ = false := hbf1
        clear hbc1 hbf1
        generalize W1.drewN nd = W2 at *
        refine wpAnyIn_ready (rs := [3]) (by kernel_rfl) (by simp) ?_
        refine AllReadyIn.cons rfl (fun K hK => ?_) AllReadyIn.nil
        go_simp
        refine hK _ _ ?_
        clear hK K
        refine wpAnyIn_done (by kernel_rfl) ?_ _
        exact ⟨rfl, hD2⟩
      refine AllReadyIn.cons rfl (fun K hK => ?_) AllReadyIn.nil
      go_simp
      refine ⟨trivial, (callsIn_wide.2 (utf_units.calls x.2 _ W1 hu)).mono ?_⟩
      rintro e w9 ⟨rfl, ⟨nd, rfl⟩⟩
      refine hK _ _ ?_
      clear hK K
      have hD2 := hD1.step nd
      have hbc2 : (W1.drewN nd).cell? ⟨w.heap.size + 1 + 1 + 1, 0, none⟩ = some (.int .i64 s0) := hbc1
      have hbf2 : (W1.drewN nd).frozen? ⟨w.heap.size + 1 + 1 + 1, 0, none⟩ = false := hbf1
      clear hbc1 hbf1
      generalize W1.drewN nd = W2 at *
      refine wpAnyIn_ready (rs := [0]) (by kernel_rfl) (by simp) ?_
      refine AllReadyIn.cons rfl (fun K hK => ?_) AllReadyIn.nil
      go_simp
      refine hK _ _ ?_
      clear hK K
      refine wpAnyIn_ready (rs := [3]) (by kernel_rfl) (by simp) ?_
      refine AllReadyIn.cons rfl (fun K hK => ?_) AllReadyIn.nil
      go_simp
      refine hK _ _ ?_
      clear hK K
      refine wpAnyIn_done (by kernel_rfl) ?_ _
      exact ⟨rfl, hD2⟩
  case done =>
    rintro D ys W hD rfl ⟨⟨hb, hgo⟩, hKp, hBw⟩ hK
    have bR2 : Boxed W (w.heap.size + 1) 3 (.int .i64 0) := (hKp.2 (w.heap.size + 1) (by omega) (by omega)).trans bR
    have hrc := bR2.cell
    have hrf := bR2.frozen
    have hv : utf_Offset.go lo hi ys f1 = hi := by
      have h := hgo []
      rw [List.append_nil] at h
      exact h
    gi_wp2
    have hK' := (KeepsOthers.setCell W ⟨w.heap.size + 1, 0, none⟩ (.int .i64 hi)).same D _ hK rfl
    refine ⟨by simp, .inl ⟨_, _, rfl, run_takeDeferred hK', ?_⟩⟩
    have hc5 := cell_kept (World.cell?_setCell_same' W ⟨w.heap.size + 1, 0, none⟩ (.int .i64 hi) (by rw [hrc]; rfl)) (grownBy_putObj' _ D (.deferred none)) (fun r e => by cases e; exact ⟨_, hK', rfl⟩)
    exact ⟨.int .i64 hi, by simp [results, Try.f22, go_sem, hc5], by rw [hlod, hv], (hBw.setCell (p := ⟨w.heap.size + 1, 0, none⟩) (Nat.le_succ _) _).trans (belowK_b (w := w) (Nat.le_refl _) _ D _ _ (by omega) hK' rfl rfl)⟩
  case stop =>
    rintro D c pre W hD ⟨k', hk', rfl⟩ ⟨⟨rfl, v, e1, e2⟩, hB⟩ hK
    gi_wp2
    refine ⟨by simp, .inl ⟨_, _, rfl, run_takeDeferred hK, ?_⟩⟩
    have hc5 := cell_kept e2 (grownBy_putObj' _ D (.deferred none)) (fun r e => by cases e; exact ⟨_, hK, rfl⟩)
    have hv : utf_Offset.go lo hi items f1 = v := by
      have h := e1 (items.drop k')
      rwa [List.take_append_drop] at h
    exact ⟨.int .i64 v, by simp [results, Try.f22, go_sem, hc5], by rw [hlod, hv], hB.trans (belowK_b (w := w) (Nat.le_refl _) W D _ _ (by omega) hK rfl rfl)⟩

end Go.Proofs.Ytpphijljdoojdaa.QUtfLetters
