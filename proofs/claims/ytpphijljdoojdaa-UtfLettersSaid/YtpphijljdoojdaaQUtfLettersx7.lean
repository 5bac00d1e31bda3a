-- written by wip/wprint, a program of this session
import Derived.Test.YtpphijljdoojdaaQUtfLettersx0
import Derived.Test.YtpphijljdoojdaaQUtfLettersx3
import Derived.Test.YtpphijljdoojdaaQUtfLettersx5
import Derived.Test.YtpphijljdoojdaaQUtfLettersx6
namespace Go.Proofs.Ytpphijljdoojdaa.QUtfLetters
open Go.RowKit Go.Proofs.YtpphijljdoojdaaW.PrintWords Go.Proofs.YtpphijljdoojdaaW.PrintLast Go.Proofs.YtpphijljdoojdaaW.PrintMore
attribute [local go_sem] max2_int min2_int max_two min_two max_three min_three max_four min_four   -- for this text's walks alone
set_option linter.unusedVariables false
set_option linter.unusedSimpArgs false

/-! ### whetstonelaw03_UtfLetters: function 4 -/
attribute [local go_sem] Oper.semAt_some
def whetstonelaw03_UtfLetters.nm (x : Int × Int) : Int × Int := (x.1, wrap64 x.2)
/-- The law, where each letter is the document's: both rounds come to their end, or the first one is left. -/
def whetstonelaw03_UtfLetters.f (k : Nat) (l0 : List Int) (a1 : Int) : Option Bool :=
  (whetstonelaw03_lettered.f k).bind fun y => if y = true then (if (l0.length : Int) > 400 then some true else ((whetstoneref03_Letters.f k l0).bind fun want => ((utf_Letters.l k l0 0).bind fun items => if want.map (fun s => (s.f0, s.f1)) = items ∧ items.map whetstonelaw03_UtfLetters.nm = items ∧ want.length ≤ 10000 then some true else none))) else none
theorem whetstonelaw03_UtfLetters.mono : ∀ a0 a1 k, LeO (whetstonelaw03_UtfLetters.f k a0 a1) (whetstonelaw03_UtfLetters.f (k + 1) a0 a1) := by
  intro a0 a1 k
  unfold whetstonelaw03_UtfLetters.f
  exact LeO.bind (whetstonelaw03_lettered.mono _) (fun _ => LeO.ite (LeO.ite (LeO.refl _) (LeO.bind (whetstoneref03_Letters.mono _ _) (fun _ => LeO.bind (utf_Letters.mono _ _ _) (fun _ => LeO.refl _)))) (LeO.refl _))
set_option maxHeartbeats 8000000 in
set_option maxRecDepth 100000 in
theorem whetstonelaw03_UtfLetters.calls (k : Nat) (A0 : Option Addr) (c0 : Nat) (l0 : List Int) (a1 : Int) (r : Bool) (w : World) (hr0 : Kd.C (Kd.int .u8) w A0 l0.length l0) (hc0 : l0.length ≤ c0) (h : whetstonelaw03_UtfLetters.f k l0 a1 = some r) :
    Calls Try.prog 4 #[.slice A0 l0.length c0, .int .i64 a1] w fun e w' => e = .returned (.bool r) ∧ Below w.heap.size w w' := by
  unfold whetstonelaw03_UtfLetters.f at h
  obtain ⟨y, hy, h⟩ := Option.bind_eq_some_iff.mp h
  by_cases hyt : y = true
  rotate_left
  · rw [if_neg hyt] at h
    exact absurd h (by simp)
  rw [if_pos hyt] at h
  subst hyt
  refine (callsIn_wide (n := 4)).1 ?_
  refine callsIn_of_wp_marks Try.func4 rfl trivial ?_ rfl
  simp only [Try.ntmps4, List.size_toArray, List.length_cons, List.length_nil, Nat.reduceAdd, Nat.reduceSub, Array.replicate_succ, Array.replicate_zero, List.push_toArray, List.append_toArray, List.nil_append, List.cons_append]
  gi_wp2
  have hb1 : Below w.heap.size w ((w.alloc (.cells #[.int .i64 a1] 3)).alloc (.cells #[.bool false] 4)) := ((Below.refl _ w).alloc (Nat.le_refl _) _).alloc (by simp) _
  refine ⟨trivial, (callsIn_wide.2 (whetstonelaw03_lettered.calls k true _ hy)).mono ?_⟩
  rintro e w2 ⟨rfl, hb2⟩
  have bS2 : Boxed w2 w.heap.size 3 (.int .i64 a1) := by
    have h1 := (Boxed.new w 3 (.int .i64 a1)).alloc (.cells #[.bool false] 4)
    exact (hb2.block w.heap.size (by simp <;> omega)).trans h1
  have bR2 : Boxed w2 (w.heap.size + 1) 4 (.bool false) := by
    have h1 := Boxed.new (w.alloc (.cells #[.int .i64 a1] 3)) 4 (.bool false)
    rw [World.size_alloc] at h1
    exact (hb2.block (w.heap.size + 1) (by simp <;> omega)).trans h1
  have hB2 : Below w.heap.size w w2 := hb1.trans (hb2.mono (by simp; omega))
  have hz2 : w.heap.size + 2 ≤ w2.heap.size := by have := hb2.size; simp at this; omega
  clear hb1 hb2
  by_cases hlt : (l0.length : Int) > 400
  · rw [if_pos hlt] at h
    have hr := Option.some.inj h
    subst hr
    have hld : decide (400 < (l0.length : Int)) = true := decide_eq_true hlt
    gi_wp2
    refine ⟨trivial, (callsIn_wide.2 (whetstonelaw03_lettered.calls k true _ hy)).mono ?_⟩
    rintro e w3 ⟨rfl, hb3⟩
    have bR3 : Boxed w3 (w.heap.size + 1) 4 (.bool false) := (hb3.block _ (by omega)).trans bR2
    have hrc := bR3.cell
    have hrf := bR3.frozen
    gi_wp2
    exact ⟨.bool true, by simp [results, Try.f4, go_sem, hrc], rfl, (hB2.trans (hb3.mono (by omega))).setCell (p := ⟨w.heap.size + 1, 0, none⟩) (Nat.le_succ _) _⟩
  rw [if_neg hlt] at h
  have hld : decide (400 < (l0.length : Int)) = false := decide_eq_false hlt
  obtain ⟨want, hwant, h⟩ := Option.bind_eq_some_iff.mp h
  obtain ⟨items, hitems, h⟩ := Option.bind_eq_some_iff.mp h
  by_cases hall : want.map (fun s => (s.f0, s.f1)) = items ∧ items.map whetstonelaw03_UtfLetters.nm = items ∧ want.length ≤ 10000
  rotate_left
  · rw [if_neg hall] at h
    exact absurd h (by simp)
  rw [if_pos hall] at h
  have hr := Option.some.inj h
  subst hr
  have hsc := bS2.cell
  have hsf := bS2.frozen
  gi_wp2
  refine ⟨trivial, (callsIn_wide.2 (whetstoneref03_Letters.calls k A0 c0 l0 want _ ?hr3 hc0 hwant)).mono ?_⟩
  case hr3 => exact Kd.C_below hr0 (hB2.setCell (p := ⟨w.heap.size, 0, none⟩) (Nat.le_refl _) _)
  rintro e w4 ⟨v4, rfl, hR4, hb4⟩
  have hB3 := hB2.setCell (p := ⟨w.heap.size, 0, none⟩) (Nat.le_refl _) (Value.int .i64 (wrap64 ((IntKind.u64.wrap a1).tmod 30)))
  have bS3 := bS2.set (Value.int .i64 (wrap64 ((IntKind.u64.wrap a1).tmod 30)))
  generalize wrap64 ((IntKind.u64.wrap a1).tmod 30) = st at *
  have bR3 : Boxed (w2.setCell ⟨w.heap.size, 0, none⟩ (.int .i64 st)) (w.heap.size + 1) 4 (.bool false) := (Below.heap_setCell _ _ _ _ (by simp)).trans bR2
  have hz3 : w.heap.size + 2 ≤ (w2.setCell ⟨w.heap.size, 0, none⟩ (.int .i64 st)).heap.size := by simpa using hz2
  clear bS2 bR2 hB2 hz2 hsc hsf
  generalize w2.setCell ⟨w.heap.size, 0, none⟩ (.int .i64 st) = w3 at *
  have bS4 := (hb4.block w.heap.size (by omega)).trans bS3
  have bR4 := (hb4.block (w.heap.size + 1) (by omega)).trans bR3
  have hB4 := hB3.trans (hb4.mono (by omega))
  have hz4 : w.heap.size + 2 ≤ w4.heap.size := by have := hb4.size; omega
  clear bS3 bR3 hB3
  obtain ⟨A4, c4, rfl⟩ := Kd.R_slice hR4
  have hV4 : Kd.V k38 38 w4 0 (fun q => True ∧ q < w4.heap.size) (.slice A4 want.length c4) want := Kd.V_bound (Kd.R_V hR4)
  clear hR4 hb4 hz3
  gi_wp2
  refine ⟨trivial, (utf_Letters_in Fence.wide _ trivial rfl _ _ _ _).mono ?_⟩
  rintro e w' ⟨rfl, rfl⟩
  gi_wp2
  have bW := ((Boxed.new w4 32 (.slice A4 want.length c4)).alloc (.cells #[.slice A0 l0.length c0] 22)).alloc (.cells #[.int .i64 0] 3)
  have bI := (Boxed.new (w4.alloc (.cells #[.slice A4 want.length c4] 32)) 22 (.slice A0 l0.length c0)).alloc (.cells #[.int .i64 0] 3)
  have bN := Boxed.new ((w4.alloc (.cells #[.slice A4 want.length c4] 32)).alloc (.cells #[.slice A0 l0.length c0] 22)) 3 (.int .i64 0)
  have hz7 : (((w4.alloc (.cells #[.slice A4 want.length c4] 32)).alloc (.cells #[.slice A0 l0.length c0] 22)).alloc (.cells #[.int .i64 0] 3)).heap.size ≥ w4.heap.size + 3 := by simp
  have hb7 : Below w4.heap.size w4 (((w4.alloc (.cells #[.slice A4 want.length c4] 32)).alloc (.cells #[.slice A0 l0.length c0] 22)).alloc (.cells #[.int .i64 0] 3)) := (((Below.refl _ w4).alloc (Nat.le_refl _) _).alloc (by simp) _).alloc (by simp; omega) _
  simp only [World.size_alloc] at bI bN
  have hB7 := hB4.trans (hb7.mono (by omega))
  have hV7 := Kd.V_below hV4 hb7
  have bS7 := (hb7.block w.heap.size (by omega)).trans bS4
  have bR7 := (hb7.block (w.heap.size + 1) (by omega)).trans bR4
  have hV07 : Kd.V (Kd.int .u8) 5 (((w4.alloc (.cells #[.slice A4 want.length c4] 32)).alloc (.cells #[.slice A0 l0.length c0] 22)).alloc (.cells #[.int .i64 0] 3)) 0 (fun q => q < w.heap.size) (.slice A0 l0.length c0) l0 := Kd.V_below (Kd.V_mk hc0 (Kd.C_F (Kd.heap_int .u8) hr0)) hB7
  generalize ((w4.alloc (.cells #[.slice A4 want.length c4] 32)).alloc (.cells #[.slice A0 l0.length c0] 22)).alloc (.cells #[.int .i64 0] 3) = W7 at *
  have hlen : l0.length ≤ 4611686018427387904 := by omega
  have hwl := Aside0.mk (show want.length = items.length by rw [← hall.1, List.length_map])
  have hall := Aside0.mk hall
  have hKr : ∀ A : World, utf_Letters.Kp W7.heap.size (w4.heap.size + 1 + 1) A A := fun A => ⟨Nat.le_refl _, fun _ _ _ => rfl⟩
  refine wpIn_rangeFunc_ownG rfl (by omega) (gf := 27) (lb := #[.pointer (some ⟨w4.heap.size + 1, 0, none⟩)]) rfl trivial (enters_of Try.func27 (by kernel_rfl) rfl)
    (utf_Letters_stops 3 (by omega) (w4.heap.size + 1) c0 A0 l0 k items hitems hlen hc0 (fun W => Kd.V (Kd.int .u8) 5 W 0 (fun q => q < w.heap.size) (.slice A0 l0.length c0) l0 ∧ Boxed W (w4.heap.size + 1) 22 (.slice A0 l0.length c0)) (fun h => ⟨(Kd.V_reads' h.1).2.2, h.2.cell⟩) (fun h n => ⟨Kd.V_drewN h.1 n, h.2⟩) (utf_Letters.Kp W7.heap.size (w4.heap.size + 1 + 1))
      (fun h hR => ⟨Kd.V_step hR.1 (fun q hq _ => h.2 q (by omega) (by omega)), (h.2 (w4.heap.size + 1) (by omega) (by omega)).trans hR.2⟩) W7 (fun hb => ⟨Kd.V_below hV07 hb, (hb.block (w4.heap.size + 1) (by omega)).trans bI⟩))
    (fun h h' => h.trans h') (fun W l o o' hl ho hc hw => utf_Letters.Kp.putObj hl ho hc) (Below.refl _ _) (fun _ => rfl)
    (fun pre W => (Boxed W (w4.heap.size + 1 + 1) 3 (.int .i64 pre.length) ∧ pre.map whetstonelaw03_UtfLetters.nm = items.take pre.length) ∧ utf_Letters.Kp W7.heap.size (w4.heap.size + 1 + 1) W7 W ∧ Below w.heap.size w W)
    (fun c pre W => (c = .exit 0 ∧ (∃ v, Boxed W (w4.heap.size + 1 + 1) 3 (.int .i64 v)) ∧ utf_Letters.Kp W7.heap.size (w4.heap.size + 1 + 1) W7 W ∧ Below w.heap.size w W) ∨ (c = .ret ∧ pre.map whetstonelaw03_UtfLetters.nm ≠ items.take pre.length))
    (OwnFrom.and (fun s A B row hs hg hr => ⟨utf_Letters.moved hs.1 hg (fun r e => (hr r e).2), hs.2⟩) (OwnFrom.and utf_Letters.Kp.own (ownFrom_below (Nat.le_refl _) (by omega))))
    (fun c s A B row hs hg hr => hs.elim (fun ⟨hc, ⟨v, h1⟩, h2⟩ => .inl ⟨hc, ⟨v, utf_Letters.moved h1 hg (fun r e => (hr r e).2)⟩, (OwnFrom.and utf_Letters.Kp.own (ownFrom_below (Nat.le_refl _) (by omega))) s A B row h2 hg hr⟩) .inr)
    ⟨⟨bN, by simp⟩, hKr _, hB7⟩
    (fun x => { tmps := #[.slice A0 l0.length c0, .int .i64 a1, undef, .pointer (some ⟨w.heap.size, 0, none⟩), .pointer (some ⟨w.heap.size + 1, 0, none⟩), .pointer (some ⟨w4.heap.size, 0, none⟩), .func (.func 27) #[] #[.pointer (some ⟨w4.heap.size + 1, 0, none⟩)], .pointer (some ⟨w4.heap.size + 1 + 1, 0, none⟩), .int .i64 x.1, .int .i32 x.2, undef, undef, .bool true, .bool false, .bool false, .slice A0 l0.length c0, .int .i64 l0.length, .bool false, .bool false, undef, .int .i64 a1, .int .u64 (IntKind.u64.wrap a1), .int .u64 ((IntKind.u64.wrap a1).tmod 30), .int .i64 st, .slice A0 l0.length c0, .slice A4 want.length c4, .slice A0 l0.length c0, .func (.func 27) #[] #[.pointer (some ⟨w4.heap.size + 1, 0, none⟩)], .func (.func 27) #[] #[.pointer (some ⟨w4.heap.size + 1, 0, none⟩)], .int .i64 x.1, .int .i32 x.2, undef, undef, undef, undef, undef, undef, undef, undef, undef, undef, undef, undef, undef, undef, undef, undef, undef, undef, undef, undef, undef, undef, undef, undef, undef, undef, undef, undef, undef, undef, undef, undef, undef, undef, undef, undef, undef, undef, undef, undef, undef, undef, undef, undef, undef, undef, undef, undef, undef, undef, undef, undef, undef, undef, undef, undef, undef, undef, undef, undef, undef, undef, undef], defers := [] }) ?assign ?body ?done ?stop
  case assign =>
    intro l x W K hK
    gi_wp2
    exact hK
  case body =>
    rintro l pre x W ⟨⟨hb, hpre0⟩, hKp, hBw⟩ hlt'
    have hpre := Aside0.mk hpre0
    clear hpre0
    have hbc := hb.cell
    have hbf := hb.frozen
    have bS8 : Boxed W w.heap.size 3 (.int .i64 st) := (hKp.2 w.heap.size (by omega) (by omega)).trans bS7
    have bW8 : Boxed W w4.heap.size 32 (.slice A4 want.length c4) := (hKp.2 w4.heap.size (by omega) (by omega)).trans bW
    have bR8 : Boxed W (w.heap.size + 1) 4 (.bool false) := (hKp.2 (w.heap.size + 1) (by omega) (by omega)).trans bR7
    have hsc := bS8.cell
    have hwc := bW8.cell
    have hrc := bR8.cell
    have hrf := bR8.frozen
    have hset : ∀ v, utf_Letters.Kp W7.heap.size (w4.heap.size + 1 + 1) W (W.setCell ⟨w4.heap.size + 1 + 1, 0, none⟩ v) := fun v => ⟨(KeepsOthers.setCell _ _ _).size, fun j h1 h2 => Below.heap_setCell _ _ _ _ (by exact h2)⟩
    by_cases c1 : st ≤ (pre.length : Int)
    · have c1d : decide (st ≤ (pre.length : Int)) = true := decide_eq_true c1
      gi_wp2
      exact ⟨(KeepsOthers.refl W).from _, .inl ⟨rfl, ⟨_, hb⟩, hKp, hBw⟩⟩
    have c1d : decide (st ≤ (pre.length : Int)) = false := decide_eq_false c1
    have hlw : pre.length < want.length := by have := hwl.out; omega
    have c2d : decide (want.length ≤ pre.length) = false := decide_eq_false (by omega)
    have hC := (Kd.V_reads' (Kd.V_step hV7 (fun q hq _ => hKp.2 q (by have := hq.2; omega) (by have := hq.2; omega)))).2.2
    obtain ⟨ad, e1, hx0, hx1, hx2⟩ := at_T38 hC (pre.length : Int) (by omega) (by omega)
    cases e1
    simp only [Int.toNat_natCast] at hx0 hx1 hx2
    have hit : items[pre.length]? = some ((rd_T38 want pre.length).f0, (rd_T38 want pre.length).f1) := by
      rw [← hall.out.1, List.getElem?_map]
      unfold rd_T38
      rw [Int.toNat_natCast, List.getD_eq_getElem?_getD, List.getElem?_eq_getElem hlw]; rfl
    have htk : items.take (pre ++ [x]).length = pre.map whetstonelaw03_UtfLetters.nm ++ [((rd_T38 want pre.length).f0, (rd_T38 want pre.length).f1)] := by
      rw [List.length_append, List.length_singleton, List.take_add_one, hit, ← hpre.out]; rfl
    have htk := Aside0.mk htk
    clear hit hpre
    have hret : whetstonelaw03_UtfLetters.nm x ≠ ((rd_T38 want pre.length).f0, (rd_T38 want pre.length).f1) → (pre ++ [x]).map whetstonelaw03_UtfLetters.nm ≠ items.take (pre ++ [x]).length := fun h e => by
      rw [htk.out, List.map_append] at e
      have := List.append_cancel_left e
      exact h (by simpa using this)
    by_cases c3 : x.1 = (rd_T38 want pre.length).f0
    rotate_left
    · have c3d : (x.1 != (rd_T38 want pre.length).f0) = true := by simpa using c3
      have hret2 := hret (fun e => c3 (congrArg Prod.fst e))
      clear hret
      gi_wp2
      exact ⟨(KeepsOthers.setCell _ _ _).from _, .inr ⟨rfl, hret2⟩⟩
    have c3d : (x.1 != (rd_T38 want pre.length).f0) = false := by simpa using c3
    by_cases c4 : wrap64 x.2 = (rd_T38 want pre.length).f1
    rotate_left
    · have c4d : (wrap64 x.2 != (rd_T38 want pre.length).f1) = true := by simpa using c4
      have hret2 := hret (fun e => c4 (congrArg Prod.snd e))
      clear hret
      gi_wp2
      exact ⟨(KeepsOthers.setCell _ _ _).from _, .inr ⟨rfl, hret2⟩⟩
    have c4d : (wrap64 x.2 != (rd_T38 want pre.length).f1) = false := by simpa using c4
    have hgo : (pre ++ [x]).map whetstonelaw03_UtfLetters.nm = items.take (pre ++ [x]).length := by
      rw [htk.out, List.map_append, List.map_singleton, whetstonelaw03_UtfLetters.nm, c3, c4]
    have hgo := Aside0.mk hgo
    clear hret c3 c4
    gi_wp2
    refine ⟨(KeepsOthers.setCell _ _ _).from _, hset _, ⟨?_, hgo.out⟩, hKp.trans (hset _), hBw.setCell (p := ⟨w4.heap.size + 1 + 1, 0, none⟩) (by show w.heap.size ≤ w4.heap.size + 1 + 1; omega) _⟩
    have h9 := hb.set (.int .i64 ((pre.length : Int) + 1))
    rw [List.length_append, List.length_singleton]
    exact h9
  case' done =>
    rintro D ys W hD - ⟨⟨hb0, -⟩, hKp, hBw⟩ hK
    obtain ⟨v, hb⟩ : ∃ v, Boxed W (w4.heap.size + 1 + 1) 3 (.int .i64 v) := ⟨_, hb0⟩
    clear hb0
    have hbc := hb.cell
    have hbf := hb.frozen
    gi_wp2
  case' stop =>
    rintro D c pre W hD ⟨kk, hkk, hpre⟩ hx hK
    rcases hx with ⟨rfl, ⟨v, hb⟩, hKp, hBw⟩ | ⟨-, hne⟩
    rotate_left
    · refine absurd ?_ hne
      rw [hpre, List.map_take, hall.out.2.1, List.length_take, Nat.min_eq_left hkk]
    clear hpre hkk
    have hbc := hb.cell
    have hbf := hb.frozen
    gi_wp2
  all_goals
    have hKp8 := hKp.trans ⟨(KeepsOthers.setCell W ⟨w4.heap.size + 1 + 1, 0, none⟩ (.int .i64 0)).size, fun j h1 h2 => Below.heap_setCell _ _ _ _ (by exact h2)⟩
    have bN8 := hb.set (.int .i64 0)
    have hB8 := hBw.setCell (p := ⟨w4.heap.size + 1 + 1, 0, none⟩) (by show w.heap.size ≤ w4.heap.size + 1 + 1; omega) (.int .i64 0)
    have hK8 : (W.setCell ⟨w4.heap.size + 1 + 1, 0, none⟩ (.int .i64 0)).heap[D]? = some (.deferred (some [])) := (Below.heap_setCell _ _ _ _ (by show D ≠ w4.heap.size + 1 + 1; omega)).trans hK
    clear hb hbc hbf hKp hBw hK
    generalize W.setCell ⟨w4.heap.size + 1 + 1, 0, none⟩ (.int .i64 0) = W8 at *
    have hKp := hKp8
    have hz8 := hKp.1
    have hD8 : D < W8.heap.size := (Array.getElem?_eq_some_iff.1 hK8).1
    have hV08 : Kd.V (Kd.int .u8) 5 W8 0 (fun q => q < w.heap.size) (.slice A0 l0.length c0) l0 := Kd.V_below (Kd.V_mk hc0 (Kd.C_F (Kd.heap_int .u8) hr0)) hB8
    have bI8 := (hKp.2 (w4.heap.size + 1) (by omega) (by omega)).trans bI
    have hKr : ∀ A : World, utf_Letters.Kp W8.heap.size (w4.heap.size + 1 + 1) A A := fun A => ⟨Nat.le_refl _, fun _ _ _ => rfl⟩
    clear hKp8
    refine wpIn_rangeFunc_ownG rfl (by omega) (gf := 27) (lb := #[.pointer (some ⟨w4.heap.size + 1, 0, none⟩)]) rfl trivial (enters_of Try.func27 (by kernel_rfl) rfl)
      (utf_Letters_stops 3 (by omega) (w4.heap.size + 1) c0 A0 l0 k items hitems hlen hc0 (fun W => Kd.V (Kd.int .u8) 5 W 0 (fun q => q < w.heap.size) (.slice A0 l0.length c0) l0 ∧ Boxed W (w4.heap.size + 1) 22 (.slice A0 l0.length c0)) (fun h => ⟨(Kd.V_reads' h.1).2.2, h.2.cell⟩) (fun h n => ⟨Kd.V_drewN h.1 n, h.2⟩) (utf_Letters.Kp W8.heap.size (w4.heap.size + 1 + 1))
        (fun h hR => ⟨Kd.V_step hR.1 (fun q hq _ => h.2 q (by omega) (by omega)), (h.2 (w4.heap.size + 1) (by omega) (by omega)).trans hR.2⟩) W8 (fun hb => ⟨Kd.V_below hV08 hb, (hb.block (w4.heap.size + 1) (by omega)).trans bI8⟩))
      (fun h h' => h.trans h') (fun W l o o' hl ho hc hw => utf_Letters.Kp.putObj hl ho hc) (Below.refl _ _) (fun _ => rfl)
      (fun pre W => (Boxed W (w4.heap.size + 1 + 1) 3 (.int .i64 pre.length) ∧ pre.map whetstonelaw03_UtfLetters.nm = items.take pre.length) ∧ utf_Letters.Kp W8.heap.size (w4.heap.size + 1 + 1) W8 W ∧ Below w.heap.size w W)
      (fun c pre W => c = .ret ∧ pre.map whetstonelaw03_UtfLetters.nm ≠ items.take pre.length)
      (OwnFrom.and (fun s A B row hs hg hr => ⟨utf_Letters.moved hs.1 hg (fun r e => (hr r e).2), hs.2⟩) (OwnFrom.and utf_Letters.Kp.own (ownFrom_below (Nat.le_refl _) (by omega))))
      (fun c s A B row hs hg hr => hs)
      ⟨⟨bN8, by simp⟩, hKr _, hB8⟩
      (fun x => { tmps := #[.slice A0 l0.length c0, .int .i64 a1, undef, .pointer (some ⟨w.heap.size, 0, none⟩), .pointer (some ⟨w.heap.size + 1, 0, none⟩), .pointer (some ⟨w4.heap.size, 0, none⟩), .func (.func 27) #[] #[.pointer (some ⟨w4.heap.size + 1, 0, none⟩)], .pointer (some ⟨w4.heap.size + 1 + 1, 0, none⟩), undef, undef, .int .i64 x.1, .int .i32 x.2, .bool true, .bool false, .bool false, .slice A0 l0.length c0, .int .i64 l0.length, .bool false, .bool false, undef, .int .i64 a1, .int .u64 (IntKind.u64.wrap a1), .int .u64 ((IntKind.u64.wrap a1).tmod 30), .int .i64 st, .slice A0 l0.length c0, .slice A4 want.length c4, .slice A0 l0.length c0, .func (.func 27) #[] #[.pointer (some ⟨w4.heap.size + 1, 0, none⟩)], .func (.func 27) #[] #[.pointer (some ⟨w4.heap.size + 1, 0, none⟩)], undef, undef, undef, undef, undef, undef, undef, undef, undef, undef, undef, undef, undef, undef, undef, undef, undef, undef, undef, undef, undef, undef, undef, undef, undef, undef, undef, undef, undef, undef, .func (.func 27) #[] #[.pointer (some ⟨w4.heap.size + 1, 0, none⟩)], .int .i64 x.1, .int .i32 x.2, undef, undef, undef, undef, undef, undef, undef, undef, undef, undef, undef, undef, undef, undef, undef, undef, undef, undef, undef, undef, undef, undef, undef, undef, undef, undef, undef, undef, undef, undef, undef, undef], defers := [] }) ?assign2 ?body2 ?done2 ?stop2
    case assign2 =>
      intro l x W K hK
      gi_wp2
      exact hK
    case body2 =>
      rintro l pre x W ⟨⟨hb, hpre0⟩, hKp2, hBw⟩ hlt'
      have hpre := Aside0.mk hpre0
      clear hpre0
      have hbc := hb.cell
      have hbf := hb.frozen
      have bS8 : Boxed W w.heap.size 3 (.int .i64 st) := (hKp2.2 w.heap.size (by omega) (by omega)).trans ((hKp.2 w.heap.size (by omega) (by omega)).trans bS7)
      have bW8 : Boxed W w4.heap.size 32 (.slice A4 want.length c4) := (hKp2.2 w4.heap.size (by omega) (by omega)).trans ((hKp.2 w4.heap.size (by omega) (by omega)).trans bW)
      have bR8 : Boxed W (w.heap.size + 1) 4 (.bool false) := (hKp2.2 (w.heap.size + 1) (by omega) (by omega)).trans ((hKp.2 (w.heap.size + 1) (by omega) (by omega)).trans bR7)
      have hsc := bS8.cell
      have hwc := bW8.cell
      have hrc := bR8.cell
      have hrf := bR8.frozen
      have hset : ∀ v, utf_Letters.Kp W8.heap.size (w4.heap.size + 1 + 1) W (W.setCell ⟨w4.heap.size + 1 + 1, 0, none⟩ v) := fun v => ⟨(KeepsOthers.setCell _ _ _).size, fun j h1 h2 => Below.heap_setCell _ _ _ _ (by exact h2)⟩
      have hlw : pre.length < want.length := by have := hwl.out; omega
      have c2d : decide (want.length ≤ pre.length) = false := decide_eq_false (by omega)
      have hC := (Kd.V_reads' (Kd.V_step hV7 (fun q hq _ => (hKp2.2 q (by have := hq.2; omega) (by have := hq.2; omega)).trans (hKp.2 q (by have := hq.2; omega) (by have := hq.2; omega))))).2.2
      obtain ⟨ad, e1, hx0, hx1, hx2⟩ := at_T38 hC (pre.length : Int) (by omega) (by omega)
      cases e1
      simp only [Int.toNat_natCast] at hx0 hx1 hx2
      have hit : items[pre.length]? = some ((rd_T38 want pre.length).f0, (rd_T38 want pre.length).f1) := by
        rw [← hall.out.1, List.getElem?_map]
        unfold rd_T38
        rw [Int.toNat_natCast, List.getD_eq_getElem?_getD, List.getElem?_eq_getElem hlw]; rfl
      have htk : items.take (pre ++ [x]).length = pre.map whetstonelaw03_UtfLetters.nm ++ [((rd_T38 want pre.length).f0, (rd_T38 want pre.length).f1)] := by
        rw [List.length_append, List.length_singleton, List.take_add_one, hit, ← hpre.out]; rfl
      have htk := Aside0.mk htk
      clear hit hpre
      have hret : whetstonelaw03_UtfLetters.nm x ≠ ((rd_T38 want pre.length).f0, (rd_T38 want pre.length).f1) → (pre ++ [x]).map whetstonelaw03_UtfLetters.nm ≠ items.take (pre ++ [x]).length := fun h e => by
        rw [htk.out, List.map_append] at e
        have := List.append_cancel_left e
        exact h (by simpa using this)
      by_cases c3 : x.1 = (rd_T38 want pre.length).f0
      rotate_left
      · have c3d : (x.1 != (rd_T38 want pre.length).f0) = true := by simpa using c3
        have hret2 := hret (fun e => c3 (congrArg Prod.fst e))
        clear hret
        gi_wp2
        exact ⟨(KeepsOthers.setCell _ _ _).from _, rfl, hret2⟩
      have c3d : (x.1 != (rd_T38 want pre.length).f0) = false := by simpa using c3
      by_cases c4 : wrap64 x.2 = (rd_T38 want pre.length).f1
      rotate_left
      · have c4d : (wrap64 x.2 != (rd_T38 want pre.length).f1) = true := by simpa using c4
        have hret2 := hret (fun e => c4 (congrArg Prod.snd e))
        clear hret
        gi_wp2
        exact ⟨(KeepsOthers.setCell _ _ _).from _, rfl, hret2⟩
      have c4d : (wrap64 x.2 != (rd_T38 want pre.length).f1) = false := by simpa using c4
      have hgo : (pre ++ [x]).map whetstonelaw03_UtfLetters.nm = items.take (pre ++ [x]).length := by
        rw [htk.out, List.map_append, List.map_singleton, whetstonelaw03_UtfLetters.nm, c3, c4]
      have hgo := Aside0.mk hgo
      clear hret c3 c4
      gi_wp2
      refine ⟨(KeepsOthers.setCell _ _ _).from _, hset _, ⟨?_, hgo.out⟩, hKp2.trans (hset _), hBw.setCell (p := ⟨w4.heap.size + 1 + 1, 0, none⟩) (by show w.heap.size ≤ w4.heap.size + 1 + 1; omega) _⟩
      have h9 := hb.set (.int .i64 ((pre.length : Int) + 1))
      rw [List.length_append, List.length_singleton]
      exact h9
    case done2 =>
      rintro D2 ys W2 hD2 hys ⟨⟨hb, -⟩, hKp2, hBw⟩ hK2
      rw [hys, ← hwl.out] at hb
      clear hys
      have hKD2 := (hKp2.2 D hD8 (by omega)).trans hK8
      have hz2 := hKp2.1
      have bW2 := (hKp2.2 w4.heap.size (by omega) (by omega)).trans ((hKp.2 w4.heap.size (by omega) (by omega)).trans bW)
      have bR2 := (hKp2.2 (w.heap.size + 1) (by omega) (by omega)).trans ((hKp.2 (w.heap.size + 1) (by omega) (by omega)).trans bR7)
      have hD2l : D2 < W2.heap.size := (Array.getElem?_eq_some_iff.1 hK2).1
      have hKD2 := Aside0.mk hKD2
      have hK2 := Aside0.mk hK2
      have hK8 := Aside0.mk hK8
      gi_wp2
      refine ⟨trivial, (callsIn_wide.2 (whetstonelaw03_lettered.calls k true _ hy)).mono ?_⟩
      rintro e w9 ⟨rfl, hb9⟩
      have hbc := (show Boxed w9 (w4.heap.size + 1 + 1) 3 (.int .i64 want.length) from (hb9.block _ (by omega)).trans hb).cell
      have hwc := (show Boxed w9 w4.heap.size 32 (.slice A4 want.length c4) from (hb9.block _ (by omega)).trans bW2).cell
      have bR9 : Boxed w9 (w.heap.size + 1) 4 (.bool false) := (hb9.block _ (by omega)).trans bR2
      have hrc := bR9.cell
      have hrf := bR9.frozen
      have hqd : ((want.length : Int) == (want.length : Int)) = true := by simp
      gi_wp2
      have hD2' := ((hb9.block _ hD2l).trans hK2.out : w9.heap[D2]? = some (.deferred (some [])))
      have hD' := ((hb9.block _ (by omega)).trans hKD2.out : w9.heap[D]? = some (.deferred (some [])))
      have hK' := (KeepsOthers.setCell w9 ⟨w.heap.size + 1, 0, none⟩ (.bool true)).same D2 _ hD2' rfl
      have hKa := (KeepsOthers.setCell w9 ⟨w.heap.size + 1, 0, none⟩ (.bool true)).same D _ hD' rfl
      refine ⟨by simp, .inl ⟨_, _, rfl, run_takeDeferred hK', ?_⟩⟩
      have hc5 := cell_kept (World.cell?_setCell_same' w9 ⟨w.heap.size + 1, 0, none⟩ (.bool true) (by rw [hrc]; rfl)) (grownBy_putObj' _ D2 (.deferred none)) (fun r e => by cases e; exact ⟨_, hK', rfl⟩)
      have hKb := (World.putObj_heap_other (w := w9.setCell ⟨w.heap.size + 1, 0, none⟩ (.bool true)) (r := D2) (k := D) (o := .deferred none) (by omega)).trans hKa
      have hB9 := ((hBw.trans (hb9.mono (by omega))).setCell (p := ⟨w.heap.size + 1, 0, none⟩) (Nat.le_succ _) (.bool true)).trans (belowK_b (w := w) (Nat.le_refl _) _ D2 _ (.deferred none) (by omega) hK' rfl rfl)
      refine ⟨by simp, .inl ⟨_, _, rfl, run_takeDeferred hKb, ?_⟩⟩
      have hc6 := cell_kept hc5 (grownBy_putObj' _ D (.deferred none)) (fun r e => by cases e; exact ⟨_, hKb, rfl⟩)
      exact ⟨.bool true, by simp [results, Try.f4, go_sem, hc6], rfl, hB9.trans (belowK_b (w := w) (Nat.le_refl _) _ D _ _ (by omega) hKb rfl rfl)⟩
    case stop2 =>
      rintro D2 c pre W2 hD2 ⟨kk, hkk, hpre⟩ ⟨-, hne⟩ hK2
      refine absurd ?_ hne
      rw [hpre, List.map_take, hall.out.2.1, List.length_take, Nat.min_eq_left hkk]

/-- THE ONE PURE STATEMENT of whetstonelaw03_UtfLetters: yours. -/
def whetstonelaw03_UtfLetters.Pure : Prop := ∀ (l0 : List Int) (a1 : Int), l0.length ≤ maxLen → l0.length * 1 ≤ 140737488351232 → (∀ x ∈ l0, (Lit.int .u8 x).wf = true) → (Lit.int .i64 a1).wf = true → ∃ k, whetstonelaw03_UtfLetters.f k l0 a1 = some true
theorem whetstonelaw03_UtfLetters.walk (P : whetstonelaw03_UtfLetters.Pure) (a0 : Option Addr) (len0 cap0 : Nat) (z0 : List Int) (a1 : Int) (w : World) (w0 : (a0 = none ∧ len0 = 0 ∧ cap0 = 0 ∧ z0 = []) ∨ ∃ x, a0 = some x ∧ len0 ≤ cap0 ∧ cap0 ≤ maxLen ∧ z0.length = cap0 ∧ (∀ i, i < z0.length → w.cell? (x.add i) = some (.int .u8 (z0.getD i 0))) ∧ ∀ n ∈ z0, (Lit.int .u8 n).wf = true) (y0 : len0 * 1 ≤ 140737488351232) (w1 : (Lit.int .i64 a1).wf = true) :
    Calls Try.prog 4 #[.slice a0 len0 cap0, .int .i64 a1] w fun e w' => e = .returned (.bool true) ∧ Below w.heap.size w w' := by
  obtain ⟨l0, rfl, hr0, hm0, hw0, hc0⟩ := ReadsInt.ofRowC w0
  obtain ⟨k, h⟩ := P l0 a1 hm0 y0 hw0 w1
  refine (whetstonelaw03_UtfLetters.calls k _ _ l0 a1 true w (Kd.C_of_reads (d := (0 : Int)) (h1 := fun _ => rfl) hr0) hc0 h).mono ?_
  rintro e w' ⟨rfl, hd⟩
  exact ⟨rfl, hd⟩

end Go.Proofs.Ytpphijljdoojdaa.QUtfLetters
