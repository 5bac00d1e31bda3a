-- written by wip/wprint, a program of this session
import Derived.Test.YtkbefeadmchmbaaQBigQuotientsx0
import Derived.Test.YtkbefeadmchmbaaQBigQuotientsx1
namespace Go.Proofs.Ytkbefeadmchmbaa.QBigQuotients
open Go.RowKit Go.Proofs.YtkbefeadmchmbaaW.PrintWords Go.Proofs.YtkbefeadmchmbaaW.PrintLast Go.Proofs.YtkbefeadmchmbaaW.PrintMore
attribute [local go_sem] max2_int min2_int max_two min_two max_three min_three max_four min_four   -- for this text's walks alone
set_option linter.unusedVariables false
set_option linter.unusedSimpArgs false

/-! ### nat_Cmp: function 41 -/
attribute [local go_sem] Oper.semAt_some
/-- From the limb m down: the comparison of two rows. -/
def nat_Cmp.g : Nat → List Int → List Int → Int
  | 0, _, _ => 0
  | m + 1, x, y => if x[m]?.getD 0 < y[m]?.getD 0 then -1 else if y[m]?.getD 0 < x[m]?.getD 0 then 1 else nat_Cmp.g m x y
theorem nat_Cmp.g_skip (x y : List Int) {n : Nat} : ∀ {k m : Nat}, m + k = n → (∀ p ∈ nat_limbs.down n k, x[p.1]?.getD 0 = y[p.1]?.getD 0) → nat_Cmp.g n x y = nat_Cmp.g m x y
  | 0, m, h, _ => by obtain rfl : m = n := by omega
                     rfl
  | k + 1, m, h, he => by
    rw [nat_limbs.down_succ (n := n) (k := k) (m := m) (by omega)] at he; have ih := nat_Cmp.g_skip x y (n := n) (k := k) (m := m + 1) (by omega) (fun p hp => he p (List.mem_append_left _ hp)); have hm := he ⟨m, by omega⟩ (by simp); dsimp only at hm; rw [ih, nat_Cmp.g, if_neg (by omega), if_neg (by omega)]
def nat_Cmp.f (k : Nat) (l0 : List Int) (l1 : List Int) : Option Int := (nat_trim.f k l0).bind fun x => ((nat_trim.f k l1).bind fun y => (some (if x.length < y.length then -1 else if y.length < x.length then 1 else nat_Cmp.g x.length x y)))
theorem nat_Cmp.mono : ∀ a0 a1 k, LeO (nat_Cmp.f k a0 a1) (nat_Cmp.f (k + 1) a0 a1) := by
  intro a0 a1 k
  unfold nat_Cmp.f
  exact LeO.bind (nat_trim.mono _ _) (fun _ => LeO.bind (nat_trim.mono _ _) (fun _ => LeO.refl _))
set_option maxHeartbeats 8000000 in
set_option maxRecDepth 100000 in
theorem nat_Cmp.calls (k : Nat) (A0 : Option Addr) (c0 : Nat) (l0 : List Int) (A1 : Option Addr) (c1 : Nat) (l1 : List Int) (r : Int) (w : World) (hr0 : Kd.C (Kd.int .u32) w A0 l0.length l0) (hc0 : l0.length ≤ c0) (hr1 : Kd.C (Kd.int .u32) w A1 l1.length l1) (hc1 : l1.length ≤ c1) (h : nat_Cmp.f k l0 l1 = some r) :
    Calls Try.prog 41 #[.slice A0 l0.length c0, .slice A1 l1.length c1] w fun e w' => e = .returned (.int .i64 r) ∧ Below w.heap.size w w' := by
  obtain ⟨x, hx, h⟩ := Option.bind_eq_some_iff.mp h; obtain ⟨y, hy, h⟩ := Option.bind_eq_some_iff.mp h; have hr := Option.some.inj h; clear h; refine (callsIn_wide (n := 4)).1 ?_; refine callsIn_of_wp_marks Try.func41 rfl trivial ?_ rfl; simp only [Try.ntmps41, List.size_toArray, List.length_cons, List.length_nil, Nat.reduceAdd, Nat.reduceSub, Array.replicate_succ, Array.replicate_zero, List.push_toArray, List.append_toArray, List.nil_append, List.cons_append]; have hV0 : Kd.V (Kd.int .u32) 70 w w.heap.size (fun q => q < w.heap.size) (.slice A0 l0.length c0) l0 := Kd.V_mk hc0 (Kd.C_F (Kd.heap_int .u32) hr0); have hV1 : Kd.V (Kd.int .u32) 70 w w.heap.size (fun q => q < w.heap.size) (.slice A1 l1.length c1) l1 := Kd.V_mk hc1 (Kd.C_F (Kd.heap_int .u32) hr1)
  gi_wp2
  have bB := (Boxed.new w 22 (.slice A1 l1.length c1)).alloc (.cells #[.int .i64 0] 3); have bR := Boxed.new (w.alloc (.cells #[.slice A1 l1.length c1] 22)) 3 (.int .i64 0); rw [World.size_alloc] at bR; have hB0 : Below w.heap.size w ((w.alloc (.cells #[.slice A1 l1.length c1] 22)).alloc (.cells #[.int .i64 0] 3)) := ((Below.refl _ w).alloc (Nat.le_refl _) _).alloc (by simp) _; have hV0' := Kd.V_below hV0 hB0; have hV1' := Kd.V_below hV1 hB0
  have hz0 : ((w.alloc (.cells #[.slice A1 l1.length c1] 22)).alloc (.cells #[.int .i64 0] 3)).heap.size = w.heap.size + 2 := by simp
  generalize (w.alloc (.cells #[.slice A1 l1.length c1] 22)).alloc (.cells #[.int .i64 0] 3) = W0 at *; have hbc := bB.cell; have hbf := bB.frozen
  rename_i K0 hK0
  have rest : ∀ (A3 : Option Addr) (c3 : Nat) (A4 : Option Addr) (c4 : Nat) (w2 : World), Boxed w2 w.heap.size 22 (.slice A1 l1.length c1) → Boxed w2 (w.heap.size + 1) 3 (.int .i64 0) → Below w.heap.size w w2 →
      Kd.V (Kd.int .u32) 70 w2 w.heap.size (fun q => q < w.heap.size ∨ w.heap.size + 2 ≤ q) (.slice A3 x.length c3) x → Kd.V (Kd.int .u32) 70 w2 w.heap.size (fun q => q < w.heap.size ∨ w.heap.size + 2 ≤ q) (.slice A4 y.length c4) y → K0 { tmps := #[.slice A3 x.length c3, .slice A1 l1.length c1, undef, .pointer (some ⟨w.heap.size, 0, none⟩), .pointer (some ⟨w.heap.size + 1, 0, none⟩), undef, undef, .slice A0 l0.length c0, .slice A3 x.length c3, .slice A1 l1.length c1, .slice A4 y.length c4, undef, undef, undef, undef, undef, undef, undef, undef, undef, undef, undef, undef, undef, undef, undef, undef, undef, undef, undef, undef, undef, undef, undef, undef, undef, undef, undef, undef, undef, undef], defers := [] } (w2.setCell ⟨w.heap.size, 0, none⟩ (.slice A4 y.length c4)) := by
    intro A3 c3 A4 c4 w2 bB2 bR2 hB2 hX hY; refine hK0 _ _ ?_; dsimp only; have bB3 := bB2.set (.slice A4 y.length c4); have bR3 := bR2.other (B' := w.heap.size) (by omega) (.slice A4 y.length c4); have hB3 := hB2.setCell (p := ⟨w.heap.size, 0, none⟩) (Nat.le_refl _) (.slice A4 y.length c4)
    have hne : ∀ q, q < w.heap.size ∨ w.heap.size + 2 ≤ q → q ≠ w.heap.size := fun q h => by omega
    have hX3 := Kd.V_far hX (p := ⟨w.heap.size, 0, none⟩) hne (.slice A4 y.length c4); have hY3 := Kd.V_far hY (p := ⟨w.heap.size, 0, none⟩) hne (.slice A4 y.length c4); clear hK0 bB2 bR2 hB2 hX hY; generalize w2.setCell ⟨w.heap.size, 0, none⟩ (.slice A4 y.length c4) = W3 at *; have hx3 := Kd.V_reads' hX3; have hy3 := Kd.V_reads' hY3; have hxl : x.length ≤ 9223372036854775807 := hx3.2.2.2.1; have hyl : y.length ≤ 9223372036854775807 := hy3.2.2.2.1; have hbc := bB3.cell; have hrc := bR3.cell; have hrf := bR3.frozen
    gi_wp2
    · refine ⟨.int .i64 (-1), ?_, ?_⟩
      · have hc5 := World.cell?_setCell_same' W3 ⟨w.heap.size + 1, 0, none⟩ (.int .i64 (-1)) (by rw [hrc]; rfl)
        simp [results, Try.f41, go_sem, hc5]
      · rw [if_pos (by omega)] at hr
        subst hr; exact ⟨rfl, hB3.setCell (p := ⟨w.heap.size + 1, 0, none⟩) (Nat.le_succ _) _⟩
    · refine ⟨.int .i64 1, ?_, ?_⟩
      · have hc5 := World.cell?_setCell_same' W3 ⟨w.heap.size + 1, 0, none⟩ (.int .i64 1) (by rw [hrc]; rfl)
        simp [results, Try.f41, go_sem, hc5]
      · rw [if_neg (by omega), if_pos (by omega)] at hr
        subst hr; exact ⟨rfl, hB3.setCell (p := ⟨w.heap.size + 1, 0, none⟩) (Nat.le_succ _) _⟩
    · rw [if_neg (by omega), if_neg (by omega)] at hr
      refine ⟨trivial, ?_⟩
      gi_at_call 60
      refine (nat_limbs_in Fence.wide _ trivial rfl _ _ _ _).mono ?_; rintro e w' ⟨rfl, rfl⟩; have bN := Boxed.new W3 22 (.slice A3 x.length c3); have bB4 := bB3.alloc (.cells #[.slice A3 x.length c3] 22); have bR4 := bR3.alloc (.cells #[.slice A3 x.length c3] 22); have hB4 : Below w.heap.size w (W3.alloc (.cells #[.slice A3 x.length c3] 22)) := hB3.alloc hB3.size _; have hx4 := nat_limbs.At.of (Kd.V_reads' (Kd.V_alloc hX3 (.cells #[.slice A3 x.length c3] 22))).2.2; have hy4 := nat_limbs.At.of (Kd.V_reads' (Kd.V_alloc hY3 (.cells #[.slice A3 x.length c3] 22))).2.2
      have hlt4 : W3.heap.size < (W3.alloc (.cells #[.slice A3 x.length c3] 22)).heap.size := by simp
      generalize (W3.alloc (.cells #[.slice A3 x.length c3] 22)) = W4 at *
      gi_wp2
      refine wpIn_rangeFunc_ownG rfl (by omega) (gf := 66) (lb := #[.pointer (some ⟨W3.heap.size, 0, none⟩)]) rfl trivial (enters_of Try.func66 (by kernel_rfl) rfl)
        (nat_limbs_stops Fence.wide 3 trivial rfl (by omega) W3.heap.size W4.heap.size c3 A3 x hxl (Below W4.heap.size) (Below.refl _) (fun h h' => h.trans h') (fun h p hp => h.cell (hp.elim id (fun e => e ▸ hlt4))) W4 hlt4 (Nat.le_refl _) bN.cell hx4) belowK_t (belowK_b (Nat.le_refl _)) (Below.refl _ _) (fun _ => rfl)
        (fun pre W => (∀ p ∈ pre, x[p.1]?.getD 0 = y[p.1]?.getD 0) ∧ Below W4.heap.size W4 W)
        (fun c pre W => (c = .ret ∧ ∃ ini last, pre = ini ++ [last] ∧ (∀ p ∈ ini, x[p.1]?.getD 0 = y[p.1]?.getD 0) ∧ ((x[last.1]?.getD 0 < y[last.1]?.getD 0 ∧ W.cell? ⟨w.heap.size + 1, 0, none⟩ = some (.int .i64 (-1))) ∨ (y[last.1]?.getD 0 < x[last.1]?.getD 0 ∧ W.cell? ⟨w.heap.size + 1, 0, none⟩ = some (.int .i64 1)))) ∧ Below w.heap.size W4 W)
        (OwnFrom.and (Own.from (fun s A B row hs hg hr => hs) _) (ownFrom_below (Nat.le_refl _) (Nat.le_refl _)))
        (fun c => OwnFrom.and (Own.from (fun s A B row hs hg hr => by obtain ⟨hc, ini, last, e1, e2, e3⟩ := hs; exact ⟨hc, ini, last, e1, e2, e3.imp (fun h => ⟨h.1, cell_kept h.2 hg hr⟩) (fun h => ⟨h.1, cell_kept h.2 hg hr⟩)⟩) _) (ownFrom_below hB4.size hB4.size))
        ⟨by simp, Below.refl _ _⟩
        (fun z => { tmps := #[.slice A3 x.length c3, .slice A1 l1.length c1, undef, .pointer (some ⟨w.heap.size, 0, none⟩), .pointer (some ⟨w.heap.size + 1, 0, none⟩), .int .i64 (z.1 : Int), .int .u32 (x[z.1]?.getD 0), .slice A0 l0.length c0, .slice A3 x.length c3, .slice A1 l1.length c1, .slice A4 y.length c4, .bool false, .slice A3 x.length c3, .int .i64 x.length, .slice A4 y.length c4, .int .i64 y.length, .bool false, .bool false, .slice A3 x.length c3, .int .i64 x.length, .slice A4 y.length c4, .int .i64 y.length, .bool false, .slice A3 x.length c3, .func (.func 66) #[] #[.pointer (some ⟨W3.heap.size, 0, none⟩)], .int .i64 (z.1 : Int), .int .u32 (x[z.1]?.getD 0), undef, undef, undef, undef, undef, undef, undef, undef, undef, undef, undef, undef, undef, undef], defers := [] }) ?assign ?body ?done ?stop
      case assign =>
        intro l z W K hK
        have hgx : x[z.1]?.getD 0 = x[z.1] := by simp
        dsimp only at hK; rw [hgx] at hK
        gi_wp2
        exact hK
      case body =>
        rintro l pre z W ⟨hp, hB⟩ _; have hbc5 := (hB.cell (p := ⟨w.heap.size, 0, none⟩) bB4.lt).trans bB4.cell; have hrc5 := (hB.cell (p := ⟨w.heap.size + 1, 0, none⟩) bR4.lt).trans bR4.cell; have hrf5 := (hB.frozen (p := ⟨w.heap.size + 1, 0, none⟩) bR4.lt).trans bR4.frozen
        have hz : z.1 < y.length := by have := z.2; omega
        rcases hy4 with rfl | ⟨ad, rfl, hbd, hcs⟩
        · exact absurd hz (by simp)
        have hcy := (hB.cell (p := ad.add z.1) (by rw [add_block]; exact hbd)).trans (hcs z.1 hz)
        have hgx : x[z.1]?.getD 0 = x[z.1] := by simp
        have hgy : y[z.1]?.getD 0 = y[z.1] := by simp [hz]
        gi_wp2
        · have hlt : x[z.1]?.getD 0 < y[z.1]?.getD 0 := by rw [hgx, hgy]; assumption
          exact ⟨(KeepsOthers.setCell _ _ _).from _, ⟨rfl, pre, z, rfl, hp, .inl ⟨hlt, World.cell?_setCell_same' _ _ _ (by rw [hrc5]; rfl)⟩⟩, (hB.mono hB4.size).setCell (p := ⟨w.heap.size + 1, 0, none⟩) (Nat.le_succ _) _⟩
        · have hlt : y[z.1]?.getD 0 < x[z.1]?.getD 0 := by rw [hgx, hgy]; assumption
          exact ⟨(KeepsOthers.setCell _ _ _).from _, ⟨rfl, pre, z, rfl, hp, .inr ⟨hlt, World.cell?_setCell_same' _ _ _ (by rw [hrc5]; rfl)⟩⟩, (hB.mono hB4.size).setCell (p := ⟨w.heap.size + 1, 0, none⟩) (Nat.le_succ _) _⟩
        · have heq : x[z.1]?.getD 0 = y[z.1]?.getD 0 := by rw [hgx, hgy]; omega
          exact ⟨KeepsFrom.refl _ _, Below.refl _ _, fun p hp' => (List.mem_append.1 hp').elim (hp p) (fun e => by simp at e; subst e; exact heq), hB⟩
      case done =>
        rintro D ys W hD rfl ⟨hne, hB⟩ hK; have hrc5 := (hB.cell (p := ⟨w.heap.size + 1, 0, none⟩) bR4.lt).trans bR4.cell; have hrf5 := (hB.frozen (p := ⟨w.heap.size + 1, 0, none⟩) bR4.lt).trans bR4.frozen
        gi_wp2
        have hK' := (KeepsOthers.setCell W ⟨w.heap.size + 1, 0, none⟩ (.int .i64 0)).same D _ hK rfl; refine ⟨by simp, .inl ⟨_, _, rfl, run_takeDeferred hK', ?_⟩⟩; have hc5 := cell_kept (World.cell?_setCell_same' W ⟨w.heap.size + 1, 0, none⟩ (.int .i64 0) (by rw [hrc5]; rfl)) (grownBy_putObj' _ D (.deferred none)) (fun r e => by cases e; exact ⟨_, hK', rfl⟩); have hg := nat_Cmp.g_skip x y (n := x.length) (k := x.length) (m := 0) (by omega) hne
        have hr0 : r = 0 := by rw [← hr, hg]; rfl
        subst hr0; refine ⟨.int .i64 0, ?_, rfl, ?_⟩
        · simp [results, Try.f41, go_sem, hc5]
        · have hBW : Below w.heap.size w W := hB4.trans (hB.mono hB4.size)
          exact (hBW.setCell (p := ⟨w.heap.size + 1, 0, none⟩) (Nat.le_succ _) _).trans (belowK_b (w := w) (Nat.le_refl _) _ D _ _ (Nat.le_trans hB4.size hD) hK' rfl rfl)
      case stop =>
        rintro D c pre W hD ⟨k', hk', rfl⟩ ⟨⟨rfl, ini, last, e1, e2, e3⟩, hB⟩ hK
        gi_wp2
        refine ⟨by simp, .inl ⟨_, _, rfl, run_takeDeferred hK, ?_⟩⟩; have hB5 : Below w.heap.size w (W.putObj D (.deferred none)) := (hB4.trans hB).trans (belowK_b (w := w) (Nat.le_refl _) W D _ _ (Nat.le_trans hB4.size hD) hK rfl rfl)
        obtain ⟨k, rfl⟩ : ∃ k, k' = k + 1 := by
          cases k' with
          | zero => simp [nat_limbs.down] at e1
          | succ k => exact ⟨k, rfl⟩
        obtain ⟨m, hm⟩ : ∃ m, m + 1 + k = x.length := ⟨x.length - 1 - k, by omega⟩; rw [nat_limbs.down_succ hm] at e1; obtain ⟨rfl, e5⟩ := List.append_inj' e1 rfl
        obtain rfl : (⟨m, by omega⟩ : Fin x.length) = last := by simpa using e5
        have hg := nat_Cmp.g_skip x y (n := x.length) (k := k) (m := m + 1) (by omega) e2
        rcases e3 with ⟨h1, h2⟩ | ⟨h1, h2⟩
        · have hc5 := cell_kept h2 (grownBy_putObj' _ D (.deferred none)) (fun r e => by cases e; exact ⟨_, hK, rfl⟩)
          have hrr : r = -1 := by rw [← hr, hg, nat_Cmp.g, if_pos h1]
          subst hrr; exact ⟨.int .i64 (-1), by simp [results, Try.f41, go_sem, hc5], rfl, hB5⟩
        · have hc5 := cell_kept h2 (grownBy_putObj' _ D (.deferred none)) (fun r e => by cases e; exact ⟨_, hK, rfl⟩)
          have hrr : r = 1 := by
            have h1' := h1; dsimp only at h1'; rw [← hr, hg, nat_Cmp.g, if_neg (by omega), if_pos h1]
          subst hrr; exact ⟨.int .i64 1, by simp [results, Try.f41, go_sem, hc5], rfl, hB5⟩
  have hmx : Try.prog.follows .mixedOrders = true := by kernel_rfl
  refine wpIn_region_any (by assumption) ?_
  change wpAnyIn _ _ _ _ _ _ _ _ _ (World.drew _)
  refine wpAnyIn_ready (rs := [0,2]) (by kernel_rfl) (by simp) ?_; refine AllReadyIn.cons rfl (fun K hK => ?_) ?_
  · go_simp
    refine hK _ _ ?_; clear hK K; refine wpAnyIn_ready (rs := [1,2]) (by kernel_rfl) (by simp) ?_; refine AllReadyIn.cons rfl (fun K hK => ?_) ?_
    · go_simp
      refine ⟨trivial, ?_⟩
      gi_at_call 40
      refine (callsIn_wide.2 (nat_trim.calls k (fun q => q < w.heap.size) _ _ l0 x _ (Kd.V_drew hV0') hx)).mono ?_; rintro e w1 ⟨v1, rfl, ho1, hb1⟩; obtain ⟨A3, c3, rfl⟩ := Kd.V_slice ho1; have bB1 : Boxed w1 _ _ _ := (hb1.block _ bB.lt).trans bB; have bR1 : Boxed w1 _ _ _ := (hb1.block _ bR.lt).trans bR; have hbc1 := bB1.cell; have hbf1 := bB1.frozen; have hV1'' := Kd.V_below (Kd.V_drew hV1') hb1; refine hK _ _ ?_; clear hK K; refine wpAnyIn_ready (rs := [2]) (by kernel_rfl) (by simp) ?_; refine AllReadyIn.cons rfl (fun K hK => ?_) AllReadyIn.nil
      go_simp
      refine hK _ _ ?_; clear hK K; refine wpAnyIn_ready (rs := [3]) (by kernel_rfl) (by simp) ?_; refine AllReadyIn.cons rfl (fun K hK => ?_) AllReadyIn.nil
      go_simp
      refine ⟨trivial, ?_⟩
      gi_at_call 40
      refine (callsIn_wide.2 (nat_trim.calls k (fun q => q < w.heap.size) _ _ l1 y _ hV1'' hy)).mono ?_; rintro e w2 ⟨v2, rfl, ho2, hb2⟩; obtain ⟨A4, c4, rfl⟩ := Kd.V_slice ho2; have bB2 : Boxed w2 _ _ _ := (hb2.block _ bB1.lt).trans bB1; have bR2 : Boxed w2 _ _ _ := (hb2.block _ bR1.lt).trans bR1; have hbc2 := bB2.cell; have hbf2 := bB2.frozen
      have hsz1 : w.heap.size + 2 ≤ w1.heap.size := by rw [← hz0]; exact hb1.size
      refine hK _ _ ?_; clear hK K; refine wpAnyIn_ready (rs := [4]) (by kernel_rfl) (by simp) ?_; refine AllReadyIn.cons rfl (fun K hK => ?_) AllReadyIn.nil
      go_simp
      refine hK _ _ ?_; clear hK K; refine wpAnyIn_ready (rs := [5]) (by kernel_rfl) (by simp) ?_; refine AllReadyIn.cons rfl (fun K hK => ?_) AllReadyIn.nil
      go_simp
      refine hK _ _ ?_; clear hK K; refine wpAnyIn_done (by kernel_rfl) ?_ _; exact rest A3 c3 A4 c4 w2 bB2 bR2 (hB0.trans (((below_drew (Below.refl _ W0)).trans hb1 |>.trans (hb2.mono hb1.size)).mono hB0.size)) (Kd.V_below (Kd.V_mono ho1 (fun q hq => hq.imp id (fun h => Nat.le_trans (Nat.le_of_eq hz0.symm) h))) hb2) (Kd.V_mono ho2 (fun q hq => hq.imp id (fun h => Nat.le_trans hsz1 h)))
    · refine AllReadyIn.cons rfl (fun K hK => ?_) AllReadyIn.nil
      go_simp
      refine hK _ _ ?_; clear hK K; refine wpAnyIn_ready (rs := [1]) (by kernel_rfl) (by simp) ?_; refine AllReadyIn.cons rfl (fun K hK => ?_) AllReadyIn.nil
      go_simp
      refine ⟨trivial, ?_⟩
      gi_at_call 40
      refine (callsIn_wide.2 (nat_trim.calls k (fun q => q < w.heap.size) _ _ l0 x _ (Kd.V_drew hV0') hx)).mono ?_; rintro e w1 ⟨v1, rfl, ho1, hb1⟩; obtain ⟨A3, c3, rfl⟩ := Kd.V_slice ho1; have bB1 : Boxed w1 _ _ _ := (hb1.block _ bB.lt).trans bB; have bR1 : Boxed w1 _ _ _ := (hb1.block _ bR.lt).trans bR; have hbc1 := bB1.cell; have hbf1 := bB1.frozen; have hV1'' := Kd.V_below (Kd.V_drew hV1') hb1; refine hK _ _ ?_; clear hK K; refine wpAnyIn_ready (rs := [3]) (by kernel_rfl) (by simp) ?_; refine AllReadyIn.cons rfl (fun K hK => ?_) AllReadyIn.nil
      go_simp
      refine ⟨trivial, ?_⟩
      gi_at_call 40
      refine (callsIn_wide.2 (nat_trim.calls k (fun q => q < w.heap.size) _ _ l1 y _ hV1'' hy)).mono ?_; rintro e w2 ⟨v2, rfl, ho2, hb2⟩; obtain ⟨A4, c4, rfl⟩ := Kd.V_slice ho2; have bB2 : Boxed w2 _ _ _ := (hb2.block _ bB1.lt).trans bB1; have bR2 : Boxed w2 _ _ _ := (hb2.block _ bR1.lt).trans bR1; have hbc2 := bB2.cell; have hbf2 := bB2.frozen
      have hsz1 : w.heap.size + 2 ≤ w1.heap.size := by rw [← hz0]; exact hb1.size
      refine hK _ _ ?_; clear hK K; refine wpAnyIn_ready (rs := [4]) (by kernel_rfl) (by simp) ?_; refine AllReadyIn.cons rfl (fun K hK => ?_) AllReadyIn.nil
      go_simp
      refine hK _ _ ?_; clear hK K; refine wpAnyIn_ready (rs := [5]) (by kernel_rfl) (by simp) ?_; refine AllReadyIn.cons rfl (fun K hK => ?_) AllReadyIn.nil
      go_simp
      refine hK _ _ ?_; clear hK K; refine wpAnyIn_done (by kernel_rfl) ?_ _; exact rest A3 c3 A4 c4 w2 bB2 bR2 (hB0.trans (((below_drew (Below.refl _ W0)).trans hb1 |>.trans (hb2.mono hb1.size)).mono hB0.size)) (Kd.V_below (Kd.V_mono ho1 (fun q hq => hq.imp id (fun h => Nat.le_trans (Nat.le_of_eq hz0.symm) h))) hb2) (Kd.V_mono ho2 (fun q hq => hq.imp id (fun h => Nat.le_trans hsz1 h)))
  · refine AllReadyIn.cons rfl (fun K hK => ?_) AllReadyIn.nil
    go_simp
    refine hK _ _ ?_; clear hK K; refine wpAnyIn_ready (rs := [0]) (by kernel_rfl) (by simp) ?_; refine AllReadyIn.cons rfl (fun K hK => ?_) AllReadyIn.nil
    go_simp
    refine hK _ _ ?_; clear hK K; refine wpAnyIn_ready (rs := [1]) (by kernel_rfl) (by simp) ?_; refine AllReadyIn.cons rfl (fun K hK => ?_) AllReadyIn.nil
    go_simp
    refine ⟨trivial, ?_⟩
    gi_at_call 40
    refine (callsIn_wide.2 (nat_trim.calls k (fun q => q < w.heap.size) _ _ l0 x _ (Kd.V_drew hV0') hx)).mono ?_; rintro e w1 ⟨v1, rfl, ho1, hb1⟩; obtain ⟨A3, c3, rfl⟩ := Kd.V_slice ho1; have bB1 : Boxed w1 _ _ _ := (hb1.block _ bB.lt).trans bB; have bR1 : Boxed w1 _ _ _ := (hb1.block _ bR.lt).trans bR; have hbc1 := bB1.cell; have hbf1 := bB1.frozen; have hV1'' := Kd.V_below (Kd.V_drew hV1') hb1; refine hK _ _ ?_; clear hK K; refine wpAnyIn_ready (rs := [3]) (by kernel_rfl) (by simp) ?_; refine AllReadyIn.cons rfl (fun K hK => ?_) AllReadyIn.nil
    go_simp
    refine ⟨trivial, ?_⟩
    gi_at_call 40
    refine (callsIn_wide.2 (nat_trim.calls k (fun q => q < w.heap.size) _ _ l1 y _ hV1'' hy)).mono ?_; rintro e w2 ⟨v2, rfl, ho2, hb2⟩; obtain ⟨A4, c4, rfl⟩ := Kd.V_slice ho2; have bB2 : Boxed w2 _ _ _ := (hb2.block _ bB1.lt).trans bB1; have bR2 : Boxed w2 _ _ _ := (hb2.block _ bR1.lt).trans bR1; have hbc2 := bB2.cell; have hbf2 := bB2.frozen
    have hsz1 : w.heap.size + 2 ≤ w1.heap.size := by rw [← hz0]; exact hb1.size
    refine hK _ _ ?_; clear hK K; refine wpAnyIn_ready (rs := [4]) (by kernel_rfl) (by simp) ?_; refine AllReadyIn.cons rfl (fun K hK => ?_) AllReadyIn.nil
    go_simp
    refine hK _ _ ?_; clear hK K; refine wpAnyIn_ready (rs := [5]) (by kernel_rfl) (by simp) ?_; refine AllReadyIn.cons rfl (fun K hK => ?_) AllReadyIn.nil
    go_simp
    refine hK _ _ ?_; clear hK K; refine wpAnyIn_done (by kernel_rfl) ?_ _; exact rest A3 c3 A4 c4 w2 bB2 bR2 (hB0.trans (((below_drew (Below.refl _ W0)).trans hb1 |>.trans (hb2.mono hb1.size)).mono hB0.size)) (Kd.V_below (Kd.V_mono ho1 (fun q hq => hq.imp id (fun h => Nat.le_trans (Nat.le_of_eq hz0.symm) h))) hb2) (Kd.V_mono ho2 (fun q hq => hq.imp id (fun h => Nat.le_trans hsz1 h)))

end Go.Proofs.Ytkbefeadmchmbaa.QBigQuotients
