/-
The walk over the program's texts, told with what its values say: a part of it. No further condition.
-/
import Derived.Test.YtmjbnfldehbmcaaDoorAbDR
import Derived.Test.YtmjbnfldehbmcaaDoorAbDS
namespace Go.Proofs.YtmjbnfldehbmcaaDoor
open Go.Proofs.YtmjbnfldehbmcaaDoor.Ab
set_option linter.unusedVariables false
theorem Msgs.cells {σ : St} {es : List (List V)} {ms : List Msg} (h : Msgs σ es ms) {v : V} (ho : Sl σ 2 v es) {i : Nat} {k : Int} {s : List UInt8} (hi : ms[i]? = some (k, s)) :
    ∃ b, faV 0 (elA v i) = some (celA v i 0) ∧ faV 1 (elA v i) = some (celA v i 1) ∧ ldV σ (celA v i 0) = some (.int .i64 k) ∧ ldV σ (celA v i 1) = some b ∧ Bs σ b s ∧ ∀ kk, iaV σ 2 v (.int kk i) = some (elA v i) := by
  obtain ⟨b, hb, sb⟩ := h.get hi
  have hil := (List.getElem?_eq_some_iff.1 hb).1
  refine ⟨b, ho.rd.fa hil, ho.rd.fa hil, by rw [ho.rd.cel hb]; rfl, by rw [ho.rd.cel hb]; rfl, sb.rd, fun kk => ho.rd.at hil⟩
theorem begin_len (r : R) : (beginS r).2.length ≤ 1 := by
  unfold beginS brk; (repeat' split) <;> simp
theorem step_len (r : R) (c : UInt8) : (stepS r c).2.length ≤ 1 := by
  unfold stepS
  split
  · unfold headerS
    split
    · simp [brk]
    · split
      · simp
      · split
        · simp [brk]
        · split
          · exact begin_len _
          · split <;> simp [brk]
  · split
    · unfold takeS; (repeat' split) <;> simp
    · simp
theorem feed_len : ∀ (s : List UInt8) (r : R), (feedS r s).2.length ≤ s.length
  | [], r => by simp [feedS]
  | c :: s, r => by
    have h1 := step_len r c
    have h2 := feed_len s (stepS r c).1
    simp only [feedS, List.length_append, List.length_cons]
    omega
theorem ends_c (σ : St) (v1 v2 : V) (b1 b2 : List UInt8) (hv1 : ∀ σ, Bs σ v1 b1) (hr1 : v1.row = none) (hv2 : ∀ σ, Bs σ v2 b2) (hr2 : v2.row = none) (ht : Tab σ) : CCalls Tryd.prog 5 [v1, v2] σ (fun o σ' => o = .ret (.bool true)) := by
  refine w_fn ok5 (by simp [c5]) fun Q hn hr hpq => ?_
  simp only [c5] at *
  have hq : ∀ f' σ', f'.ds = [] → f'.env 4 = .bool true → Q .ret f' σ' := fun f σ' h1 h2 => hr f _ ⟨h1, _, by simp [retV, resL, resV, one, h2], rfl⟩
  clear hn hr hpq
  have l1 := (hv1 σ).len
  have l2 := (hv2 σ).len
  refine w_seq ?_
  refine w_regk [0, 1] fun K KP hk hkp => ?_
  simp
  apply hk; clear hk hkp K KP
  refine w_seq ?_
  refine w_seq ?_
  refine w_regk [0, 1, 20] fun K KP hk hkp => ?_
  simp
  refine (ccalls_base (framed_c σ)).mono ?_
  rintro _ σ1 ⟨rfl, hW1⟩
  have hgo : K [v1, v2, .bool (decide ((5000 : Int) < b1.length ∨ (5000 : Int) < b2.length))] [] σ1 := by
    apply hk; clear hk hkp K KP
    by_cases hc : (5000 : Int) < b1.length ∨ (5000 : Int) < b2.length
    · refine w_yes (vT hc) ?_
      refine w_seq ?_
      refine w_regk [4] fun K KP hk hkp => ?_
      simp
      refine (framed_c σ1).mono ?_
      rintro _ σ2 rfl
      simp
      exact hk _ _ _ (w_ret (hq _ _ rfl (by simp)))
    refine w_no (vF hc) ?_
    refine w_skip ?_
    refine w_seq ?_
    refine w_regk [0, 1, 5] fun K KP hk hkp => ?_
    simp
    apply hk; clear hk hkp K KP
    refine w_seq ?_
    refine w_seq ?_
    refine w_regk [0, 1, 30] fun K KP hk hkp => ?_
    simp
    refine (feed_nil σ1 v1).mono ?_
    rintro _ σ2 ⟨rfl, e⟩
    obtain rfl := e.symm
    clear e
    simp
    refine (over_nil σ1).mono ?_
    rintro _ σ2 ⟨rfl, e⟩
    obtain rfl := e.symm
    clear e
    simp
    apply hk; clear hk hkp K KP
    refine w_no rfl ?_
    refine w_skip ?_
    refine w_seq ?_
    refine w_regk [0, 1, 6] fun K KP hk hkp => ?_
    simp
    refine (ccalls_base (new_c σ1)).mono ?_
    rintro _ σ2 ⟨⟨rfl, o2, n2, k2⟩, hW2⟩
    simp
    apply hk; clear hk hkp K KP
    generalize σ1.n = p at o2
    refine w_seq ?_
    refine w_regk [1, 6, 7] fun K KP hk hkp => ?_
    simp
    refine (ccalls_base (feed_c o2 good0 (hv1 σ2) (fun l e => by rw [hr1] at e; simp at e) (by omega))).mono ?_
    rintro _ σ3 ⟨⟨lv, bv, ov, oes, rfl, h3, g3, f3⟩, hW3⟩
    simp
    apply hk; clear hk hkp K KP
    have hk := kinds_feed b1 r0 (by decide)
    obtain ⟨W, hW⟩ : ∃ W, W = (feedS r0 b1).2 := ⟨_, rfl⟩
    obtain ⟨r1, hr1'⟩ : ∃ r1, r1 = (feedS r0 b1).1 := ⟨_, rfl⟩
    have hWb : W.length ≤ b1.length := by rw [hW]; exact feed_len b1 r0
    unfold Kinds at hk
    rw [← hW, ← hr1'] at h3 hk
    rw [← hr1'] at g3
    clear hW hr1' o2
    have last : ∀ (i : Nat) k s, W[i]? = some (k, s) → k = 3 → i + 1 = W.length := fun i k s hi hk3 => by
      rcases hk with ⟨_, hn⟩ | ⟨_, ms, rfl, hn⟩
      · exact absurd hk3 (hn _ (List.mem_of_getElem? hi))
      · have hil := (List.getElem?_eq_some_iff.1 hi).1
        simp at hil ⊢
        rcases Nat.lt_or_ge i ms.length with h | h
        · rw [List.getElem?_append_left h] at hi
          exact absurd hk3 (hn _ (List.mem_of_getElem? hi))
        · omega
    have lov : lenV ov = some (.int .i64 W.length) := by rw [h3.out.rd.len, h3.msgs.len]
    have hp3 := h3.own.at_
    simp only [cel] at hp3
    refine w_seq ?_
    refine w_seq ?_
    refine w_regk [1, 6, 7, 8] fun K KP hk hkp => ?_
    simp
    apply hk; clear hk hkp K KP
    refine w_block fun Q0 hn0 he0 hx0 hr0 hp0 => ?_
    refine w_loopk [1, 6, 7, 8] (fun n vs σ' => σ' = σ3 ∧ ∃ i, i + n = W.length ∧ vs = [v2, .ptr p 0 0, ov, .int .i64 i]) W.length ⟨rfl, 0, by simp, by simp⟩ ?_
    rintro n vs σ4 ⟨e4, i, hi, rfl⟩ Qz z1 z2 z3 z4
    subst e4
    refine w_seq ?_
    refine w_seq ?_
    refine w_regk [1, 6, 7, 8, 38] fun K KP hk hkp => ?_
    simp [lov]
    apply hk; clear hk hkp K KP
    by_cases hiw : i < W.length
    rotate_left
    · refine w_no (vF hiw) ?_
      refine w_exit (z2 _ _ _ (he0 _ _ ?_))
      refine w_keep [1, 6, 7] ?_
      have hw : 0 < W.length → IntKind.i64.wrap ((W.length : Int) - 1) = ((W.length - 1 : Nat) : Int) := fun h => by rw [IntWalk.i64_in _ (by omega)]; omega
      refine w_seq ?_
      refine w_seq ?_
      refine w_regk [1, 6, 7, 56] fun K KP hk' hkp => ?_
      simp
      refine (over_c hp3).mono ?_
      rintro _ σ5 ⟨rfl, e⟩
      obtain rfl := e.symm
      clear e
      simp
      apply hk'; clear hk' hkp K KP
      by_cases hst : r1.st = 3
      rotate_left
      · have hno : NoB W := by
          rcases hk with ⟨_, h⟩ | ⟨h, _⟩
          · exact h
          · exact absurd h hst
        refine w_yes (by simp [hst]) ?_
        refine w_seq ?_
        refine w_regk [4] fun K KP hk' hkp => ?_
        by_cases hW0 : W.length = 0
        · simp [lov, hW0]
          exact hk' _ _ _ (w_ret (hq _ _ rfl (by simp)))
        · obtain ⟨⟨k, s⟩, hks⟩ : ∃ x, W[W.length - 1]? = some x := ⟨_, List.getElem?_eq_getElem (by omega)⟩
          obtain ⟨bb, a1, a2, a3, a4, a5, a6⟩ := h3.msgs.cells h3.out hks
          have a6' := a6 .i64
          have hk3 : k ≠ 3 := hno _ (List.mem_of_getElem? hks)
          have hw' := hw (by omega)
          simp [lov, hW0, hw', a1, a3, a6', hk3]
          exact hk' _ _ _ (w_ret (hq _ _ rfl (by simp)))
      refine w_no (by simp [hst]) ?_
      refine w_skip ?_
      obtain ⟨ms, hms, hno⟩ : ∃ ms, W = ms ++ [(3, [])] ∧ NoB ms := by
        rcases hk with ⟨h, _⟩ | ⟨_, h⟩
        · exact absurd hst h
        · exact h
      have hWl : 0 < W.length := by rw [hms]; simp
      have hks : W[W.length - 1]? = some (3, []) := by rw [hms]; simp
      obtain ⟨bb, a1, a2, a3, a4, a5, a6⟩ := h3.msgs.cells h3.out hks
      have a6' := a6 .i64
      have hw' := hw hWl
      refine w_seq ?_
      refine w_regk [4] fun K KP hk' hkp => ?_
      simp [lov, hWl, hw', a1, a3, a6']
      refine (ccalls_base (feed_c h3.own g3 (hv2 σ4) (fun l e => by rw [hr2] at e; simp at e) (by omega))).mono ?_
      rintro _ σ5 ⟨⟨lv5, bv5, ov5, oes5, rfl, h5, g5, f5⟩, hW5⟩
      rw [feedS_stop _ _ hst] at h5 g5
      have l5 : lenV ov5 = some (.int .i64 0) := by rw [h5.out.rd.len, h5.msgs.len]; rfl
      simp [l5]
      refine (ccalls_base (write_c σ5 v2 b2 (hv2 σ5) (fun l e => by rw [hr2] at e; simp at e) (by omega) (by unfold Tab; rw [hW5, hW3, hW2, hW1]; exact ht))).mono ?_
      rintro _ σ6 ⟨⟨vw, rfl, hnew⟩, hW6⟩
      simp
      have keep : ∀ l ∈ names p lv5 bv5 .nils [], σ6.H l = σ5.H l := fun l hl => hnew.H l (h5.own.lt l hl)
      have o6 : Own σ6 p r1 [] lv5 bv5 .nils [] := ⟨by rw [keep p (by simp [names])]; exact h5.own.at_, h5.own.line.mono fun l e => keep l (by simp [names, mem_rowL, e]), h5.own.body.mono fun l e => keep l (by simp [names, mem_rowL, e]), .inl ⟨rfl, rfl⟩, trivial, h5.own.bn, h5.own.ln, h5.own.nd, fun l hl => Nat.lt_of_lt_of_le (h5.own.lt l hl) hnew.n⟩
      have hwl : (wr b2).length < 2 ^ 39 := by
        have := dec_len 9 b2.length (by omega)
        simp [wr, hdr]; omega
      refine (feed_c o6 g5 (hnew.sl.rd : Bs σ6 vw (wr b2)) (fun l e => ?_) hwl).mono ?_
      · obtain ⟨h1, h2⟩ := hnew.row l e
        exact ⟨fun hm => by have := h5.own.lt l hm; omega, h2⟩
      rintro _ σ7 ⟨lv7, bv7, ov7, oes7, rfl, h7, g7, f7⟩
      rw [feedS_stop _ _ hst] at h7
      have l7 : lenV ov7 = some (.int .i64 0) := by rw [h7.out.rd.len, h7.msgs.len]; rfl
      have hp7 := h7.own.at_
      simp only [cel, hst] at hp7
      simp [l7]
      refine (over_c hp7).mono ?_
      rintro _ σ8 ⟨rfl, _⟩
      simp
      exact hk' _ _ _ (w_ret (hq _ _ rfl (by simp)))
    refine w_yes (vT hiw) ?_
    refine w_skip ?_
    refine w_seq ?_
    refine w_block fun Q1 hn1 he1 hx1 hr1 hp1 => ?_
    refine w_seq ?_
    refine w_regk [1, 6, 7, 8, 53] fun K KP hk hkp => ?_
    obtain ⟨⟨k, s⟩, hks⟩ : ∃ x, W[i]? = some x := ⟨_, List.getElem?_eq_getElem hiw⟩
    obtain ⟨bb, a1, a2, a3, a4, a5, a6⟩ := h3.msgs.cells h3.out hks
    have a6' := a6 .i64
    have hw : IntKind.i64.wrap ((W.length : Int) - 1) = (W.length : Int) - 1 := IntWalk.i64_in _ (by omega)
    have hgo2 : K [v2, .ptr p 0 0, ov, .int .i64 i, .bool false] [] σ4 := by
      apply hk; clear hk hkp K KP
      refine w_no rfl (w_skip (w_end (hn1 _ _ ?_)))
      refine w_keep [1, 6, 7, 8] ?_
      refine w_reg fun K KP hk hkp => ?_
      have h64 : IntKind.i64.wrap ((i : Int) + 1) = ((i + 1 : Nat) : Int) := by rw [IntWalk.i64_in _ (by omega)]; omega
      simp [h64]
      exact hk _ _ (w_end (z1 (n - 1) _ _ rfl (by omega) ⟨rfl, i + 1, by omega, by simp⟩))
    by_cases hk3 : k = 3
    · have hl := last i k s hks hk3
      have hil : IntKind.i64.wrap ((W.length : Int) - 1) = (i : Int) := by rw [hw]; omega
      simpa [a1, a3, a6', hk3, lov, hil] using hgo2
    · simpa [a1, a3, a6', hk3] using hgo2
  by_cases h1 : (5000 : Int) < b1.length
  · simpa [l1, l2, h1] using hgo
  · simpa [l1, l2, h1] using hgo
end Go.Proofs.YtmjbnfldehbmcaaDoor
