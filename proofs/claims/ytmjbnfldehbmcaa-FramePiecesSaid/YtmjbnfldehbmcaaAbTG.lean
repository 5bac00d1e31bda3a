/-
The walk over the program's texts, told with what its values say: a part of it. No further condition.
-/
import Derived.Test.YtmjbnfldehbmcaaAbTF
namespace Go.Proofs.Ytmjbnfldehbmcaa
open Go.Proofs.Ytmjbnfldehbmcaa.Ab
set_option linter.unusedVariables false
theorem Msgs.cells {σ : St} {es : List (List V)} {ms : List Msg} (h : Msgs σ es ms) {v : V} (ho : Sl σ 2 v es) {i : Nat} {k : Int} {s : List UInt8} (hi : ms[i]? = some (k, s)) :
    ∃ b, faV 0 (elA v i) = some (celA v i 0) ∧ faV 1 (elA v i) = some (celA v i 1) ∧ ldV σ (celA v i 0) = some (.int .i64 k) ∧ ldV σ (celA v i 1) = some b ∧ Bs σ b s ∧ ∀ kk, iaV σ 2 v (.int kk i) = some (elA v i) := by
  obtain ⟨b, hb, sb⟩ := h.get hi
  have hil := (List.getElem?_eq_some_iff.1 hb).1
  refine ⟨b, ho.rd.fa hil, ho.rd.fa hil, by rw [ho.rd.cel hb]; rfl, by rw [ho.rd.cel hb]; rfl, sb.rd, fun kk => ho.rd.at hil⟩
theorem begin_len (r : R) : (beginS r).2.length ≤ 1 := by
  unfold beginS brk; (repeat' split) <;> simp
theorem step_len (r : R) (c : UInt8) : (stepS r c).2.length ≤ 1 := by
  unfold stepS
  split
  · unfold headerS
    split
    · simp [brk]
    · split
      · simp
      · split
        · simp [brk]
        · split
          · exact begin_len _
          · split <;> simp [brk]
  · split
    · unfold takeS; (repeat' split) <;> simp
    · simp
theorem feed_len : ∀ (s : List UInt8) (r : R), (feedS r s).2.length ≤ s.length
  | [], r => by simp [feedS]
  | c :: s, r => by
    have h1 := step_len r c
    have h2 := feed_len s (stepS r c).1
    simp only [feedS, List.length_append, List.length_cons]
    omega
theorem pieces_c (σ : St) (v : V) (b : List UInt8) (hv : ∀ σ, Bs σ v b) (hvr : v.row = none) : CCalls Try.prog 3 [v] σ (fun o σ' => o = .ret (.bool true)) := by
  refine w_fn ok3 (by simp [c3]) fun Q hn hr hpq => ?_
  simp only [c3] at *
  have hq : ∀ f' σ', f'.ds = [] → f'.env 2 = .bool true → Q .ret f' σ' := fun f σ' h1 h2 => hr f _ ⟨h1, _, by simp [retV, resL, resV, one, h2], rfl⟩
  clear hn hr hpq
  have hlen := (hv σ).len
  refine w_seq ?_
  refine w_regk [0] fun K KP hk hkp => ?_
  simp
  apply hk; clear hk hkp K KP
  refine w_seq ?_
  refine w_seq ?_
  refine w_regk [0, 16] fun K KP hk hkp => ?_
  simp
  refine (framed_c σ).mono ?_
  rintro _ σ1 rfl
  simp [(hv σ1).len]
  apply hk; clear hk hkp K KP
  by_cases hbig : 6000 < b.length
  · refine w_yes (vT (by omega)) ?_
    refine w_seq ?_
    refine w_regk [2] fun K KP hk hkp => ?_
    simp
    refine (framed_c σ1).mono ?_
    rintro _ σ2 rfl
    simp
    exact hk _ _ _ (w_ret (hq _ _ rfl (by simp)))
  refine w_no (vF (by omega)) ?_
  refine w_skip ?_
  refine w_seq ?_
  refine w_regk [0, 3, 4] fun K KP hk hkp => ?_
  simp
  refine (new_c σ1).mono ?_
  rintro _ σ2 ⟨rfl, o1, n1, k1⟩
  simp
  refine (new_c σ2).mono ?_
  rintro _ σ3 ⟨rfl, o2, n2, k2⟩
  simp
  apply hk; clear hk hkp K KP
  have o1' : Own σ3 σ1.n r0 [] .nils .nils .nils [] := ⟨by rw [k2 _ (by omega)]; exact o1.at_, .inl ⟨rfl, rfl⟩, .inl ⟨rfl, rfl⟩, .inl ⟨rfl, rfl⟩, trivial, fun _ => rfl, fun _ => rfl, o1.nd, fun l hl => by have := o1.lt l hl; omega⟩
  have hpq : σ1.n ≠ σ2.n := by omega
  generalize σ1.n = p at o1' hpq
  generalize σ2.n = q at o2 hpq
  clear k1 k2 n1 n2 o1 hlen
  refine w_seq ?_
  refine w_regk [0, 3, 4, 5] fun K KP hk hkp => ?_
  simp
  refine (feed_c o1' good0 (hv σ3) (fun l e => by rw [hvr] at e; simp at e) (by omega)).mono ?_
  rintro _ σ4 ⟨lv, bv, ov, oes, rfl, h4, g4, f4⟩
  simp
  apply hk; clear hk hkp K KP
  have hqn : q < σ3.n := o2.lt q (by simp [names])
  have hqp : q ∉ names p .nils .nils .nils [] := by simp [names, rowL, V.row]; omega
  have o4 : Own σ4 q r0 [] .nils .nils .nils [] := ⟨by rw [f4.H q hqp hqn]; exact o2.at_, .inl ⟨rfl, rfl⟩, .inl ⟨rfl, rfl⟩, .inl ⟨rfl, rfl⟩, trivial, fun _ => rfl, fun _ => rfl, o2.nd, fun l hl => by have := o2.lt l hl; have := f4.n; omega⟩
  obtain ⟨N, hN⟩ : ∃ N, N = names p lv bv ov oes := ⟨_, rfl⟩
  have hq4 : ∀ l ∈ names q .nils .nils .nils [], l ∉ N := fun l hl hm => by
    simp [names, rowL, V.row] at hl
    subst hl
    rw [hN] at hm
    rcases f4.sub l hm with h | h
    · exact hqp h
    · omega
  have hN4 : ∀ l ∈ N, l < σ4.n := by rw [hN]; exact h4.lt
  obtain ⟨W, hW⟩ : ∃ W, W = (feedS r0 b).2 := ⟨_, rfl⟩
  rw [← hW] at h4
  -- what stays of the first answer
  have stat : ∀ σ', (∀ l ∈ N, σ'.H l = σ4.H l) → Sl σ' 2 ov oes ∧ Msgs σ' oes W ∧ σ'.H p = some (.row 7 [cel (feedS r0 b).1 lv bv .nils]) := fun σ' hs => by
    refine ⟨h4.out.mono fun l hl => hs l ?_, h4.msgs.mono fun l hl => hs l ?_, ?_⟩
    · rw [hN]; simp [names, mem_rowL, hl]
    · rw [hN]; simp only [names, List.mem_cons, List.mem_append]; exact .inr (.inr (.inr (.inr hl)))
    · rw [hs p (by rw [hN]; simp [names])]; exact h4.own.at_
  have hWb0 : W.length ≤ b.length := by rw [hW]; exact feed_len b r0
  have hWl : W.length = oes.length := h4.msgs.len.symm
  have lov : lenV ov = some (.int .i64 W.length) := by rw [h4.out.rd.len, hWl]
  refine w_seq ?_
  refine w_regk [0, 3, 4, 5, 6] fun K KP hk hkp => ?_
  simp
  apply hk; clear hk hkp K KP
  refine w_seq ?_
  refine w_seq ?_
  refine w_regk [0, 3, 4, 5, 6, 7] fun K KP hk hkp => ?_
  simp
  apply hk; clear hk hkp K KP
  refine w_block fun Q0 hn0 he0 hx0 hr0 hp0 => ?_
  refine w_loopk [0, 3, 4, 5, 6, 7] (fun n vs σ' => ∃ i lv2 bv2, i + n = b.length ∧ vs = [v, .ptr p 0 0, .ptr q 0 0, ov, .int .i64 (feedS r0 (b.take i)).2.length, .int .i64 i] ∧
    Own σ' q (feedS r0 (b.take i)).1 [] lv2 bv2 .nils [] ∧ Good (feedS r0 (b.take i)).1 ∧ (∀ l ∈ names q lv2 bv2 .nils [], l ∉ N) ∧ (∀ l ∈ N, σ'.H l = σ4.H l) ∧ ∀ l ∈ N, l < σ'.n) b.length
    ⟨0, .nils, .nils, by simp, by simp [feedS], by simpa [feedS] using o4, by simpa [feedS] using good0, hq4, fun _ _ => rfl, hN4⟩ ?_
  rintro n vs σ' ⟨i, lv2, bv2, hi, rfl, hown, hgood, hdis, hstat, hNn⟩ Qz z1 z2 z3 z4
  refine w_seq ?_
  refine w_seq ?_
  refine w_regk [0, 3, 4, 5, 6, 7, 26] fun K KP hk hkp => ?_
  simp [(hv σ').len]
  apply hk; clear hk hkp K KP
  by_cases hc : i < b.length
  rotate_left
  · refine w_no (vF hc) ?_
    refine w_exit (z2 _ _ _ (he0 _ _ ?_))
    have hib : b.take i = b := List.take_of_length_le (by omega)
    rw [hib, ← hW]
    rw [hib] at hown
    refine w_keep [3, 4, 5, 6] ?_
    refine w_seq ?_
    refine w_regk [2] fun K KP hk hkp => ?_
    have hp := (stat σ' hstat).2.2
    simp only [cel] at hp
    have hq' := hown.at_
    simp only [cel] at hq'
    simp [lov]
    refine (over_c hp).mono ?_
    rintro _ σ5 ⟨rfl, e⟩
    obtain rfl := e.symm
    simp
    refine (over_c hq').mono ?_
    rintro _ σ5 ⟨rfl, e⟩
    simp
    exact hk _ _ _ (w_ret (hq _ _ rfl (by simp)))
  refine w_yes (vT hc) ?_
  refine w_skip ?_
  refine w_seq ?_
  refine w_block fun Q1 hn1 he1 hx1 hr1 hp1 => ?_
  refine w_seq ?_
  refine w_regk [0, 3, 4, 5, 6, 7, 8] fun K KP hk hkp => ?_
  have h64 : IntKind.i64.wrap ((i : Int) + 1) = ((i + 1 : Nat) : Int) := by rw [IntWalk.i64_in _ (by omega)]; omega
  simp [h64]
  rw [(hv σ').lslBoth (a := i) (b := i + 1) (k := .i64) (k' := .i64) (by simp) (by simp) (by omega) (by omega)]
  simp
  have hcut := (hv σ').cut (a := i) (b := i + 1) (by omega) (by omega)
  have hone : (b.take (i + 1)).drop i = [b[i]] := by
    rw [List.take_add_one, List.getElem?_eq_getElem hc, List.drop_append_of_le_length (by simp; omega)]
    simp
  rw [hone] at hcut
  refine (feed_c hown hgood hcut (fun l e => ?_) (by simp)).mono ?_
  · cases v <;> simp [cutV, V.row] at e hvr
  rintro _ σ5 ⟨lv3, bv3, ov3, oes3, rfl, h5, g5, f5⟩
  simp
  apply hk; clear hk hkp K KP
  have e1 : feedS r0 (b.take (i + 1)) = ((feedS (feedS r0 (b.take i)).1 [b[i]]).1, (feedS r0 (b.take i)).2 ++ (feedS (feedS r0 (b.take i)).1 [b[i]]).2) := by
    rw [List.take_add_one, List.getElem?_eq_getElem hc]
    exact feedS_app _ _ _
  have e2 : W = (feedS r0 (b.take i)).2 ++ (feedS (feedS r0 (b.take i)).1 [b[i]]).2 ++ (feedS (feedS r0 (b.take (i + 1))).1 (b.drop (i + 1))).2 := by
    rw [hW]
    conv => lhs; rw [← List.take_append_drop (i + 1) b]
    rw [feedS_app, e1]
  have hstat5 : ∀ l ∈ N, σ5.H l = σ4.H l := fun l hl => by rw [f5.H l (fun hm => hdis l hm hl) (hNn l hl), hstat l hl]
  have hN5 : ∀ l ∈ N, l < σ5.n := fun l hl => Nat.lt_of_lt_of_le (hNn l hl) f5.n
  have hdis5 : ∀ l ∈ names q lv3 bv3 .nils [], l ∉ N := fun l hl hm => by
    have hl' : l ∈ names q lv3 bv3 ov3 oes3 := by
      simp only [names, List.mem_cons, List.mem_append, List.flatMap_nil, List.not_mem_nil, or_false] at hl ⊢
      rcases hl with h | h | h | h
      · exact .inl h
      · exact .inr (.inl h)
      · exact .inr (.inr (.inl h))
      · simp [rowL, V.row] at h
    rcases f5.sub l hl' with h | h
    · exact hdis l h hm
    · have := hNn l hm; omega
  generalize hM : (feedS r0 (b.take i)).2 = M at *
  generalize hS : (feedS (feedS r0 (b.take i)).1 [b[i]]).2 = S at *
  generalize (feedS (feedS r0 (b.take (i + 1))).1 (b.drop (i + 1))).2 = T at *
  have lov3 : lenV ov3 = some (.int .i64 S.length) := by rw [h5.out.rd.len, h5.msgs.len]
  have hWb : W.length = M.length + S.length + T.length := by rw [e2]; simp; omega
  refine w_seq ?_
  refine w_regk [0, 3, 4, 5, 6, 7, 8, 9] fun K KP hk hkp => ?_
  simp
  apply hk; clear hk hkp K KP
  refine w_block fun Q2 hn2 he2 hx2 hr2 hp2 => ?_
  refine w_loopk [0, 3, 4, 5, 6, 7, 8, 9] (fun n vs σ' => σ' = σ5 ∧ ∃ j mj : Nat, j + n = S.length ∧ mj = M.length + j ∧ vs = [v, .ptr p 0 0, .ptr q 0 0, ov, .int .i64 mj, .int .i64 i, ov3, .int .i64 j]) S.length ⟨rfl, 0, M.length, by simp, by simp, by simp⟩ ?_
  rintro m vs σ6 ⟨rfl, j, mj, hj, hmj, rfl⟩ Qy y1 y2 y3 y4
  refine w_seq ?_
  refine w_seq ?_
  refine w_regk [0, 3, 4, 5, 6, 7, 8, 9, 39] fun K KP hk hkp => ?_
  simp [lov3]
  apply hk; clear hk hkp K KP
  by_cases hjc : j < S.length
  rotate_left
  · refine w_no (vF hjc) ?_
    refine w_exit (y2 _ _ _ (he2 _ _ (w_end (hn1 _ _ ?_))))
    refine w_keep [0, 3, 4, 5, 6, 7] ?_
    refine w_reg fun K KP hk hkp => ?_
    simp [h64]
    have hjS : j = S.length := by omega
    refine hk _ _ (w_end (z1 (n - 1) _ _ rfl (by omega) ⟨i + 1, lv3, bv3, by omega, ?_, ?_, ?_, hdis5, hstat5, hN5⟩))
    · rw [e1]; simp [hmj, hjS]
    · rw [e1]; exact h5.own
    · rw [e1]; exact g5
  refine w_yes (vT hjc) ?_
  refine w_skip ?_
  refine w_seq ?_
  refine w_block fun Q3 hn3 he3 hx3 hr3 hp3 => ?_
  refine w_seq ?_
  refine w_seq ?_
  refine w_drwk [0, 3, 4, 5, 6, 7, 8, 9, 73] fun K KP hk hkp => ?_
  obtain ⟨⟨k, s⟩, hks⟩ : ∃ x, S[j]? = some x := ⟨_, List.getElem?_eq_getElem hjc⟩
  have hWj : W[mj]? = some (k, s) := by
    rw [hmj, e2, List.append_assoc, List.getElem?_append_right (by omega), Nat.add_sub_cancel_left, List.getElem?_append_left hjc, hks]
  obtain ⟨hs1, hs2, _⟩ := stat σ6 hstat5
  obtain ⟨b1, a1, a2, a3, a4, a5, a6⟩ := hs2.cells hs1 hWj
  obtain ⟨b2, c1, c2, c3, c4, c5, c6⟩ := h5.msgs.cells h5.out hks
  have a6' := a6 .i64
  have c6' := c6 .i64
  have hlt : mj < W.length := by omega
  have hlt' : ¬ W.length ≤ mj := by omega
  simp [lov, hlt', a1, a2, a3, a4, a5.b2s, a6', c1, c2, c3, c4, c5.b2s, c6']
  apply hk; clear hk hkp K KP
  refine w_no rfl ?_
  refine w_skip ?_
  refine w_reg fun K KP hk hkp => ?_
  have h64m : IntKind.i64.wrap ((mj : Int) + 1) = ((mj + 1 : Nat) : Int) := by rw [IntWalk.i64_in _ (by omega)]; omega
  have h64j : IntKind.i64.wrap ((j : Int) + 1) = ((j + 1 : Nat) : Int) := by rw [IntWalk.i64_in _ (by omega)]; omega
  simp [h64m]
  refine hk _ _ (w_end (hn3 _ _ ?_))
  clear hk hkp K KP
  refine w_keep [0, 3, 4, 5, 6, 7, 8, 9] ?_
  refine w_reg fun K KP hk hkp => ?_
  simp [h64j]
  refine hk _ _ (w_end (y1 (m - 1) _ _ rfl (by omega) ⟨rfl, j + 1, mj + 1, by omega, by omega, by simp⟩))
end Go.Proofs.Ytmjbnfldehbmcaa
