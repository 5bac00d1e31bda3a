/-
The walk over the program's texts, told with what its values say: a part of it. No further condition.
-/
import Derived.Test.YtmjbnfldehbmcaaDoorAbDD
namespace Go.Proofs.YtmjbnfldehbmcaaDoor
open Go.Proofs.YtmjbnfldehbmcaaDoor.Ab
set_option linter.unusedVariables false
/-- What Feed leaves: the reader without messages; the messages. -/
structure Fed (σ : St) (p : Nat) (r : R) (ms : List Msg) (lv bv ov : V) (oes : List (List V)) : Prop where
  own : Own σ p r [] lv bv .nils []
  out : Sl σ 2 ov oes
  msgs : Msgs σ oes ms
  nd : (names p lv bv ov oes).Nodup
  lt : ∀ l ∈ names p lv bv ov oes, l < σ.n
section
variable {σ : St} {p : Nat} {r : R} {ms : List Msg} {lv bv ov : V} {oes : List (List V)}
theorem own_fed (h : Own σ p r ms lv bv ov oes) : Fed (σ.set p (.row 7 [cel r lv bv .nils])) p r ms lv bv ov oes ∧ Fm σ (σ.set p (.row 7 [cel r lv bv .nils])) (names p lv bv ov oes) (names p lv bv ov oes) := by
  have hnd := h.nd
  have hlt := h.lt
  unfold names at hnd hlt
  simp only [List.nodup_cons, List.nodup_append, List.mem_append, not_or] at hnd
  simp only [List.mem_append, List.mem_cons] at hlt
  obtain ⟨⟨pl, pb, po, pm⟩, lN, ⟨bN, ⟨oN, mN, dom⟩, db⟩, dl⟩ := hnd
  have keep : ∀ l, l ≠ p → (σ.set p (.row 7 [cel r lv bv .nils])).H l = σ.H l := fun l hl => by simp [hl]
  have hrow : rowL .nils = [] := rfl
  refine ⟨⟨⟨by simp, ?_, ?_, .inl ⟨rfl, rfl⟩, trivial, h.bn, h.ln, ?_, ?_⟩, ?_, ?_, h.nd, h.lt⟩, ⟨Nat.le_refl _, fun l h => .inl h, fun l hl _ => keep l fun e => hl (by simp [names, e])⟩⟩
  · exact h.line.mono fun l hl => keep l fun e => pl (mem_rowL.2 (by rw [hl, e]))
  · exact h.body.mono fun l hl => keep l fun e => pb (mem_rowL.2 (by rw [hl, e]))
  · unfold names
    rw [hrow]
    simp only [List.flatMap_nil, List.append_nil, List.nodup_cons, List.nodup_append, List.mem_append, not_or]
    exact ⟨⟨pl, pb⟩, lN, bN, fun a ha b hb => dl a ha b (.inl hb)⟩
  · unfold names
    rw [hrow]
    simp only [List.flatMap_nil, List.append_nil, List.mem_cons, List.mem_append]
    rintro l (rfl | hm | hm)
    · exact hlt l (.inl rfl)
    · exact hlt l (.inr (.inl hm))
    · exact hlt l (.inr (.inr (.inl hm)))
  · exact h.out.mono fun l hl => keep l fun e => po (mem_rowL.2 (by rw [hl, e]))
  · exact h.msgs.mono fun l hl => keep l fun e => pm (by rw [← e]; exact hl)
theorem Bs.fm {σ σ' : St} {L L' : List Nat} (f : Fm σ σ' L L') {v : V} {b : List UInt8} (hv : Bs σ v b) (hvn : ∀ l, v.row = some l → l ∉ L ∧ l < σ.n) : Bs σ' v b :=
  hv.mono fun l off len e => by
    obtain ⟨h1, h2⟩ := hvn l (by rw [e]; rfl)
    exact f.H l h1 h2
theorem feed_c (h : Own σ p r [] lv bv .nils []) (hg : Good r) {v : V} {b : List UInt8} (hv : Bs σ v b) (hvn : ∀ l, v.row = some l → l ∉ names p lv bv .nils [] ∧ l < σ.n) (hb : b.length < 2 ^ 39) :
    CCalls Tryd.prog 11 [.ptr p 0 0, v] σ (fun o σ' => ∃ lv' bv' ov' oes', o = .ret ov' ∧ Fed σ' p (feedS r b).1 (feedS r b).2 lv' bv' ov' oes' ∧ Good (feedS r b).1 ∧ Fm σ σ' (names p lv bv .nils []) (names p lv' bv' ov' oes')) := by
  refine w_fn ok11 (by simp [c11]) fun Q hn' hr' hpq => ?_
  simp only [c11] at *
  have hq : ∀ f' σ' lv' bv' ov' oes', f'.ds = [] → f'.env 4 = ov' → Fed σ' p (feedS r b).1 (feedS r b).2 lv' bv' ov' oes' → Good (feedS r b).1 → Fm σ σ' (names p lv bv .nils []) (names p lv' bv' ov' oes') → Q .ret f' σ' := fun f σ' lv' bv' ov' oes' h1 h2 h3 h4 h5 => hr' f _ ⟨h1, _, by simp [retV, resL, resV, one, h2], lv', bv', ov', oes', rfl, h3, h4, h5⟩
  clear hn' hr' hpq
  have h7 := h.at_
  simp only [cel] at h7
  have hlen := hv.len
  refine w_seq ?_
  refine w_regk [0, 1] fun K KP hk hkp => ?_
  simp
  apply hk; clear hk hkp K KP
  refine w_seq ?_
  refine w_seq ?_
  refine w_regk [0, 1, 8] fun K KP hk hkp => ?_
  simp
  apply hk; clear hk hkp K KP
  refine w_no (by simp) ?_
  refine w_skip ?_
  refine w_seq ?_
  refine w_seq ?_
  refine w_regk [0, 1, 5] fun K KP hk hkp => ?_
  simp
  apply hk; clear hk hkp K KP
  refine w_block fun Q0 hn0 he0 hx0 hr0 hp0 => ?_
  refine w_loopk [0, 1, 5] (fun n vs σ' => ∃ i lv' bv' ov' oes', i + n = b.length ∧ vs = [.ptr p 0 0, v, .int .i64 i] ∧ Own σ' p (feedS r (b.take i)).1 (feedS r (b.take i)).2 lv' bv' ov' oes' ∧ Good (feedS r (b.take i)).1 ∧ (feedS r (b.take i)).2.length ≤ i ∧
    Fm σ σ' (names p lv bv .nils []) (names p lv' bv' ov' oes')) b.length ⟨0, lv, bv, .nils, [], by simp, by simp, by simpa [feedS] using h, by simpa [feedS] using hg, by simp [feedS], Fm.refl _ _⟩ ?_
  rintro n vs σ' ⟨i, lv', bv', ov', oes', hi, rfl, hown, hgood, hml, hfm⟩ Qz z1 z2 z3 z4
  have hv' : Bs σ' v b := Bs.fm hfm hv hvn
  have hlen' := hv'.len
  have hvn' : ∀ l, v.row = some l → l ∉ names p lv' bv' ov' oes' := fun l e hm => by
    obtain ⟨h1, h2⟩ := hvn l e
    rcases hfm.sub l hm with h3 | h3
    · exact h1 h3
    · omega
  have h17 := hown.at_
  simp only [cel] at h17
  refine w_seq ?_
  refine w_seq ?_
  refine w_regk [0, 1, 5, 12] fun K KP hk hkp => ?_
  simp [hlen']
  apply hk; clear hk hkp K KP
  by_cases hc : i < b.length
  rotate_left
  · refine w_no (vF hc) ?_
    refine w_exit (z2 _ _ _ (he0 _ _ ?_))
    have hie : b.take i = b := List.take_of_length_le (by omega)
    rw [hie] at hown hgood hml h17
    refine w_keep [0] ?_
    refine w_seq ?_
    refine w_regk [0, 6] fun K KP hk hkp => ?_
    simp [h17]
    apply hk; clear hk hkp K KP
    obtain ⟨hfed, ffed⟩ := own_fed hown
    simp only [cel] at hfed ffed
    refine w_seq ?_
    refine w_regk [6] fun K KP hk hkp => ?_
    simp [h17]
    apply hk; clear hk hkp K KP
    refine w_seq ?_
    refine w_regk [4] fun K KP hk hkp => ?_
    simp
    exact hk _ _ _ (w_ret (hq _ _ _ _ _ _ rfl (by simp) hfed hgood (hfm.trans ffed)))
  refine w_yes (vT hc) ?_
  refine w_skip ?_
  have hib : i < b.length := by omega
  generalize hr' : (feedS r (b.take i)).1 = r' at *
  generalize hm' : (feedS r (b.take i)).2 = m' at *
  -- a round: so many bytes more
  have next : ∀ k f' σ'', 0 < k → i + k ≤ b.length → f'.ds = [] → f'.env 0 = .ptr p 0 0 → f'.env 1 = v → f'.env 5 = .int .i64 ((i + k : Nat) : Int) → Good (feedS r' ((b.drop i).take k)).1 → (feedS r' ((b.drop i).take k)).2.length ≤ k →
      Goes σ' p (names p lv' bv' ov' oes') (feedS r' ((b.drop i).take k)).1 (m' ++ (feedS r' ((b.drop i).take k)).2) σ'' → Qz .normal f' σ'' := by
    intro k f' σ'' hk hkb hd h0 h1 h5 g1 g2 g3
    obtain ⟨lv2, bv2, ov2, oes2, o2, f2⟩ := g3
    have e : b.take (i + k) = b.take i ++ (b.drop i).take k := by rw [List.take_add]
    have e2 : feedS r (b.take (i + k)) = ((feedS r' ((b.drop i).take k)).1, m' ++ (feedS r' ((b.drop i).take k)).2) := by rw [e, feedS_app, hr', hm']
    refine z1 (n - k) f' σ'' hd (by omega) ⟨i + k, lv2, bv2, ov2, oes2, by omega, by simp [h0, h1, h5], ?_, ?_, ?_, hfm.trans f2⟩
    · rw [e2]; exact o2
    · rw [e2]; exact g1
    · rw [e2]; simp only [List.length_append]; omega
  have hbd : ((b.drop i).take 1) = [b[i]] := by rw [List.drop_eq_getElem_cons hib]; rfl
  have hd1 : (b.drop i) ≠ [] := fun e => by have := congrArg List.length e; simp at this; omega
  have hs0 : r'.st = 0 → r'.body = [] := fun h0 => (hown.bodyNil (by omega)).2
  have one : feedS r' ((b.drop i).take 1) = stepS r' b[i] := by rw [hbd]; simp [feedS]
  have hsg := step_good hgood hs0 b[i]
  refine w_block fun Q1 hn1 he1 hx1 hr1 hp1 => ?_
  refine w_seq ?_
  refine w_regk [0, 1, 5, 16] fun K KP hk hkp => ?_
  simp [h17]
  apply hk; clear hk hkp K KP
  refine w_block fun Q2 hn2 he2 hx2 hr2 hp2 => ?_
  refine w_seq ?_
  refine w_regk [0, 1, 5, 16, 19] fun K KP hk hkp => ?_
  simp
  apply hk; clear hk hkp K KP
  have h64 : IntKind.i64.wrap ((i : Int) + 1) = (i : Int) + 1 := IntWalk.i64_in _ (by omega)
  by_cases h0 : r'.st = 0
  · refine w_yes (vT h0) ?_
    refine w_seq ?_
    refine w_regk [0, 1, 5] fun K KP hk hkp => ?_
    simp [hv'.at hib, hv'.ld (List.getElem?_eq_getElem hib)]
    refine (header_o hown h0 hgood (by omega) b[i]).mono ?_
    rintro _ σ2 ⟨rfl, g2⟩
    simp
    apply hk; clear hk hkp K KP
    refine w_reg fun K KP hk hkp => ?_
    simp [h64]
    refine hk _ _ (w_end (hn2 _ _ (w_end (hn1 _ _ (w_end ?_)))))
    have e : stepS r' b[i] = headerS r' b[i] := by unfold stepS; rw [if_pos h0]
    refine next 1 _ σ2 (by omega) (by omega) rfl rfl rfl rfl ?_ ?_ ?_ <;> rw [one]
    · exact hsg.1
    · exact hsg.2
    · rw [e]; exact g2
  refine w_no (vF h0) ?_
  refine w_seq ?_
  refine w_seq ?_
  refine w_regk [0, 1, 5, 16, 29] fun K KP hk hkp => ?_
  simp
  apply hk; clear hk hkp K KP
  -- the bytes of a body
  have body : r'.st = 1 ∨ r'.st = 2 → ∀ f', f'.ds = [] → f'.env 0 = .ptr p 0 0 → f'.env 1 = v → f'.env 5 = .int .i64 i → f'.env 29 = .bool true → ∀ x, CS planOf Tryd.prog 47 [.cond (.t 29) (.reg [⟨some 32, none, .mv (.t 5)⟩,
  ⟨some 33, none, .mv (.t 0)⟩,
  ⟨some 34, none, .mv (.t 1)⟩,
  ⟨some 35, none, .mv (.t 5)⟩,
  ⟨some 36, none, .lsl 1 (.t 34) (some (.t 35)) none⟩,
  ⟨some 37, none, .call 15 [.t 33, .t 36]⟩,
  ⟨some 38, none, .bin .add (.t 32) (.t 37)⟩,
  ⟨some 5, none, .mv (.t 38)⟩]) x] f' σ' Q2 := fun hst f' hd h0' h1' h5' h29 x => by
    refine w_yes h29 ?_
    refine w_reg fun K KP hk hkp => ?_
    simp [h0', h1', h5']
    rw [hv'.lslFrom (a := i) (k := .i64) (by simp [h5']) (by omega)]
    simp
    have hcut := hv'.cut (a := i) (b := b.length) (by omega) (by omega)
    rw [List.take_length] at hcut
    have hdl : (b.drop i).length = b.length - i := by simp
    refine (take_o hown hst hgood (by omega) hcut (fun l e => hvn' l ?_) (by omega)).mono ?_
    · cases v <;> simp [cutV, V.row] at e ⊢
      exact e
    rintro _ σ2 ⟨rfl, g2⟩
    obtain ⟨t0, t1, t2⟩ := takeN_le hgood hst (b.drop i)
    have hw : IntKind.i64.wrap ((i : Int) + takeN r' (b.drop i)) = ((i + takeN r' (b.drop i) : Nat) : Int) := by rw [IntWalk.i64_in _ (by omega)]; omega
    simp [hw, h5']
    have tf := take_feed (b.drop i) r' hgood hst hd1
    have tg := take_good hgood hst (b.drop i)
    have t3 : 0 < takeN r' (b.drop i) := by unfold takeN; omega
    refine hk _ _ (w_end (hn2 _ _ (w_end (hn1 _ _ (w_end ?_)))))
    refine next (takeN r' (b.drop i)) _ σ2 t3 (by omega) (by simp [hd]) (by simp [h0']) (by simp [h1']) (by simp) ?_ ?_ ?_ <;> rw [tf]
    · exact tg.1
    · have := tg.2; omega
    · exact g2
  by_cases h1 : r'.st = 1
  · refine w_yes (vT h1) ?_
    refine w_skip ?_
    exact body (.inl h1) _ rfl rfl rfl rfl (vT h1) _
  refine w_no (vF h1) ?_
  refine w_regk [0, 1, 5, 29] fun K KP hk hkp => ?_
  simp
  apply hk; clear hk hkp K KP
  by_cases h2 : r'.st = 2
  · exact body (.inr h2) _ rfl rfl rfl rfl (vT h2) _
  refine w_no (vF h2) ?_
  refine w_reg fun K KP hk hkp => ?_
  simp [hlen']
  refine hk _ _ (w_end (hn2 _ _ (w_end (hn1 _ _ (w_end ?_)))))
  have h3 : r'.st = 3 := by have := hgood.st; omega
  have hall : (b.drop i).take (b.length - i) = b.drop i := List.take_of_length_le (by simp)
  refine next (b.length - i) _ σ' (by omega) (by omega) rfl rfl rfl (by simp; omega) ?_ ?_ ?_ <;> rw [hall, feedS_stop _ _ h3]
  · exact hgood
  · simp
  · rw [List.append_nil]; exact ⟨_, _, _, _, hown, Fm.refl _ _⟩
end
end Go.Proofs.YtmjbnfldehbmcaaDoor
