/-
The walk over the program's texts, told with what its values say: a part of it. No further condition.
-/
import Derived.Test.YtmjbnfldehbmcaaDoorAbD9
namespace Go.Proofs.YtmjbnfldehbmcaaDoor
open Go.Proofs.YtmjbnfldehbmcaaDoor.Ab
set_option linter.unusedVariables false
section
variable {σ : St} {p : Nat} {r : R} {ms : List Msg} {lv bv ov : V} {oes : List (List V)}
/-- A store in which the line's row has given way to a new one, q; 'e' is whatever else is new. -/
theorem own_line (h : Own σ p r ms lv bv ov oes) {σ' : St} {q : Nat} {r' : R} (hb : r'.body = r.body) (hs : r'.st ≠ 1 → bv = .nils) (h0 : r'.st = 0) (hq : σ.n ≤ q) (hqn : q < σ'.n) (hn : σ.n ≤ σ'.n)
    (hp : σ'.H p = some (.row 7 [cel r' (.slc q 0 r'.line.length) bv ov])) (hr : σ'.H q = some (.row 1 (r'.line.map byteE)))
    (hk : ∀ l, l < σ.n → l ≠ p → lv.row ≠ some l → σ'.H l = σ.H l) :
    Own σ' p r' ms (.slc q 0 r'.line.length) bv ov oes ∧ Fm σ σ' (names p lv bv ov oes) (names p (.slc q 0 r'.line.length) bv ov oes) := by
  have hnd := h.nd
  have hlt := h.lt
  unfold names at hnd hlt
  simp only [List.nodup_cons, List.nodup_append, List.mem_append, not_or] at hnd
  simp only [List.mem_append, List.mem_cons] at hlt
  obtain ⟨⟨pl, pb, po, pm⟩, lN, ⟨bN, ⟨oN, mN, dom⟩, db⟩, dl⟩ := hnd
  have hpn := hlt p (.inl rfl)
  have keep : ∀ l, l ∈ rowL bv ∨ l ∈ rowL ov ∨ l ∈ oes.flatMap msgRow → σ'.H l = σ.H l := fun l hm =>
    hk l (hlt l (by rcases hm with h | h | h <;> simp [h])) (by rintro rfl; rcases hm with h | h | h <;> first | exact pb h | exact po h | exact pm h) (fun e => dl l (mem_rowL.2 e) l hm rfl)
  have hrow : rowL (.slc q 0 r'.line.length) = [q] := rfl
  refine ⟨⟨hp, .inr ⟨q, by simp, hr⟩, ?_, h.out.mono fun l hl => keep l (.inr (.inl (mem_rowL.2 hl))), h.msgs.mono fun l hl => keep l (.inr (.inr hl)), hs, fun h => absurd h0 h, ?_, ?_⟩, hn, ?_, ?_⟩
  · rw [hb]; exact h.body.mono fun l hl => keep l (.inl (mem_rowL.2 hl))
  · unfold names
    rw [hrow]
    simp only [List.singleton_append, List.nodup_cons, List.nodup_append, List.mem_cons, List.mem_append, not_or]
    refine ⟨⟨by omega, pb, po, pm⟩, ⟨fun hm => ?_, fun hm => ?_, fun hm => ?_⟩, bN, ⟨oN, mN, dom⟩, db⟩
    · have := hlt q (.inr (.inr (.inl hm))); omega
    · have := hlt q (.inr (.inr (.inr (.inl hm)))); omega
    · have := hlt q (.inr (.inr (.inr (.inr hm)))); omega
  · unfold names
    rw [hrow]
    simp only [List.singleton_append, List.mem_cons, List.mem_append]
    rintro l (rfl | rfl | hm)
    · omega
    · exact hqn
    · have := hlt l (.inr (.inr hm)); omega
  · unfold names
    rw [hrow]
    simp only [List.singleton_append, List.mem_cons, List.mem_append]
    rintro l (rfl | rfl | hm)
    · exact .inl (.inl rfl)
    · exact .inr hq
    · exact .inl (.inr (.inr hm))
  · unfold names
    simp only [List.mem_cons, List.mem_append, not_or]
    rintro l ⟨h1, h2, h3⟩ hlt
    exact hk l hlt h1 fun e => h2 (mem_rowL.2 e)
theorem own_body (h : Own σ p r ms lv bv ov oes) {σ' : St} {q : Nat} {r' : R} (hl : r'.line = r.line) (hs : r'.st = 1) (hs' : r.st = 1) (hq : σ.n ≤ q) (hqn : q < σ'.n) (hn : σ.n ≤ σ'.n)
    (hp : σ'.H p = some (.row 7 [cel r' lv (.slc q 0 r'.body.length) ov])) (hr : σ'.H q = some (.row 1 (r'.body.map byteE)))
    (hk : ∀ l, l < σ.n → l ≠ p → bv.row ≠ some l → σ'.H l = σ.H l) :
    Own σ' p r' ms lv (.slc q 0 r'.body.length) ov oes ∧ Fm σ σ' (names p lv bv ov oes) (names p lv (.slc q 0 r'.body.length) ov oes) := by
  have hnd := h.nd
  have hlt := h.lt
  unfold names at hnd hlt
  simp only [List.nodup_cons, List.nodup_append, List.mem_append, not_or] at hnd
  simp only [List.mem_append, List.mem_cons] at hlt
  obtain ⟨⟨pl, pb, po, pm⟩, lN, ⟨bN, ⟨oN, mN, dom⟩, db⟩, dl⟩ := hnd
  have hpn := hlt p (.inl rfl)
  have keep : ∀ l, l ∈ rowL lv ∨ l ∈ rowL ov ∨ l ∈ oes.flatMap msgRow → σ'.H l = σ.H l := fun l hm =>
    hk l (hlt l (by rcases hm with h | h | h <;> simp [h])) (by rintro rfl; rcases hm with h | h | h <;> first | exact pl h | exact po h | exact pm h)
      (fun e => by
        rcases hm with hm | hm
        · exact dl l hm l (.inl (mem_rowL.2 e)) rfl
        · exact db l (mem_rowL.2 e) l hm rfl)
  have hrow : rowL (.slc q 0 r'.body.length) = [q] := rfl
  refine ⟨⟨hp, ?_, .inr ⟨q, by simp, hr⟩, h.out.mono fun l hl => keep l (.inr (.inl (mem_rowL.2 hl))), h.msgs.mono fun l hl => keep l (.inr (.inr hl)), fun hne => absurd hs hne, fun _ => h.ln (by omega), ?_, ?_⟩, hn, ?_, ?_⟩
  · rw [hl]; exact h.line.mono fun l hl => keep l (.inl (mem_rowL.2 hl))
  · unfold names
    rw [hrow]
    simp only [List.singleton_append, List.nodup_cons, List.nodup_append, List.mem_cons, List.mem_append, not_or]
    refine ⟨⟨pl, by omega, po, pm⟩, lN, ⟨⟨fun hm => ?_, fun hm => ?_⟩, oN, mN, dom⟩, ?_⟩
    · have := hlt q (.inr (.inr (.inr (.inl hm)))); omega
    · have := hlt q (.inr (.inr (.inr (.inr hm)))); omega
    · rintro x hx y (rfl | hy)
      · have := hlt x (.inr (.inl hx)); omega
      · exact dl x hx y (.inr hy)
  · unfold names
    rw [hrow]
    simp only [List.singleton_append, List.mem_cons, List.mem_append]
    rintro l (rfl | hm | rfl | hm)
    · omega
    · have := hlt l (.inr (.inl hm)); omega
    · exact hqn
    · have := hlt l (.inr (.inr (.inr hm))); omega
  · unfold names
    rw [hrow]
    simp only [List.singleton_append, List.mem_cons, List.mem_append]
    rintro l (rfl | hm | rfl | hm)
    · exact .inl (.inl rfl)
    · exact .inl (.inr (.inl hm))
    · exact .inr hq
    · exact .inl (.inr (.inr (.inr hm)))
  · unfold names
    simp only [List.mem_cons, List.mem_append, not_or]
    rintro l ⟨h1, h2, h3, h4⟩ hlt
    exact hk l hlt h1 fun e => h3 (mem_rowL.2 e)
/-- The line is let go. -/
theorem own_noline (h : Own σ p r ms lv bv ov oes) {r' : R} (hl : r'.line = []) (hb : r'.body = r.body) (hs : r'.st ≠ 1 → bv = .nils) :
    Own (σ.set p (.row 7 [cel r' .nils bv ov])) p r' ms .nils bv ov oes ∧ Fm σ (σ.set p (.row 7 [cel r' .nils bv ov])) (names p lv bv ov oes) (names p .nils bv ov oes) := by
  have hnd := h.nd
  have hlt := h.lt
  unfold names at hnd hlt
  simp only [List.nodup_cons, List.nodup_append, List.mem_append, not_or] at hnd
  simp only [List.mem_append, List.mem_cons] at hlt
  obtain ⟨⟨pl, pb, po, pm⟩, lN, ⟨bN, ⟨oN, mN, dom⟩, db⟩, dl⟩ := hnd
  have keep : ∀ l, l ≠ p → (σ.set p (.row 7 [cel r' .nils bv ov])).H l = σ.H l := fun l hl => by simp [hl]
  have hrow : rowL .nils = [] := rfl
  refine ⟨⟨by simp, .inl ⟨rfl, by rw [hl]; rfl⟩, ?_, ?_, ?_, hs, fun _ => rfl, ?_, ?_⟩, Nat.le_refl _, ?_, ?_⟩
  · rw [hb]; exact h.body.mono fun l hl => keep l fun e => pb (mem_rowL.2 (by rw [hl, e]))
  · exact h.out.mono fun l hl => keep l fun e => po (mem_rowL.2 (by rw [hl, e]))
  · exact h.msgs.mono fun l hl => keep l fun e => pm (by rw [← e]; exact hl)
  · unfold names
    rw [hrow]
    simp only [List.nil_append, List.nodup_cons, List.nodup_append, List.mem_append, not_or]
    exact ⟨⟨pb, po, pm⟩, bN, ⟨oN, mN, dom⟩, db⟩
  · unfold names
    rw [hrow]
    simp only [List.nil_append, List.mem_cons, List.mem_append]
    rintro l (rfl | hm)
    · exact hlt l (.inl rfl)
    · exact hlt l (.inr (.inr hm))
  · unfold names
    rw [hrow]
    simp only [List.nil_append, List.mem_cons, List.mem_append]
    rintro l (rfl | hm)
    · exact .inl (.inl rfl)
    · exact .inl (.inr (.inr hm))
  · intro l hl _
    exact keep l fun e => hl (by simp [names, e])
end
end Go.Proofs.YtmjbnfldehbmcaaDoor
