/-
The walk over the program's texts, told with what its values say: a part of it. No further condition.
-/
import Derived.Test.YtmjbnfldehbmcaaDoorAbD6
namespace Go.Proofs.YtmjbnfldehbmcaaDoor
open Go.Proofs.YtmjbnfldehbmcaaDoor.Ab
section
variable {σ : St} {p : Nat} {a b c d e f g : V} {oes : List (List V)}
structure Pre (σ : St) (p : Nat) (a b c d e f g : V) (oes : List (List V)) : Prop where
  at_ : σ.H p = some (.row 7 [[a, b, c, d, e, f, g]])
  out : Sl σ 2 g oes
  ne : g.row ≠ some p
  pn : p < σ.n
  gn : ∀ l, g.row = some l → l < σ.n
  len : oes.length < 2 ^ 40
theorem Pre.set (h : Pre σ p a b c d e f g oes) (a' b' c' d' e' f' : V) : Pre (σ.set p (.row 7 [[a', b', c', d', e', f', g]])) p a' b' c' d' e' f' g oes :=
  ⟨by simp, h.out.mono fun l hl => by simp only [set_H]; rw [if_neg (fun e : l = p => h.ne (by rw [hl, e]))], h.ne, h.pn, h.gn, h.len⟩
theorem emit_p (h : Pre σ p a b c d e f g oes) (k : Int) (m : V) (hm : m.scal = true) : CCalls Tryd.prog 20 [.ptr p 0 0, .int .i64 k, m] σ (fun o σ' => o = .ret (.tup []) ∧ σ' = emitS σ p a b c d e f g oes k m) :=
  emit_c σ p a b c d e f g oes k m h.at_ h.out hm h.ne h.pn h.gn h.len
theorem broken_c (h : Pre σ p a b c d e f g oes) : CCalls Tryd.prog 17 [.ptr p 0 0] σ (fun o σ' => o = .ret (.tup []) ∧ σ' = emitS σ p (.int .i64 3) .nils c d e .nils g oes 3 .nils) := by
  refine w_fn ok17 (by simp [c17]) fun Q hn hr hpq => ?_
  simp only [c17] at *
  have hq : ∀ f', f'.ds = [] → Q .normal f' (emitS σ p (.int .i64 3) .nils c d e .nils g oes 3 .nils) := fun f h1 => hn f _ ⟨h1, by simp [retV, resL, one]⟩
  clear hn hr hpq
  refine w_seq ?_
  refine w_regk [0] fun K KP hk hkp => ?_
  simp [h.at_]
  apply hk; clear hk hkp K KP
  refine w_seq ?_
  refine w_regk [0] fun K KP hk hkp => ?_
  simp
  apply hk; clear hk hkp K KP
  refine w_reg fun K KP hk hkp => ?_
  simp
  refine (emit_p (h.set (.int .i64 3) .nils c d e .nils) 3 .nils rfl).mono ?_
  rintro _ _ ⟨rfl, rfl⟩
  rw [emitS_set]
  exact hk _ _ (w_end (hq _ (by simp)))
end
def brk (r : R) : R × List Msg := ({ r with st := 3, line := [], body := [] }, [(3, [])])
def beginS (r : R) : R × List Msg :=
  if r.length < 0 then brk { r with size := 0, length := -1, left := r.length }
  else if r.length > 16777216 then ({ r with size := 0, length := -1, left := r.length, st := 2 }, [(2, [])])
  else if r.length = 0 then ({ r with size := 0, length := -1, left := 0 }, [(1, [])])
  else ({ r with size := 0, length := -1, left := r.length, st := 1 }, [])
/-- What a method leaves. -/
def Goes (σ : St) (p : Nat) (L : List Nat) (r' : R) (ms' : List Msg) (σ' : St) : Prop :=
  ∃ lv bv ov oes, Own σ' p r' ms' lv bv ov oes ∧ Fm σ σ' L (names p lv bv ov oes)
section
variable {σ : St} {p : Nat} {r : R} {ms : List Msg} {lv bv ov : V} {oes : List (List V)}
theorem Msgs.len {σ : St} : ∀ {es : List (List V)} {ms : List Msg}, Msgs σ es ms → es.length = ms.length
  | [], [], _ => rfl
  | e :: es, m :: ms, h => by
    unfold Msgs at h
    split at h
    · simp at *
    · rename_i h1 h2
      obtain ⟨rfl, rfl⟩ := List.cons.inj h1
      obtain ⟨rfl, rfl⟩ := List.cons.inj h2
      simp [Msgs.len h.2.2]
    · exact h.elim
  | [], _ :: _, h => by simp [Msgs] at h
  | _ :: _, [], h => by unfold Msgs at h; split at h <;> simp_all
theorem Own.pre (h : Own σ p r ms lv bv ov oes) (hl : ms.length < 2 ^ 40) : Pre σ p (.int .i64 r.st) lv (.int .i64 r.size) (.int .i64 r.length) (.int .i64 r.left) bv ov oes := by
  have hnd := h.nd
  have hlt := h.lt
  unfold names at hnd hlt
  simp only [List.nodup_cons, List.nodup_append, List.mem_append, List.mem_cons, not_or] at hnd
  refine ⟨h.at_, h.out, fun e => hnd.1.2.2.1 (mem_rowL.2 e), hlt p (by simp), fun l hl => hlt l (by simp [mem_rowL, hl]), by rw [h.msgs.len]; exact hl⟩
theorem Own.bodyNil (h : Own σ p r ms lv bv ov oes) (hs : r.st ≠ 1) : bv = .nils ∧ r.body = [] := by
  have hb := h.bn hs
  refine ⟨hb, ?_⟩
  have := h.body
  rw [hb] at this
  rcases this with ⟨_, h⟩ | ⟨l, h, _⟩
  · simpa using h
  · simp at h
theorem broken_o (h : Own σ p r ms lv bv ov oes) (hs : r.st ≠ 1) (hl : ms.length < 2 ^ 40) : CCalls Tryd.prog 17 [.ptr p 0 0] σ (fun o σ' => o = .ret (.tup []) ∧ Goes σ p (names p lv bv ov oes) (brk r).1 (ms ++ (brk r).2) σ') := by
  refine (broken_c (h.pre hl)).mono ?_
  rintro _ _ ⟨rfl, rfl⟩
  obtain ⟨rfl, hb⟩ := h.bodyNil hs
  have := own_emit h (r' := (brk r).1) rfl rfl 3
  rw [hb] at this
  exact ⟨rfl, _, _, _, _, this.1, this.2⟩
/-- Other numbers in the reader's cells. -/
theorem Own.nums (h : Own σ p r ms lv bv ov oes) (r' : R) (hl : r'.line = r.line) (hb : r'.body = r.body) (hs : r'.st ≠ 1 → bv = .nils) (hs' : r'.st ≠ 0 → lv = .nils) :
    Own (σ.set p (.row 7 [cel r' lv bv ov])) p r' ms lv bv ov oes ∧ Fm σ (σ.set p (.row 7 [cel r' lv bv ov])) (names p lv bv ov oes) (names p lv bv ov oes) := by
  have hnd := h.nd
  unfold names at hnd
  simp only [List.nodup_cons, List.nodup_append, List.mem_append, not_or] at hnd
  obtain ⟨⟨pl, pb, po, pm⟩, _⟩ := hnd
  have keep : ∀ l, l ≠ p → (σ.set p (.row 7 [cel r' lv bv ov])).H l = σ.H l := fun l hl => by simp [hl]
  refine ⟨⟨by simp, ?_, ?_, ?_, ?_, hs, hs', h.nd, h.lt⟩, ⟨Nat.le_refl _, fun l h => .inl h, fun l hl _ => keep l fun e => hl (by simp [names, e])⟩⟩
  · rw [hl]; exact h.line.mono fun l hl => keep l fun e => pl (mem_rowL.2 (by rw [hl, e]))
  · rw [hb]; exact h.body.mono fun l hl => keep l fun e => pb (mem_rowL.2 (by rw [hl, e]))
  · exact h.out.mono fun l hl => keep l fun e => po (mem_rowL.2 (by rw [hl, e]))
  · exact h.msgs.mono fun l hl => keep l fun e => pm (by rw [← e]; exact hl)
end
end Go.Proofs.YtmjbnfldehbmcaaDoor
