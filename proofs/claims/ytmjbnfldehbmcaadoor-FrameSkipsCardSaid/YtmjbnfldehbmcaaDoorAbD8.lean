/-
The walk over the program's texts, told with what its values say: a part of it. No further condition.
-/
import Derived.Test.YtmjbnfldehbmcaaDoorAbD7
namespace Go.Proofs.YtmjbnfldehbmcaaDoor
open Go.Proofs.YtmjbnfldehbmcaaDoor.Ab
section
variable {σ : St} {p : Nat} {r : R} {ms : List Msg} {lv bv ov : V} {oes : List (List V)}
@[simp] theorem emitS_p (σ : St) (p : Nat) (a b c d e f g : V) (oes : List (List V)) (k : Int) (m : V) : (emitS σ p a b c d e f g oes k m).H p = some (.row 7 [[a, b, c, d, e, f, .slc (σ.n + 1) 0 (oes.length + 1)]]) := by simp [emitS_H]
theorem emitS_re (σ : St) (p : Nat) (a b c d e f g a' b' c' d' e' f' : V) (oes : List (List V)) (k : Int) (m : V) : (emitS σ p a b c d e f g oes k m).set p (.row 7 [[a', b', c', d', e', f', .slc (σ.n + 1) 0 (oes.length + 1)]]) = emitS σ p a' b' c' d' e' f' g oes k m := by
  simp [emitS]
theorem begin_o (h : Own σ p r ms .nils .nils ov oes) (hs : r.st = 0) (hr : -1 ≤ r.length ∧ r.length < 2 ^ 40) (hl : ms.length < 2 ^ 40) :
    CCalls Tryd.prog 18 [.ptr p 0 0] σ (fun o σ' => o = .ret (.tup []) ∧ Goes σ p (names p .nils .nils ov oes) (beginS r).1 (ms ++ (beginS r).2) σ') := by
  obtain ⟨_, hb⟩ := h.bodyNil (by omega)
  have hline : r.line = [] := by
    rcases h.line with ⟨_, h⟩ | ⟨l, h, _⟩
    · simpa using h
    · simp at h
  refine w_fn ok18 (by simp [c18]) fun Q hn hr' hpq => ?_
  simp only [c18] at *
  have hq : ∀ f' σ', f'.ds = [] → Goes σ p (names p .nils .nils ov oes) (beginS r).1 (ms ++ (beginS r).2) σ' → Q .normal f' σ' := fun f σ' h1 h2 => hn f _ ⟨h1, _, by simp [retV, resL, one], rfl, h2⟩
  clear hn hr' hpq
  have hp := h.pre hl
  refine w_seq ?_
  refine w_regk [0, 2] fun K KP hk hkp => ?_
  simp [hp.at_]
  apply hk; clear hk hkp K KP
  refine w_seq ?_
  refine w_regk [0, 2] fun K KP hk hkp => ?_
  simp [hp.at_]
  apply hk; clear hk hkp K KP
  have hp1 := hp.set (.int .i64 r.st) .nils (.int .i64 0) (.int .i64 (-1)) (.int .i64 r.length) .nils
  refine w_block fun Q0 hn0 he0 hx0 hr0 hp0 => ?_
  refine w_seq ?_
  refine w_regk [0, 2, 23] fun K KP hk hkp => ?_
  simp
  apply hk; clear hk hkp K KP
  have fin : ∀ f' k, f'.ds = [] → (beginS r).1.line = [] → (beginS r).1.body = [] → (beginS r).2 = [(k, [])] → Q0 .normal f' (emitS σ p (.int .i64 (beginS r).1.st) .nils (.int .i64 (beginS r).1.size) (.int .i64 (beginS r).1.length) (.int .i64 (beginS r).1.left) .nils ov oes k .nils) := fun f' k hd h1 h2 h3 => by
    refine hn0 _ _ (w_end (hq _ _ hd ?_))
    have := own_emit h (r' := (beginS r).1) h1 h2 k
    rw [hb, ← h3] at this
    exact ⟨_, _, _, _, this.1, this.2⟩
  by_cases h1 : r.length < 0
  · refine w_yes (vT h1) ?_
    refine w_reg fun K KP hk hkp => ?_
    simp
    refine (broken_c hp1).mono ?_
    rintro _ _ ⟨rfl, rfl⟩
    refine hk _ _ (w_end ?_)
    rw [emitS_set]
    have e : beginS r = brk { r with size := 0, length := -1, left := r.length } := by unfold beginS; rw [if_pos h1]
    rw [e] at fin
    exact fin _ 3 (by simp) rfl rfl rfl
  refine w_no (vF h1) ?_
  refine w_seq ?_
  refine w_regk [0, 2, 28] fun K KP hk hkp => ?_
  simp
  apply hk; clear hk hkp K KP
  by_cases h2 : 16777216 < r.length
  · refine w_yes (vT h2) ?_
    refine w_seq ?_
    refine w_regk [0] fun K KP hk hkp => ?_
    simp
    refine (emit_p hp1 2 .nils rfl).mono ?_
    rintro _ _ ⟨rfl, rfl⟩
    rw [emitS_set]
    apply hk; clear hk hkp K KP
    refine w_reg fun K KP hk hkp => ?_
    simp
    refine hk _ _ (w_end ?_)
    rw [emitS_re]
    have e : beginS r = ({ r with size := 0, length := -1, left := r.length, st := 2 }, [(2, [])]) := by unfold beginS; rw [if_neg h1, if_pos h2]
    rw [e] at fin
    exact fin _ 2 (by simp) hline hb rfl
  refine w_no (vF h2) ?_
  refine w_seq ?_
  refine w_regk [0, 36] fun K KP hk hkp => ?_
  simp
  apply hk; clear hk hkp K KP
  by_cases h3 : r.length = 0
  · refine w_yes (vT h3) ?_
    refine w_reg fun K KP hk hkp => ?_
    simp
    refine (emit_p hp1 1 .nils rfl).mono ?_
    rintro _ _ ⟨rfl, rfl⟩
    rw [emitS_set]
    refine hk _ _ (w_end ?_)
    have e : beginS r = ({ r with size := 0, length := -1, left := 0 }, [(1, [])]) := by unfold beginS; rw [if_neg h1, if_neg (by omega), if_pos h3]
    rw [e] at fin
    rw [h3]
    exact fin _ 1 (by simp) hline hb rfl
  refine w_no (vF h3) ?_
  refine w_reg fun K KP hk hkp => ?_
  simp
  refine hk _ _ (w_end (hn0 _ _ (w_end (hq _ _ (by simp) ?_))))
  have e : beginS r = ({ r with size := 0, length := -1, left := r.length, st := 1 }, []) := by unfold beginS; rw [if_neg h1, if_neg (by omega), if_neg h3]
  rw [e, List.append_nil]
  have := h.nums { r with size := 0, length := -1, left := r.length, st := 1 } rfl rfl (by simp) (fun _ => rfl)
  exact ⟨_, _, _, _, this.1, this.2⟩
end
end Go.Proofs.YtmjbnfldehbmcaaDoor
