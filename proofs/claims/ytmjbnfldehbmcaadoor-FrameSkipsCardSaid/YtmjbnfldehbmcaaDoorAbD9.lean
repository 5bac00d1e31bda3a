/-
The walk over the program's texts, told with what its values say: a part of it. No further condition.
-/
import Derived.Test.YtmjbnfldehbmcaaDoorAbD8
namespace Go.Proofs.YtmjbnfldehbmcaaDoor
open Go.Proofs.YtmjbnfldehbmcaaDoor.Ab
def fieldS (r : R) (s : List UInt8) : Option R :=
  match cutS s with
  | none => none
  | some i => if 0 < i then
      if isLen (s.take i) = true then
        match numS (s.drop (i + 1)) with
        | some n => if 0 ≤ r.length then none else some { r with length := n }
        | none => none
      else some r
    else none
section
variable {σ : St} {p : Nat} {r : R} {ms : List Msg} {lv bv ov : V} {oes : List (List V)}
theorem field_o (h : Own σ p r ms lv bv ov oes) {v : V} {s : List UInt8} (hv : Bs σ v s) (hs : s.length < 2 ^ 40) :
    CCalls Tryd.prog 19 [.ptr p 0 0, v] σ (fun o σ' => o = .ret (.bool (fieldS r s).isSome) ∧ Own σ' p ((fieldS r s).getD r) ms lv bv ov oes ∧ Fm σ σ' (names p lv bv ov oes) (names p lv bv ov oes)) := by
  refine w_fn ok19 (by simp [c19]) fun Q hn hr hpq => ?_
  simp only [c19] at *
  have hq : ∀ f' σ', f'.ds = [] → f'.env 4 = .bool (fieldS r s).isSome → Own σ' p ((fieldS r s).getD r) ms lv bv ov oes ∧ Fm σ σ' (names p lv bv ov oes) (names p lv bv ov oes) → Q .ret f' σ' := fun f σ' h1 h2 h3 => hr f _ ⟨h1, _, by simp [retV, resL, resV, one, h2], rfl, h3⟩
  clear hn hr hpq
  have h7 := h.at_
  simp only [cel] at h7
  have same : Own σ p r ms lv bv ov oes ∧ Fm σ σ (names p lv bv ov oes) (names p lv bv ov oes) := ⟨h, Fm.refl _ _⟩
  refine w_seq ?_
  refine w_regk [0, 1] fun K KP hk hkp => ?_
  simp
  apply hk; clear hk hkp K KP
  refine w_seq ?_
  refine w_regk [0, 5, 6, 7] fun K KP hk hkp => ?_
  simp
  refine (cut_c v s σ hv hs).mono ?_
  rintro _ σ1 ⟨rfl, e⟩
  obtain rfl := e.symm
  clear e
  cases hcut : cutS s with
  | none =>
    have hnone : fieldS r s = none := by simp [fieldS, hcut]
    simp [cutR, hcut]
    apply hk; clear hk hkp K KP
    refine w_seq (w_seq (w_regk [0, 5, 6, 16] fun K KP hk hkp => ?_))
    simp
    apply hk; clear hk hkp K KP
    exact w_yes rfl (w_seq (w_regk [4] fun K KP hk hkp => by simp; exact hk _ _ _ (w_ret (hq _ _ rfl (by simp [hnone]) (by rw [hnone]; exact same)))))
  | some i =>
    have hi : i < s.length := by
      unfold cutS at hcut
      rw [List.findIdx?_eq_some_iff_getElem] at hcut
      exact hcut.1
    simp [cutR, hcut]
    apply hk; clear hk hkp K KP
    refine w_seq (w_seq (w_regk [0, 5, 6, 16] fun K KP hk hkp => ?_))
    simp
    apply hk; clear hk hkp K KP
    by_cases h0 : i = 0
    · have hnone : fieldS r s = none := by simp [fieldS, hcut, h0]
      exact w_yes (by simp [h0]) (w_seq (w_regk [4] fun K KP hk hkp => by simp; exact hk _ _ _ (w_ret (hq _ _ rfl (by simp [hnone]) (by rw [hnone]; exact same)))))
    refine w_no (by simp; omega) ?_
    refine w_skip ?_
    refine w_seq ?_
    refine w_seq ?_
    refine w_regk [0, 6, 19] fun K KP hk hkp => ?_
    simp
    have hname := hv.cut (a := 0) (b := i) (by omega) (by omega)
    rw [List.drop_zero] at hname
    have hval := hv.cut (a := i + 1) (b := s.length) (by omega) (by omega)
    rw [List.take_length] at hval
    refine (isLength_c _ _ σ hname).mono ?_
    rintro _ σ2 ⟨rfl, e⟩
    obtain rfl := e.symm
    clear e
    simp
    apply hk; clear hk hkp K KP
    by_cases hL : isLen (s.take i) = true
    rotate_left
    · have hsome : fieldS r s = some r := by simp [fieldS, hcut, Nat.pos_of_ne_zero h0, hL]
      refine w_yes (by simp [hL]) (w_seq (w_regk [4] fun K KP hk hkp => ?_))
      simp
      exact hk _ _ _ (w_ret (hq _ _ rfl (by simp [hsome]) (by rw [hsome]; exact same)))
    refine w_no (by simp [hL]) ?_
    refine w_skip ?_
    refine w_seq ?_
    refine w_regk [0, 7, 8] fun K KP hk hkp => ?_
    simp
    refine (number_c _ _ σ hval (by simp; omega)).mono ?_
    rintro _ σ3 ⟨rfl, e⟩
    obtain rfl := e.symm
    clear e
    cases hnum : numS (s.drop (i + 1)) with
    | none =>
      have hnone : fieldS r s = none := by simp [fieldS, hcut, hnum, hL]
      simp [numR, hnum]
      apply hk; clear hk hkp K KP
      refine w_seq (w_seq (w_regk [0, 8, 33] fun K KP hk hkp => ?_))
      simp
      apply hk; clear hk hkp K KP
      exact w_yes rfl (w_seq (w_regk [4] fun K KP hk hkp => by simp; exact hk _ _ _ (w_ret (hq _ _ rfl (by simp [hnone]) (by rw [hnone]; exact same)))))
    | some n =>
      simp [numR, hnum]
      apply hk; clear hk hkp K KP
      refine w_seq (w_seq (w_regk [0, 8, 33] fun K KP hk hkp => ?_))
      simp [h7]
      apply hk; clear hk hkp K KP
      by_cases hge : 0 ≤ r.length
      · have hnone : fieldS r s = none := by simp [fieldS, hcut, hnum, hge, hL]
        exact w_yes (vT hge) (w_seq (w_regk [4] fun K KP hk hkp => by simp; exact hk _ _ _ (w_ret (hq _ _ rfl (by simp [hnone]) (by rw [hnone]; exact same)))))
      refine w_no (vF hge) ?_
      refine w_skip ?_
      have hsome : fieldS r s = some { r with length := n } := by simp [fieldS, hcut, Nat.pos_of_ne_zero h0, hL, hnum, hge]
      refine w_seq (w_regk [] fun K KP hk hkp => ?_)
      simp [h7]
      apply hk; clear hk hkp K KP
      refine w_seq (w_regk [4] fun K KP hk hkp => ?_)
      simp
      refine hk _ _ _ (w_ret (hq _ _ rfl (by simp [hsome]) ?_))
      rw [hsome]
      exact h.nums { r with length := n } rfl rfl h.bn h.ln
end
end Go.Proofs.YtmjbnfldehbmcaaDoor
