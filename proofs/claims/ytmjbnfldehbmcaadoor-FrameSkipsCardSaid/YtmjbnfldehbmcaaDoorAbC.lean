/-
The walk over the program's texts, told with what its values say: a part of it. No further condition.
-/
import Derived.Test.YtmjbnfldehbmcaaDoorAbB
namespace Go.Proofs.YtmjbnfldehbmcaaDoor.Ab
open Go.RowKit
set_option linter.unusedVariables false
set_option linter.unusedSimpArgs false
section
variable {P : Program} {φ : Phi} {I : Nat → Prop} {σ : St} {w w' : World} {nt : Nat} {env : Env} {a : Act}
/-- Cells are written, one behind the other. -/
theorem run_storeCells {g : Nat} {t : TypeId} {fz : Nat × Nat} : ∀ (vs : List Value) (o i : Nat) (arr : Array Value) (w : World), w.heap[g]? = some (.cells arr t fz) → fits arr fz → o + i + vs.length ≤ arr.size → (∀ v ∈ vs, v.oneCell' = true) →
    ∃ w' arr', (storeCells ⟨g, o, none⟩ vs i).run P w = .ok () w' ∧ w'.heap[g]? = some (.cells arr' t fz) ∧ arr'.size = arr.size ∧ w'.heap.size = w.heap.size ∧ (∀ k, k ≠ g → w'.heap[k]? = w.heap[k]?) ∧ Same w w' ∧
      ∀ k, arr'.getD k undef = if o + i ≤ k ∧ k < o + i + vs.length then vs.getD (k - (o + i)) undef else arr.getD k undef
  | [], o, i, arr, w, hh, _, _, _ => ⟨w, arr, rfl, hh, rfl, rfl, fun _ _ => rfl, Same.refl w, fun k => by simp; intro h1 h2; omega⟩
  | v :: vs, o, i, arr, w, hh, hfz, hsz, hv => by
    simp only [List.length_cons] at hsz
    have hcell : w.cell? ⟨g, o + i, none⟩ = some (arr[o + i]'(by omega)) := by simp [World.cell?, hh, show o + i < arr.size by omega]
    have hfr : w.frozen? ⟨g, o + i, none⟩ = false := by
      have := hfz.not (o := o + i) (by omega)
      simp only [World.frozen?, hh, Bool.and_eq_false_iff, decide_eq_false_iff_not]
      omega
    have hst : (store ⟨g, o + i, none⟩ v).run P w = .ok () (w.setCell ⟨g, o + i, none⟩ v) := by
      rw [run_store P w _ v _ (hv v (by simp))]
      simp [hcell, hfr]
    have hh' : (w.setCell ⟨g, o + i, none⟩ v).heap[g]? = some (.cells (arr.setIfInBounds (o + i) v) t fz) := by
      simp [World.setCell, Array.getElem?_modify, hh]
    obtain ⟨w', arr', h1, h2, h3, h4, h5, h6, h7⟩ := run_storeCells vs o (i + 1) (arr.setIfInBounds (o + i) v) (w.setCell ⟨g, o + i, none⟩ v) hh' (hfz.size (by simp)) (by simp; omega) (fun u hu => hv u (by simp [hu]))
    refine ⟨w', arr', ?_, h2, by simpa using h3, by simpa using h4, fun k hk => ?_, ⟨h6.os, h6.tape, h6.output⟩, fun k => ?_⟩
    · rw [storeCells, Sem.run_bind, Addr.add_lit, hst]
      exact h1
    · rw [h5 k hk]
      simp only [World.setCell, Array.getElem?_modify]
      rw [if_neg (Ne.symm hk)]
    · rw [h7 k]
      by_cases ha : k = o + i
      · subst ha
        rw [if_neg (by omega), if_pos (by simp), Nat.sub_self]
        simp [show o + i < arr.size by omega]
      · by_cases hb : o + (i + 1) ≤ k ∧ k < o + (i + 1) + vs.length
        · rw [if_pos hb, if_pos (by simp; omega), show k - (o + i) = (k - (o + (i + 1))) + 1 by omega]
          simp
        · rw [if_neg hb, if_neg (by simp; omega)]
          simp [Array.getElem?_setIfInBounds, Ne.symm ha]
theorem rel_turn (hs : Sim φ I σ w) {l : Nat} {x : Nat × Nat × Nat} (hl : (σ.H l).isSome = true) (hx : φ l = some x) (hoth : ∀ k, k ≠ x.1 → w'.heap[k]? = w.heap[k]?) (hN : cellsOf w' x.1 = cellsOf w x.1)
    {φ' : Phi} (hφ : ∀ l y, φ l = some y → φ' l = some y) {v : V} {c : Value} (h : Rel φ I w v c) : Rel φ' I w' v c :=
  h.mono hφ (fun _ h => h) (fun b hb => hoth b (fun e => hs.notI _ ⟨l, x, hl, hx, rfl⟩ (e ▸ hb))) (fun l' y hy => by
    by_cases e : y.1 = x.1
    · rw [e]; exact hN
    · unfold cellsOf; rw [hoth _ e])
theorem acts_st {o : Oper} {t : TypeId} {n : Nat} {x y : Operand} {x' y' : Opd} {v : V} {σ' : St} (ho : o.op = .store t x y) (hn : sizeD P t = some n)
    (hs : Sim φ I σ w) (hf : EnvR φ I w nt env a) (hx : cOpd nt x = some x') (hy : cOpd nt y = some y') (he : evI env σ (.st n x' y') = some (v, σ')) : Acts P φ I σ w a o v σ' := by
  have h1 := cOpd_rel hf hx
  have h2 := cOpd_rel hf hy
  obtain ⟨dst, op', ty, pos, after, guard⟩ := o
  simp only at ho; subst ho
  simp only [evI] at he
  split at he <;> (try (simp only [reduceCtorEq] at he; done))
  rename_i l i j e1
  rw [e1] at h1
  split at he <;> (try (simp only [reduceCtorEq] at he; done))
  rename_i z es hH
  simp only [Option.bind_eq_some_iff] at he
  obtain ⟨e, hi, he⟩ := he
  split at he <;> simp only [Option.some.injEq, Prod.mk.injEq, reduceCtorEq] at he
  rename_i hc
  obtain ⟨hc1, hc2, hc3⟩ := hc
  obtain ⟨rfl, rfl⟩ := he
  generalize hq : a.eval x = q at h1
  cases h1 with
  | ptr i j hφ =>
    rename_i b base z'
    obtain ⟨b', base', arr, t', fz, q1, hh, hfz, hpos, hz, hsz, ho1, hr⟩ := hs.row hH
    rw [hφ] at q1
    simp only [Option.some.injEq, Prod.mk.injEq] at q1
    obtain ⟨rfl, rfl, rfl⟩ := q1
    have hcs := h2.cells hc3
    have hil := (List.getElem?_eq_some_iff.1 hi).1
    have hel := hz e (List.mem_of_getElem? hi)
    have hlt : base + i * z' + j + n ≤ arr.size := by
      have : (i + 1) * z' ≤ es.length * z' := Nat.mul_le_mul_right z' hil
      rw [Nat.add_mul] at this
      omega
    obtain ⟨w1, arr', r1, r2, r3, r4, r5, r6, r7⟩ := run_storeCells (P := P) (a.eval y).cells.toList (base + i * z' + j) 0 arr w hh hfz (by rw [Array.length_toList, hcs.1, hc1]; omega) (all_scal hc3 hcs)
    have hlv : (σ.H l).isSome = true := by rw [hH]; rfl
    have hN : cellsOf w1 b = cellsOf w b := by simp [cellsOf, r2, hh, r3]
    have hlen : (setAt e j (y'.ev env).cells).length = z' := by rw [setAt_length (by omega), hel]
    have hblk : BlkRel φ I w1 (.row z' (es.set i (setAt e j (y'.ev env).cells))) (b, base, z') := by
      refine .row r2 (hfz.size (by omega)) hpos (fun e' he' => ?_) (by rw [List.length_set]; omega) (fun i' j' hi' hj' => ?_) (fun i' j' e' u hi' hj' => ?_)
      · rcases List.mem_or_eq_of_mem_set he' with h | h
        · exact hz _ h
        · rw [h]; exact hlen
      · rw [List.length_set] at hi'
        rw [r7]
        split
        · rename_i hh1
          have hk : base + i' * z' + j' - (base + i * z' + j + 0) < (a.eval y).cells.size := by rw [Array.length_toList] at hh1; omega
          have := getD_one (all_scal hc3 hcs) hk
          simpa using this
        · exact ho1 i' j' hi' hj'
      · have kp : ∀ {v : V} {c : Value}, Rel φ I w v c → Rel φ I w1 v c := fun h => rel_turn hs hlv hφ r5 hN (fun _ _ h => h) h
        rw [r7]
        rw [List.getElem?_set] at hi'
        rw [Array.length_toList, hcs.1, hc1, Nat.add_zero]
        split at hi'
        · rename_i hii
          subst hii
          simp only [hil, if_true, Option.some.injEq] at hi'
          subst hi'
          rw [setAt_get (by omega)] at hj'
          rw [hc1] at hj'
          split at hj'
          · rename_i hjj
            rw [if_pos (by omega), show base + i * z' + j' - (base + i * z' + j) = j' - j by omega]
            have := hcs.2 _ _ hj'
            refine kp ?_
            simpa using this
          · rename_i hjj
            rw [if_neg (by omega)]
            exact kp (hr _ _ _ _ hi hj')
        · rename_i hii
          have hil' := (List.getElem?_eq_some_iff.1 hi').1
          have hel' := hz e' (List.mem_of_getElem? hi')
          have hjl' := (List.getElem?_eq_some_iff.1 hj').1
          rw [if_neg]
          · exact kp (hr _ _ _ _ hi' hj')
          · intro ⟨hh1, hh2⟩
            rcases Nat.lt_or_gt_of_ne hii with hlt' | hlt'
            · have : (i + 1) * z' ≤ i' * z' := Nat.mul_le_mul_right z' hlt'
              rw [Nat.add_mul] at this; omega
            · have : (i' + 1) * z' ≤ i * z' := Nat.mul_le_mul_right z' hlt'
              rw [Nat.add_mul] at this; omega
    obtain ⟨s1, s2⟩ := sim_turn hs hlv hφ r5 r4 hN r6 hblk
    refine ⟨undef, w1, φ, I, .inr ⟨?_, rfl⟩, .tup rfl (fun i v h => by simp at h), s1, s2⟩
    have hcz : ¬ ((a.eval y).cells.size ≠ n) := by rw [hcs.1, hc1]; simp
    simp only [execOp, Instr.storeAt, hq, Instr.sureAddr, storeVar, Sem.run_bind, Sem.run_pure, Result.andThen_ok, run_sizeOf hn, hcz, if_false, r1]
end
end Go.Proofs.YtmjbnfldehbmcaaDoor.Ab
