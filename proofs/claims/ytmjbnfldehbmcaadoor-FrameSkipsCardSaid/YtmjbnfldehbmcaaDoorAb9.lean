/-
The walk over the program's texts, told with what its values say: a part of it. No further condition.
-/
import Derived.Test.YtmjbnfldehbmcaaDoorAb8
namespace Go.Proofs.YtmjbnfldehbmcaaDoor.Ab
open Go.RowKit
set_option linter.unusedVariables false
set_option linter.unusedSimpArgs false
section
variable {P : Program} {φ : Phi} {I : Nat → Prop} {σ : St} {w : World} {nt : Nat} {env : Env} {a : Act}
theorem setAt_length {cs vs : List V} {o : Nat} (h : o + vs.length ≤ cs.length) : (setAt cs o vs).length = cs.length := by
  simp [setAt]; omega
theorem setAt_get {cs vs : List V} {o : Nat} (h : o + vs.length ≤ cs.length) (i : Nat) : (setAt cs o vs)[i]? = if o ≤ i ∧ i < o + vs.length then vs[i - o]? else cs[i]? := by
  unfold setAt
  rw [List.append_assoc, List.getElem?_append, List.length_take, Nat.min_eq_left (by omega)]
  by_cases h1 : i < o
  · rw [if_pos h1, if_neg (by omega), List.getElem?_take, if_pos h1]
  · rw [if_neg h1, List.getElem?_append]
    by_cases h2 : i - o < vs.length
    · rw [if_pos h2, if_pos (by omega)]
    · rw [if_neg h2, if_neg (by omega), List.getElem?_drop]
      congr 1; omega
theorem foldSet : ∀ (vs : List Value) (o k : Nat) (cs : Array Value), o + k + vs.length ≤ cs.size →
    ((vs.zipIdx k).foldl (fun (cs : Array Value) (p : Value × Nat) => cs.setIfInBounds (o + p.2) p.1) cs).size = cs.size ∧
    ∀ i, ((vs.zipIdx k).foldl (fun (cs : Array Value) (p : Value × Nat) => cs.setIfInBounds (o + p.2) p.1) cs).getD i undef = if o + k ≤ i ∧ i < o + k + vs.length then vs.getD (i - (o + k)) undef else cs.getD i undef
  | [], o, k, cs, h => by simp; intro i h1 h2; omega
  | v :: vs, o, k, cs, h => by
    simp only [List.length_cons] at h
    obtain ⟨h1, h2⟩ := foldSet vs o (k + 1) (cs.setIfInBounds (o + k) v) (by simp; omega)
    rw [List.zipIdx_cons, List.foldl_cons]
    refine ⟨by rw [h1]; simp, fun i => ?_⟩
    rw [h2 i]
    by_cases ha : i = o + k
    · subst ha
      rw [if_neg (by omega), if_pos (by simp), Nat.sub_self]
      simp [show o + k < cs.size by omega]
    · by_cases hb : o + (k + 1) ≤ i ∧ i < o + (k + 1) + vs.length
      · rw [if_pos hb, if_pos (by simp; omega), show i - (o + k) = (i - (o + (k + 1))) + 1 by omega]
        simp
      · rw [if_neg hb, if_neg (by simp; omega)]
        simp [Array.getElem?_setIfInBounds, Ne.symm ha]
theorem fillSet (vs : Array Value) (o : Nat) (cs : Array Value) (h : o + vs.size ≤ cs.size) :
    (vs.zipIdx.foldl (fun (cs : Array Value) (p : Value × Nat) => cs.setIfInBounds (o + p.2) p.1) cs).size = cs.size ∧
    ∀ i, (vs.zipIdx.foldl (fun (cs : Array Value) (p : Value × Nat) => cs.setIfInBounds (o + p.2) p.1) cs).getD i undef = if o ≤ i ∧ i < o + vs.size then vs.getD (i - o) undef else cs.getD i undef := by
  have e : vs.zipIdx.foldl (fun (cs : Array Value) (p : Value × Nat) => cs.setIfInBounds (o + p.2) p.1) cs = (vs.toList.zipIdx 0).foldl (fun (cs : Array Value) (p : Value × Nat) => cs.setIfInBounds (o + p.2) p.1) cs := by
    rw [← Array.foldl_toList, Array.toList_zipIdx]
  obtain ⟨h1, h2⟩ := foldSet vs.toList o 0 cs (by simpa using h)
  rw [e]
  refine ⟨h1, fun i => ?_⟩
  rw [h2 i]
  simp
/-- A part is laid into cells. -/
theorem RelA.set {cs : List V} {as : Array Value} (h : RelA φ I w cs as) {vs : List V} {bs : Array Value} (hv : RelA φ I w vs bs) {o : Nat} (ho : o + vs.length ≤ cs.length) :
    RelA φ I w (setAt cs o vs) (bs.zipIdx.foldl (fun (cs : Array Value) (p : Value × Nat) => cs.setIfInBounds (o + p.2) p.1) as) := by
  obtain ⟨h1, h2⟩ := fillSet bs o as (by rw [hv.1, h.1]; exact ho)
  refine ⟨by rw [h1, setAt_length ho, h.1], fun i v hi => ?_⟩
  rw [setAt_get ho] at hi
  rw [h2 i, hv.1]
  split at hi
  · rename_i hc
    rw [if_pos hc]
    exact hv.2 _ _ hi
  · rename_i hc
    rw [if_neg hc]
    exact h.2 _ _ hi
theorem fieldD_info {s : TypeId} {fs : Array Field} (hu : P.underlying s = some (.struct fs)) {i : Nat} {d : Nat × TypeId × Nat} (h : fieldD P s i = some d) : ∃ f, fs[i]? = some f ∧ d = (f.offset, f.type, d.2.2) ∧ sizeD P f.type = some d.2.2 := by
  unfold fieldD at h
  rw [hu] at h
  simp only [Option.bind_eq_some_iff, Option.map_eq_some_iff] at h
  obtain ⟨f, hf, n, hn, rfl⟩ := h
  exact ⟨f, hf, rfl, hn⟩
theorem build_fill (hf : EnvR φ I w nt env a) (place : Nat → Option (Nat × Nat)) : ∀ (parts : List (Nat × Operand)) (ps : List (Nat × Nat × Opd)) (z : List V) (zc : Array Value) (cs : List V),
    parts.length = ps.length → (∀ (i : Nat) (p : Nat × Nat × Opd), ps[i]? = some p → ∃ q, parts[i]? = some q ∧ place q.1 = some (p.1, p.2.1) ∧ cOpd nt q.2 = some p.2.2) → RelA φ I w z zc → buildV env z ps = some cs →
    ∃ as, Instr.fill place zc (parts.map fun q => (q.1, a.eval q.2)) = some as ∧ RelA φ I w cs as
  | [], [], z, zc, cs, _, _, hz, h => by simp only [buildV, Option.some.injEq] at h; subst h; exact ⟨zc, rfl, hz⟩
  | q :: parts, (off, size, x) :: ps, z, zc, cs, hl, hp, hz, h => by
    obtain ⟨q', hq', hpl, hx⟩ := hp 0 _ rfl
    simp only [List.getElem?_cons_zero, Option.some.injEq] at hq'
    subst hq'
    unfold buildV at h
    split at h
    · rename_i hc
      obtain ⟨hc1, hc2, hc3⟩ := hc
      have hr := cOpd_rel hf hx
      obtain ⟨hs1, hs2⟩ := hr.cells hc3
      simp only at hpl hx hr hs1 hs2
      have hset := RelA.set hz ⟨hs1, hs2⟩ (o := off) (by omega)
      obtain ⟨as, has, hra⟩ := build_fill hf place parts ps _ _ cs (by simpa using hl) (fun i p hpi => by simpa using hp (i + 1) p (by simpa using hpi)) hset h
      refine ⟨as, ?_, hra⟩
      rw [List.map_cons, Instr.fill, hpl]
      have e1 : ¬ ((a.eval q.2).cells.size ≠ size || decide (off + (a.eval q.2).cells.size > zc.size)) = true := by
        simp only [Bool.or_eq_true, decide_eq_true_eq, not_or, Decidable.not_not]
        have := hz.1
        omega
      simp only
      rw [if_neg (by simpa using e1)]
      exact has
    · simp at h
theorem zeroC_run {t : TypeId} {z : List V} (h : zeroC P t = some z) : ∃ c, (zeroValue t).run P w = .ok c w ∧ RelA φ I w z c.cells ∧ z.all V.scal = true ∧ sizeD P t = some z.length ∧ 0 < z.length := by
  simp only [zeroC, Option.bind_eq_some_iff] at h
  obtain ⟨i, hi, c, hc, v, hv, h⟩ := h
  split at h <;> simp at h
  rename_i hcond
  subst h
  have hr := toV_rel (φ := φ) (I := I) (w := w) _ _ _ hv
  exact ⟨c, by simp [zeroValue, typeInfo, hi, hc], hr.cells hcond.1, hcond.1, by simp [sizeD, hi, hcond.2.1], by omega⟩
theorem mapM_sizes : ∀ (l : List Field), (l.all fun f => (sizeD P f.type).isSome) = true → (l.mapM (m := Sem) fun f => do pure (f.offset, ← sizeOf f.type)).run P w = .ok (l.map fun f => (f.offset, (sizeD P f.type).getD 0)) w
  | [], _ => by simp
  | f :: l, h => by
    simp only [List.all_cons, Bool.and_eq_true] at h
    obtain ⟨n, hn⟩ := Option.isSome_iff_exists.1 h.1
    rw [List.mapM_cons]
    simp only [Sem.run_bind, run_sizeOf hn, Result.andThen_ok, Sem.run_pure, mapM_sizes l h.2, List.map_cons, hn, Option.getD_some]
theorem quiet_build {o : Oper} {t : TypeId} {fs : Array Field} {parts : Array (Nat × Operand)} {ps : List (Nat × Nat × Opd)} {z : List V} {v : V} (ho : o.op = .build t parts) (hu : P.underlying t = some (.struct fs)) (hz : zeroC P t = some z)
    (hall : fs.all (fun f => (sizeD P f.type).isSome) = true)
    (hps : (parts.toList.mapM fun (p : Nat × Operand) => (fieldD P t p.1).bind fun d => (cOpd nt p.2).map fun x => (d.1, d.2.2, x)) = some ps)
    (hf : EnvR φ I w nt env a) {σ' : St} (he : evI env σ (.build z ps) = some (v, σ')) : σ' = σ ∧ Quiet P φ I w a o v := by
  obtain ⟨dst, op', ty, pos, after, guard⟩ := o
  simp only at ho; subst ho
  simp only [evI, Option.map_eq_some_iff, Prod.mk.injEq] at he
  obtain ⟨cs, hcs, rfl, rfl⟩ := he
  refine ⟨rfl, ?_⟩
  obtain ⟨zc, hzc, hzr, _, _, _⟩ := zeroC_run (φ := φ) (I := I) (w := w) hz
  obtain ⟨hl, hg⟩ := mapM_some hps
  obtain ⟨as, has, hra⟩ := build_fill hf (fun i => (fs.toList.map fun f => (f.offset, (sizeD P f.type).getD 0))[i]?) parts.toList ps z zc.cells cs (by omega) (fun i p hp => by
    obtain ⟨q, hq, hqp⟩ := hg i p hp
    simp only [Option.bind_eq_some_iff, Option.map_eq_some_iff] at hqp
    obtain ⟨d, hd, x, hx, rfl⟩ := hqp
    obtain ⟨f, hf1, hf2, hf3⟩ := fieldD_info hu hd
    refine ⟨q, hq, ?_, hx⟩
    have : fs.toList[q.1]? = some f := by simpa using hf1
    simp only [List.getElem?_map, this, Option.map_some, hf3, Option.getD_some]
    rw [hf2]) hzr hcs
  refine ⟨.agg as, ?_, .agg hra.1 hra.2⟩
  have hm : (fs.mapM (m := Sem) fun f => do pure (f.offset, ← sizeOf f.type)).run P w = .ok (fs.toList.map fun f => (f.offset, (sizeD P f.type).getD 0)).toArray w := by
    rw [Array.mapM_eq_mapM_toList]
    simp only [Functor.map]
    have := mapM_sizes (P := P) (w := w) fs.toList (by simpa using hall)
    rw [show (Sem.bind (fs.toList.mapM (m := Sem) fun f => do pure (f.offset, ← sizeOf f.type)) (Sem.pure ∘ List.toArray)).run P w = _ from Sem.run_bind' P _ _ w, this]
    rfl
  simp only [execOp, Instr.build, Sem.run_bind, hzc, Result.andThen_ok, run_underlying hu, hm]
  have hmap : (parts.map fun x => (x.1, a.eval x.2)).toList = parts.toList.map fun q => (q.1, a.eval q.2) := by simp
  have hpl : (fun (i : Nat) => (fs.toList.map fun f => (f.offset, (sizeD P f.type).getD 0)).toArray[i]?) = fun (i : Nat) => (fs.toList.map fun f => (f.offset, (sizeD P f.type).getD 0))[i]? := by
    funext i; simp
  simp only [hmap, hpl, has, Sem.run_pure]
  rfl
end
end Go.Proofs.YtmjbnfldehbmcaaDoor.Ab
