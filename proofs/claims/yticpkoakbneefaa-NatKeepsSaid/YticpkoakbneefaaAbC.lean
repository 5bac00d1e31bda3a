/-
The walk over the program's texts, told with what its values say: a part of it. No further condition.
-/
import Derived.Test.YticpkoakbneefaaAb8
namespace Go.Proofs.Yticpkoakbneefaa.Ab
open Go.RowKit
set_option linter.unusedVariables false
set_option linter.unusedSimpArgs false
section
variable {P : Program} {φ : Phi} {I : Nat → Prop} {σ : St} {w : World} {nt : Nat} {env : Env} {a : Act}
theorem setAt_length {cs vs : List V} {o : Nat} (h : o + vs.length ≤ cs.length) : (setAt cs o vs).length = cs.length := by
  simp [setAt]; omega
theorem setAt_get {cs vs : List V} {o : Nat} (h : o + vs.length ≤ cs.length) (i : Nat) : (setAt cs o vs)[i]? = if o ≤ i ∧ i < o + vs.length then vs[i - o]? else cs[i]? := by
  unfold setAt
  rw [List.append_assoc, List.getElem?_append, List.length_take, Nat.min_eq_left (by omega)]
  by_cases h1 : i < o
  · rw [if_pos h1, if_neg (by omega), List.getElem?_take, if_pos h1]
  · rw [if_neg h1, List.getElem?_append]
    by_cases h2 : i - o < vs.length
    · rw [if_pos h2, if_pos (by omega)]
    · rw [if_neg h2, if_neg (by omega), List.getElem?_drop]
      congr 1; omega
theorem foldSet : ∀ (vs : List Value) (o k : Nat) (cs : Array Value), o + k + vs.length ≤ cs.size →
    ((vs.zipIdx k).foldl (fun (cs : Array Value) (p : Value × Nat) => cs.setIfInBounds (o + p.2) p.1) cs).size = cs.size ∧
    ∀ i, ((vs.zipIdx k).foldl (fun (cs : Array Value) (p : Value × Nat) => cs.setIfInBounds (o + p.2) p.1) cs).getD i undef = if o + k ≤ i ∧ i < o + k + vs.length then vs.getD (i - (o + k)) undef else cs.getD i undef
  | [], o, k, cs, h => by simp; intro i h1 h2; omega
  | v :: vs, o, k, cs, h => by
    simp only [List.length_cons] at h
    obtain ⟨h1, h2⟩ := foldSet vs o (k + 1) (cs.setIfInBounds (o + k) v) (by simp; omega)
    rw [List.zipIdx_cons, List.foldl_cons]
    refine ⟨by rw [h1]; simp, fun i => ?_⟩
    rw [h2 i]
    by_cases ha : i = o + k
    · subst ha
      rw [if_neg (by omega), if_pos (by simp), Nat.sub_self]
      simp [show o + k < cs.size by omega]
    · by_cases hb : o + (k + 1) ≤ i ∧ i < o + (k + 1) + vs.length
      · rw [if_pos hb, if_pos (by simp; omega), show i - (o + k) = (i - (o + (k + 1))) + 1 by omega]
        simp
      · rw [if_neg hb, if_neg (by simp; omega)]
        simp [Array.getElem?_setIfInBounds, Ne.symm ha]
theorem fillSet (vs : Array Value) (o : Nat) (cs : Array Value) (h : o + vs.size ≤ cs.size) :
    (vs.zipIdx.foldl (fun (cs : Array Value) (p : Value × Nat) => cs.setIfInBounds (o + p.2) p.1) cs).size = cs.size ∧
    ∀ i, (vs.zipIdx.foldl (fun (cs : Array Value) (p : Value × Nat) => cs.setIfInBounds (o + p.2) p.1) cs).getD i undef = if o ≤ i ∧ i < o + vs.size then vs.getD (i - o) undef else cs.getD i undef := by
  have e : vs.zipIdx.foldl (fun (cs : Array Value) (p : Value × Nat) => cs.setIfInBounds (o + p.2) p.1) cs = (vs.toList.zipIdx 0).foldl (fun (cs : Array Value) (p : Value × Nat) => cs.setIfInBounds (o + p.2) p.1) cs := by
    rw [← Array.foldl_toList, Array.toList_zipIdx]
  obtain ⟨h1, h2⟩ := foldSet vs.toList o 0 cs (by simpa using h)
  rw [e]
  refine ⟨h1, fun i => ?_⟩
  rw [h2 i]
  simp
/-- A part is laid into cells. -/
theorem RelA.set {cs : List V} {as : Array Value} (h : RelA φ I w cs as) {vs : List V} {bs : Array Value} (hv : RelA φ I w vs bs) {o : Nat} (ho : o + vs.length ≤ cs.length) :
    RelA φ I w (setAt cs o vs) (bs.zipIdx.foldl (fun (cs : Array Value) (p : Value × Nat) => cs.setIfInBounds (o + p.2) p.1) as) := by
  obtain ⟨h1, h2⟩ := fillSet bs o as (by rw [hv.1, h.1]; exact ho)
  refine ⟨by rw [h1, setAt_length ho, h.1], fun i v hi => ?_⟩
  rw [setAt_get ho] at hi
  rw [h2 i, hv.1]
  split at hi
  · rename_i hc
    rw [if_pos hc]
    exact hv.2 _ _ hi
  · rename_i hc
    rw [if_neg hc]
    exact h.2 _ _ hi
theorem fieldD_info {s : TypeId} {fs : Array Field} (hu : P.underlying s = some (.struct fs)) {i : Nat} {d : Nat × TypeId × Nat} (h : fieldD P s i = some d) : ∃ f, fs[i]? = some f ∧ d = (f.offset, f.type, d.2.2) ∧ sizeD P f.type = some d.2.2 := by
  unfold fieldD at h
  rw [hu] at h
  simp only [Option.bind_eq_some_iff, Option.map_eq_some_iff] at h
  obtain ⟨f, hf, n, hn, rfl⟩ := h
  exact ⟨f, hf, rfl, hn⟩
theorem build_fill (hf : EnvR φ I w nt env a) (place : Nat → Option (Nat × Nat)) : ∀ (parts : List (Nat × Operand)) (ps : List (Nat × Nat × Opd)) (z : List V) (zc : Array Value) (cs : List V),
    parts.length = ps.length → (∀ (i : Nat) (p : Nat × Nat × Opd), ps[i]? = some p → ∃ q, parts[i]? = some q ∧ place q.1 = some (p.1, p.2.1) ∧ cOpd nt q.2 = some p.2.2) → RelA φ I w z zc → buildV env z ps = some cs →
    ∃ as, Instr.fill place zc (parts.map fun q => (q.1, a.eval q.2)) = some as ∧ RelA φ I w cs as
  | [], [], z, zc, cs, _, _, hz, h => by simp only [buildV, Option.some.injEq] at h; subst h; exact ⟨zc, rfl, hz⟩
  | q :: parts, (off, size, x) :: ps, z, zc, cs, hl, hp, hz, h => by
    obtain ⟨q', hq', hpl, hx⟩ := hp 0 _ rfl
    simp only [List.getElem?_cons_zero, Option.some.injEq] at hq'
    subst hq'
    unfold buildV at h
    split at h
    · rename_i hc
      obtain ⟨hc1, hc2, hc3⟩ := hc
      have hr := cOpd_rel hf hx
      obtain ⟨hs1, hs2⟩ := hr.cells hc3
      simp only at hpl hx hr hs1 hs2
      have hset := RelA.set hz ⟨hs1, hs2⟩ (o := off) (by omega)
      obtain ⟨as, has, hra⟩ := build_fill hf place parts ps _ _ cs (by simpa using hl) (fun i p hpi => by simpa using hp (i + 1) p (by simpa using hpi)) hset h
      refine ⟨as, ?_, hra⟩
      rw [List.map_cons, Instr.fill, hpl]
      have e1 : ¬ ((a.eval q.2).cells.size ≠ size || decide (off + (a.eval q.2).cells.size > zc.size)) = true := by
        simp only [Bool.or_eq_true, decide_eq_true_eq, not_or, Decidable.not_not]
        have := hz.1
        omega
      simp only
      rw [if_neg (by simpa using e1)]
      exact has
    · simp at h
theorem zeroC_run {t : TypeId} {z : List V} (h : zeroC P t = some z) : ∃ c, (zeroValue t).run P w = .ok c w ∧ RelA φ I w z c.cells ∧ z.all V.scal = true ∧ sizeD P t = some z.length ∧ 0 < z.length := by
  simp only [zeroC, Option.bind_eq_some_iff] at h
  obtain ⟨i, hi, c, hc, v, hv, h⟩ := h
  split at h <;> simp at h
  rename_i hcond
  subst h
  have hr := toV_rel (φ := φ) (I := I) (w := w) _ _ _ hv
  exact ⟨c, by simp [zeroValue, typeInfo, hi, hc], hr.cells hcond.1, hcond.1, by simp [sizeD, hi, hcond.2.1], by omega⟩
theorem mapM_sizes : ∀ (l : List Field), (l.all fun f => (sizeD P f.type).isSome) = true → (l.mapM (m := Sem) fun f => do pure (f.offset, ← sizeOf f.type)).run P w = .ok (l.map fun f => (f.offset, (sizeD P f.type).getD 0)) w
  | [], _ => by simp
  | f :: l, h => by
    simp only [List.all_cons, Bool.and_eq_true] at h
    obtain ⟨n, hn⟩ := Option.isSome_iff_exists.1 h.1
    rw [List.mapM_cons]
    simp only [Sem.run_bind, run_sizeOf hn, Result.andThen_ok, Sem.run_pure, mapM_sizes l h.2, List.map_cons, hn, Option.getD_some]
theorem quiet_build {o : Oper} {t : TypeId} {fs : Array Field} {parts : Array (Nat × Operand)} {ps : List (Nat × Nat × Opd)} {z : List V} {v : V} (ho : o.op = .build t parts) (hu : P.underlying t = some (.struct fs)) (hz : zeroC P t = some z)
    (hall : fs.all (fun f => (sizeD P f.type).isSome) = true)
    (hps : (parts.toList.mapM fun (p : Nat × Operand) => (fieldD P t p.1).bind fun d => (cOpd nt p.2).map fun x => (d.1, d.2.2, x)) = some ps)
    (hf : EnvR φ I w nt env a) {σ' : St} (he : evI env σ (.build z ps) = some (v, σ')) : σ' = σ ∧ Quiet P φ I w a o v := by
  obtain ⟨dst, op', ty, pos, after, guard⟩ := o
  simp only at ho; subst ho
  simp only [evI, Option.map_eq_some_iff, Prod.mk.injEq] at he
  obtain ⟨cs, hcs, rfl, rfl⟩ := he
  refine ⟨rfl, ?_⟩
  obtain ⟨zc, hzc, hzr, _, _, _⟩ := zeroC_run (φ := φ) (I := I) (w := w) hz
  obtain ⟨hl, hg⟩ := mapM_some hps
  obtain ⟨as, has, hra⟩ := build_fill hf (fun i => (fs.toList.map fun f => (f.offset, (sizeD P f.type).getD 0))[i]?) parts.toList ps z zc.cells cs (by omega) (fun i p hp => by
    obtain ⟨q, hq, hqp⟩ := hg i p hp
    simp only [Option.bind_eq_some_iff, Option.map_eq_some_iff] at hqp
    obtain ⟨d, hd, x, hx, rfl⟩ := hqp
    obtain ⟨f, hf1, hf2, hf3⟩ := fieldD_info hu hd
    refine ⟨q, hq, ?_, hx⟩
    have : fs.toList[q.1]? = some f := by simpa using hf1
    simp only [List.getElem?_map, this, Option.map_some, hf3, Option.getD_some]
    rw [hf2]) hzr hcs
  refine ⟨.agg as, ?_, .agg hra.1 hra.2⟩
  have hm : (fs.mapM (m := Sem) fun f => do pure (f.offset, ← sizeOf f.type)).run P w = .ok (fs.toList.map fun f => (f.offset, (sizeD P f.type).getD 0)).toArray w := by
    rw [Array.mapM_eq_mapM_toList]
    simp only [Functor.map]
    have := mapM_sizes (P := P) (w := w) fs.toList (by simpa using hall)
    rw [show (Sem.bind (fs.toList.mapM (m := Sem) fun f => do pure (f.offset, ← sizeOf f.type)) (Sem.pure ∘ List.toArray)).run P w = _ from Sem.run_bind' P _ _ w, this]
    rfl
  simp only [execOp, Instr.build, Sem.run_bind, hzc, Result.andThen_ok, run_underlying hu, hm]
  have hmap : (parts.map fun x => (x.1, a.eval x.2)).toList = parts.toList.map fun q => (q.1, a.eval q.2) := by simp
  have hpl : (fun (i : Nat) => (fs.toList.map fun f => (f.offset, (sizeD P f.type).getD 0)).toArray[i]?) = fun (i : Nat) => (fs.toList.map fun f => (f.offset, (sizeD P f.type).getD 0))[i]? := by
    funext i; simp
  simp only [hmap, hpl, has, Sem.run_pure]
  rfl
end
end Go.Proofs.Yticpkoakbneefaa.Ab
namespace Go.Proofs.Yticpkoakbneefaa.Ab
open Go.RowKit
set_option linter.unusedVariables false
set_option linter.unusedSimpArgs false
def Phi.put (φ : Phi) (n : Nat) (x : Nat × Nat × Nat) : Phi := fun l => if l = n then some x else φ l
/-- The streams are as they were. -/
structure Same (w w' : World) : Prop where
  os : w'.os = w.os
  tape : w'.tape = w.tape
  output : w'.output = w.output
theorem Same.refl (w : World) : Same w w := ⟨rfl, rfl, rfl⟩
section
variable {P : Program} {φ : Phi} {I : Nat → Prop} {σ : St} {w w' : World} {nt : Nat} {env : Env} {a : Act}
theorem Sim.fresh (hs : Sim φ I σ w) : σ.H σ.n = none := by
  cases h : σ.H σ.n with
  | none => rfl
  | some b =>
    obtain ⟨x, hx, _⟩ := hs.live _ _ h
    have := hs.dom _ _ hx
    omega
theorem cellsOf_push {o : Obj} (hh : w'.heap = w.heap.push o) {b : Nat} (hb : b < w.heap.size) : cellsOf w' b = cellsOf w b := by
  simp only [cellsOf, hh, Array.getElem?_push]
  rw [if_neg (by omega)]
theorem heap_push {o : Obj} (hh : w'.heap = w.heap.push o) {b : Nat} (hb : b < w.heap.size) : w'.heap[b]? = w.heap[b]? := by
  rw [hh, Array.getElem?_push, if_neg (by omega)]
theorem put_old (hs : Sim φ I σ w) {x : Nat × Nat × Nat} : ∀ l y, φ l = some y → (φ.put σ.n x) l = some y := fun l y h => by
  unfold Phi.put
  rw [if_neg (by have := hs.dom _ _ h; omega)]
  exact h
/-- What was there stays what it is, where only live blocks turn and new ones come. -/
theorem Rel.keep (hs : Sim φ I σ w) {φ' : Phi} (hφ : ∀ l y, φ l = some y → φ' l = some y) (hI : ∀ b, I b → w'.heap[b]? = w.heap[b]?) (hN : ∀ b, b < w.heap.size → cellsOf w' b = cellsOf w b)
    {v : V} {c : Value} (h : Rel φ I w v c) : Rel φ' I w' v c :=
  h.mono hφ (fun _ h => h) hI (fun l x hx => hN _ (hs.blk l x hx))
theorem BlkRel.keep (hs : Sim φ I σ w) {φ' : Phi} (hφ : ∀ l y, φ l = some y → φ' l = some y) (hI : ∀ b, I b → w'.heap[b]? = w.heap[b]?) (hN : ∀ b, b < w.heap.size → cellsOf w' b = cellsOf w b)
    {b : Blk} {x : Nat × Nat × Nat} (hb : w'.heap[x.1]? = w.heap[x.1]?) (h : BlkRel φ I w b x) : BlkRel φ' I w' b x := by
  cases h with
  | row hh hfz hpos hz hsz ho hr => exact .row (hb.trans hh) hfz hpos hz hsz ho (fun i j e v h1 h2 => (hr i j e v h1 h2).keep hs hφ hI hN)
  | map hh hn hr => exact .map (hb.trans hh) hn (fun i kv e h1 h2 => ⟨(hr i kv e h1 h2).1.keep hs hφ hI hN, (hr i kv e h1 h2).2.keep hs hφ hI hN⟩)
  | lp hh hr => exact .lp (hb.trans hh) hr
theorem upd_same (H : Nat → Option Blk) (l : Nat) (b : Option Blk) : upd H l b l = b := by simp [upd]
theorem upd_ne (H : Nat → Option Blk) {l k : Nat} (b : Option Blk) (h : k ≠ l) : upd H l b k = H k := by simp [upd, h]
/-- A new block. -/
theorem sim_new (hs : Sim φ I σ w) {o : Obj} (hh : w'.heap = w.heap.push o) (hsame : Same w w') {blk : Blk} {z : Nat} (hb : ∀ φ', (∀ l y, φ l = some y → φ' l = some y) → BlkRel φ' I w' blk (w.heap.size, 0, z)) :
    Evo φ I σ w (φ.put σ.n (w.heap.size, 0, z)) I (σ.new blk) w' ∧ Sim (φ.put σ.n (w.heap.size, 0, z)) I (σ.new blk) w' := by
  have hφ := put_old hs (x := (w.heap.size, 0, z))
  have hsz : w'.heap.size = w.heap.size + 1 := by rw [hh]; simp
  have hI : ∀ b, I b → w'.heap[b]? = w.heap[b]? := fun b h => heap_push hh (hs.imm b h)
  have hN : ∀ b, b < w.heap.size → cellsOf w' b = cellsOf w b := fun b h => cellsOf_push hh h
  have hlive : ∀ b, Live (φ.put σ.n (w.heap.size, 0, z)) (σ.new blk) b → (Live φ σ b ∧ b < w.heap.size) ∨ b = w.heap.size := fun b hl => by
    obtain ⟨l, x, h1, h2, rfl⟩ := hl
    by_cases hn : l = σ.n
    · subst hn
      simp only [Phi.put, if_true, Option.some.injEq] at h2
      subst h2
      exact .inr rfl
    · simp only [Phi.put, if_neg hn] at h2
      simp only [St.new, upd_ne _ _ hn] at h1
      exact .inl ⟨⟨l, x, h1, h2, rfl⟩, hs.blk _ _ h2⟩
  refine ⟨⟨hφ, fun _ h => h, fun _ h => .inl h, fun b hl => ?_, by omega, hN, fun b h _ => heap_push hh h, hsame.os, hsame.tape, hsame.output, rfl, .same fun b h => heap_push hh h⟩, ⟨fun l x h => ?_, fun l x h => ?_, fun l b h => ?_, fun b hl hi => ?_, fun l l' x x' h1 h2 h3 h4 he => ?_, fun b h => ?_, fun b h => ⟨(hs.base b h).1, (hI b (hs.base b h).1).trans (hs.base b h).2⟩⟩⟩
  · rcases hlive b hl with h | h
    · exact .inl h.1
    · exact .inr (by omega)
  · simp only [Phi.put] at h
    split at h
    · simp only [St.new]; omega
    · have := hs.dom _ _ h; simp only [St.new]; omega
  · simp only [Phi.put] at h
    split at h
    · simp only [Option.some.injEq] at h; subst h; simp only; omega
    · have := hs.blk _ _ h; omega
  · by_cases hn : l = σ.n
    · subst hn
      simp only [St.new, upd_same, Option.some.injEq] at h
      subst h
      exact ⟨_, by simp [Phi.put], hb _ hφ⟩
    · simp only [St.new, upd_ne _ _ hn] at h
      obtain ⟨x, h1, h2⟩ := hs.live _ _ h
      exact ⟨x, hφ _ _ h1, h2.keep hs hφ hI hN (heap_push hh (hs.blk _ _ h1))⟩
  · rcases hlive b hl with h | h
    · exact hs.notI b h.1 hi
    · have := hs.imm b hi; omega
  · by_cases hn : l = σ.n <;> by_cases hn' : l' = σ.n
    · omega
    · subst hn
      simp only [Phi.put, if_true, Option.some.injEq] at h3
      simp only [Phi.put, if_neg hn'] at h4
      have := hs.blk _ _ h4
      subst h3
      simp only at he; omega
    · subst hn'
      simp only [Phi.put, if_true, Option.some.injEq] at h4
      simp only [Phi.put, if_neg hn] at h3
      have := hs.blk _ _ h3
      subst h4
      simp only at he; omega
    · simp only [Phi.put, if_neg hn] at h3
      simp only [Phi.put, if_neg hn'] at h4
      simp only [St.new, upd_ne _ _ hn] at h1
      simp only [St.new, upd_ne _ _ hn'] at h2
      exact hs.inj _ _ _ _ h1 h2 h3 h4 he
  · have := hs.imm b h; omega
theorem row_new (hs : Sim φ I σ w) {arr : Array Value} {t : TypeId} {fz : Nat × Nat} (hh : w'.heap = w.heap.push (.cells arr t fz)) (hsame : Same w w') (hfz : fits arr fz) {z : Nat} (hz : 0 < z) {es : List (List V)}
    (he : ∀ e ∈ es, e.length = z) (hsz : es.length * z ≤ arr.size) (ho : ∀ i j, i < es.length → j < z → (arr.getD (i * z + j) undef).oneCell' = true) (hr : ∀ i j e v, es[i]? = some e → e[j]? = some v → Rel φ I w v (arr.getD (i * z + j) undef)) :
    Evo φ I σ w (φ.put σ.n (w.heap.size, 0, z)) I (σ.new (.row z es)) w' ∧ Sim (φ.put σ.n (w.heap.size, 0, z)) I (σ.new (.row z es)) w' :=
  sim_new hs hh hsame fun φ' hφ => .row (arr := arr) (t := t) (fz := fz) (by rw [hh]; simp) hfz hz he (by omega) (fun i j hi hj => by rw [Nat.zero_add]; exact ho i j hi hj)
    (fun i j e v h1 h2 => by
      rw [Nat.zero_add]
      exact (hr i j e v h1 h2).keep hs hφ (fun b h => heap_push hh (hs.imm b h)) (fun b h => cellsOf_push hh h))
/-- Where a block of cells turns alone. -/
theorem Loops.cells {b : Nat} {arr : Array Value} {t : TypeId} {fz : Nat × Nat} (hb : w.heap[b]? = some (.cells arr t fz)) (hoth : ∀ k, k ≠ b → w'.heap[k]? = w.heap[k]?) : Loops w w' := fun k r hr =>
  ⟨r.state, r.pending, by rw [hoth k (fun e => by rw [e, hb] at hr; simp at hr)]; exact hr⟩
/-- A live row's cells turn; its name is the old one or a new one (then the old one is gone). -/
theorem sim_turn (hs : Sim φ I σ w) {l : Nat} {x : Nat × Nat × Nat} (hl : (σ.H l).isSome = true) (hx : φ l = some x) (hoth : ∀ k, k ≠ x.1 → w'.heap[k]? = w.heap[k]?) (hsize : w'.heap.size = w.heap.size)
    (hN : cellsOf w' x.1 = cellsOf w x.1) (hsame : Same w w') {blk : Blk} (hb : BlkRel φ I w' blk x) (hlp : Loops w w') : Evo φ I σ w φ I (σ.set l blk) w' ∧ Sim φ I (σ.set l blk) w' := by
  have hlv : Live φ σ x.1 := ⟨l, x, hl, hx, rfl⟩
  have hI : ∀ b, I b → w'.heap[b]? = w.heap[b]? := fun b h => hoth b (fun e => hs.notI _ hlv (e ▸ h))
  have hN' : ∀ b, b < w.heap.size → cellsOf w' b = cellsOf w b := fun b _ => by
    by_cases e : b = x.1
    · rw [e]; exact hN
    · unfold cellsOf; rw [hoth b e]
  have hlive : ∀ b, Live φ (σ.set l blk) b → Live φ σ b := fun b ⟨k, y, h1, h2, h3⟩ => by
    refine ⟨k, y, ?_, h2, h3⟩
    by_cases e : k = l
    · subst e; exact hl
    · simpa only [St.set, upd_ne _ _ e] using h1
  refine ⟨⟨fun _ _ h => h, fun _ h => h, fun _ h => .inl h, fun b h => .inl (hlive b h), by omega, hN', fun b _ hn => hoth b (fun e => hn (e ▸ hlv)), hsame.os, hsame.tape, hsame.output, rfl, hlp⟩,
    ⟨hs.dom, fun k y h => by have := hs.blk _ _ h; omega, fun k b h => ?_, fun b h => hs.notI b (hlive b h), fun k k' y y' h1 h2 h3 h4 he => ?_, fun b h => by have := hs.imm b h; omega, fun b h => ⟨(hs.base b h).1, (hI b (hs.base b h).1).trans (hs.base b h).2⟩⟩⟩
  · by_cases e : k = l
    · subst e
      simp only [St.set, upd_same, Option.some.injEq] at h
      subst h
      exact ⟨x, hx, hb⟩
    · simp only [St.set, upd_ne _ _ e] at h
      obtain ⟨y, h1, h2⟩ := hs.live _ _ h
      refine ⟨y, h1, h2.keep hs (fun _ _ h => h) hI hN' (hoth _ (fun e' => e (hs.inj _ _ _ _ (by rw [h]; rfl) hl h1 hx e')))⟩
  · have g : ∀ k, ((σ.set l blk).H k).isSome = true → (σ.H k).isSome = true := fun k h => by
      by_cases e : k = l
      · subst e; exact hl
      · simpa only [St.set, upd_ne _ _ e] using h
    exact hs.inj _ _ _ _ (g _ h1) (g _ h2) h3 h4 he
theorem sim_kill (hs : Sim φ I σ w) (l : Nat) : Evo φ I σ w φ I (σ.kill l) w ∧ Sim φ I (σ.kill l) w := by
  have g : ∀ k, ((σ.kill l).H k).isSome = true → (σ.H k).isSome = true ∧ k ≠ l := fun k h => by
    by_cases e : k = l
    · subst e; simp [St.kill, upd_same] at h
    · exact ⟨by simpa only [St.kill, upd_ne _ _ e] using h, e⟩
  have hlive : ∀ b, Live φ (σ.kill l) b → Live φ σ b := fun b ⟨k, y, h1, h2, h3⟩ => ⟨k, y, (g k h1).1, h2, h3⟩
  refine ⟨⟨fun _ _ h => h, fun _ h => h, fun _ h => .inl h, fun b h => .inl (hlive b h), Nat.le_refl _, fun _ _ => rfl, fun _ _ _ => rfl, rfl, rfl, rfl, rfl, Loops.refl _⟩,
    ⟨hs.dom, hs.blk, fun k b h => hs.live k b (by
      have := g k (by rw [h]; rfl)
      simpa only [St.kill, upd_ne _ _ this.2] using h), fun b h => hs.notI b (hlive b h), fun k k' y y' h1 h2 h3 h4 he => hs.inj _ _ _ _ (g _ h1).1 (g _ h2).1 h3 h4 he, hs.imm, hs.base⟩⟩
/-- A live row's cells turn, and it gets a new name. -/
theorem sim_move (hs : Sim φ I σ w) {l : Nat} {x y : Nat × Nat × Nat} (hl : (σ.H l).isSome = true) (hx : φ l = some x) (hy : y.1 = x.1) (hoth : ∀ k, k ≠ x.1 → w'.heap[k]? = w.heap[k]?) (hsize : w'.heap.size = w.heap.size)
    (hN : cellsOf w' x.1 = cellsOf w x.1) (hsame : Same w w') {blk : Blk} (hb : ∀ φ', (∀ l y, φ l = some y → φ' l = some y) → BlkRel φ' I w' blk y) (hlp : Loops w w') :
    Evo φ I σ w (φ.put σ.n y) I ((σ.kill l).new blk) w' ∧ Sim (φ.put σ.n y) I ((σ.kill l).new blk) w' := by
  have hφ := put_old hs (x := y)
  have hln : l ≠ σ.n := fun e => by rw [e, hs.fresh] at hl; simp at hl
  have hlv : Live φ σ x.1 := ⟨l, x, hl, hx, rfl⟩
  have hI : ∀ b, I b → w'.heap[b]? = w.heap[b]? := fun b h => hoth b (fun e => hs.notI _ hlv (e ▸ h))
  have hN' : ∀ b, b < w.heap.size → cellsOf w' b = cellsOf w b := fun b _ => by
    by_cases e : b = x.1
    · rw [e]; exact hN
    · unfold cellsOf; rw [hoth b e]
  have g : ∀ k, k ≠ σ.n → (((σ.kill l).new blk).H k).isSome = true → (σ.H k).isSome = true ∧ k ≠ l := fun k hn h => by
    simp only [St.new, St.kill, upd_ne _ _ hn] at h
    by_cases e : k = l
    · subst e; simp [upd_same] at h
    · exact ⟨by simpa only [upd_ne _ _ e] using h, e⟩
  have hlive : ∀ b, Live (φ.put σ.n y) ((σ.kill l).new blk) b → Live φ σ b := fun b ⟨k, u, h1, h2, h3⟩ => by
    by_cases hn : k = σ.n
    · subst hn
      simp only [Phi.put, if_true, Option.some.injEq] at h2
      subst h2
      rw [← h3, hy]
      exact hlv
    · simp only [Phi.put, if_neg hn] at h2
      exact ⟨k, u, (g k hn h1).1, h2, h3⟩
  refine ⟨⟨hφ, fun _ h => h, fun _ h => .inl h, fun b h => .inl (hlive b h), by omega, hN', fun b _ hn => hoth b (fun e => hn (e ▸ hlv)), hsame.os, hsame.tape, hsame.output, rfl, hlp⟩,
    ⟨fun k u h => ?_, fun k u h => ?_, fun k b h => ?_, fun b h => hs.notI b (hlive b h), fun k k' u u' h1 h2 h3 h4 he => ?_, fun b h => by have := hs.imm b h; omega, fun b h => ⟨(hs.base b h).1, (hI b (hs.base b h).1).trans (hs.base b h).2⟩⟩⟩
  · simp only [Phi.put] at h
    split at h
    · simp only [St.new, St.kill]; omega
    · have := hs.dom _ _ h; simp only [St.new, St.kill]; omega
  · simp only [Phi.put] at h
    split at h
    · simp only [Option.some.injEq] at h; subst h; have := hs.blk _ _ hx; omega
    · have := hs.blk _ _ h; omega
  · by_cases hn : k = σ.n
    · subst hn
      have : b = blk := by simpa [St.new, St.kill, upd_same] using h.symm
      subst this
      exact ⟨_, by simp [Phi.put], hb _ hφ⟩
    · obtain ⟨hk, hkl⟩ := g k hn (by rw [h]; rfl)
      simp only [St.new, St.kill, upd_ne _ _ hn, upd_ne _ _ hkl] at h
      obtain ⟨u, h1, h2⟩ := hs.live _ _ h
      exact ⟨u, hφ _ _ h1, h2.keep hs hφ hI hN' (hoth _ (fun e => hkl (hs.inj _ _ _ _ hk hl h1 hx e)))⟩
  · by_cases hn : k = σ.n <;> by_cases hn' : k' = σ.n
    · omega
    · subst hn
      simp only [Phi.put, if_true, Option.some.injEq] at h3
      simp only [Phi.put, if_neg hn'] at h4
      obtain ⟨hk, hkl⟩ := g k' hn' h2
      subst h3
      exact absurd (hs.inj _ _ _ _ hk hl h4 hx (by rw [← he, hy])) hkl
    · subst hn'
      simp only [Phi.put, if_true, Option.some.injEq] at h4
      simp only [Phi.put, if_neg hn] at h3
      obtain ⟨hk, hkl⟩ := g k hn h1
      subst h4
      exact absurd (hs.inj _ _ _ _ hk hl h3 hx (by rw [he, hy])) hkl
    · simp only [Phi.put, if_neg hn] at h3
      simp only [Phi.put, if_neg hn'] at h4
      exact hs.inj _ _ _ _ (g _ hn h1).1 (g _ hn' h2).1 h3 h4 he
end
end Go.Proofs.Yticpkoakbneefaa.Ab
namespace Go.Proofs.Yticpkoakbneefaa.Ab
open Go.RowKit
set_option linter.unusedVariables false
set_option linter.unusedSimpArgs false
/-- An operation that acts: it gives a value (or nothing), and the world goes on. -/
def Acts (P : Program) (φ : Phi) (I : Nat → Prop) (σ : St) (w : World) (a : Act) (o : Oper) (v : V) (σ' : St) : Prop :=
  ∃ c w' φ' I', ((execOp a.eval o).run P w = .ok (.value c) w' ∨ ((execOp a.eval o).run P w = .ok .skip w' ∧ c = undef)) ∧ Rel φ' I' w' v c ∧ Evo φ I σ w φ' I' σ' w' ∧ Sim φ' I' σ' w'
section
variable {P : Program} {φ : Phi} {I : Nat → Prop} {σ : St} {w w' : World} {nt : Nat} {env : Env} {a : Act}
theorem Quiet.acts {o : Oper} {v : V} (hs : Sim φ I σ w) (h : Quiet P φ I w a o v) : Acts P φ I σ w a o v σ := by
  obtain ⟨c, h1, h2⟩ := h
  exact ⟨c, w, φ, I, .inl h1, h2, Evo.refl _ _ _ _, hs⟩
theorem new_rel (hs : Sim φ I σ w) {z len cap : Nat} {t : TypeId} {arr : Array Value} {fz : Nat × Nat} (hh : w'.heap = w.heap.push (.cells arr t fz)) (hl : len ≤ cap) (hc : cap * z = arr.size) :
    Rel (φ.put σ.n (w.heap.size, 0, z)) I w' (.slc σ.n 0 len) (.slice (some ⟨w.heap.size, 0, none⟩) len cap) := by
  refine .slc (b := w.heap.size) (base := 0) (z := z) (by simp [Phi.put]) hl ?_ (fun _ => by simp)
  rw [Nat.zero_add, Nat.zero_add, hc]
  simp [cellsOf, hh]
theorem new_ptr {z : Nat} : Rel (φ.put σ.n (w.heap.size, 0, z)) I w' (.ptr σ.n 0 0) (.pointer (some ⟨w.heap.size, 0, none⟩)) := by
  have := Rel.ptr (I := I) (w := w') (φ := φ.put σ.n (w.heap.size, 0, z)) (l := σ.n) 0 0 (b := w.heap.size) (base := 0) (z := z) (by simp [Phi.put])
  simpa using this
theorem fits_none (arr : Array Value) : fits arr (0, 0) := .inl rfl
theorem all_scal {vs : List V} (h : vs.all V.scal = true) {cs : Array Value} (hr : RelA φ I w vs cs) : ∀ v ∈ cs.toList, v.oneCell' = true := fun v hv => by
  obtain ⟨i, hi, rfl⟩ := List.mem_iff_getElem.1 hv
  have hi' : i < vs.length := by rw [← hr.1]; simpa using hi
  have := hr.2 i vs[i] (List.getElem?_eq_getElem hi')
  have hg : cs.getD i undef = cs.toList[i] := by simp [show i < cs.size by rw [hr.1]; exact hi']
  rw [hg] at this
  exact this.scal (List.all_eq_true.1 h _ (List.getElem_mem hi'))
theorem getD_one {cs : Array Value} (h : ∀ v ∈ cs.toList, v.oneCell' = true) {i : Nat} (hi : i < cs.size) : (cs.getD i undef).oneCell' = true := by
  have : cs.getD i undef = cs[i] := by simp [hi]
  rw [this]
  exact h _ (by simp)
theorem one_row_one {vs : List V} {cs : Array Value} (hs : vs.all V.scal = true) (h : RelA φ I w vs cs) : ∀ i j, i < [vs].length → j < vs.length → (cs.getD (i * vs.length + j) undef).oneCell' = true := fun i j h1 h2 => by
  have : i = 0 := by simpa using h1
  subst this
  rw [Nat.zero_mul, Nat.zero_add]
  exact getD_one (all_scal hs h) (by rw [h.1]; exact h2)
theorem one_row {vs : List V} {cs : Array Value} (h : RelA φ I w vs cs) : ∀ i j e v, [vs][i]? = some e → e[j]? = some v → Rel φ I w v (cs.getD (i * vs.length + j) undef) := fun i j e v h1 h2 => by
  cases i with
  | zero => simp at h1; subst h1; simpa using h.2 j v h2
  | succ i => simp at h1
theorem acts_new {o : Oper} {t : TypeId} {z : List V} {v : V} {σ' : St} (ho : o.op = .alloc t) (hz : zeroC P t = some z) (hs : Sim φ I σ w) (he : evI env σ (.new z) = some (v, σ')) : Acts P φ I σ w a o v σ' := by
  obtain ⟨c, hc, hr, hsc, _, hp⟩ := zeroC_run (P := P) (φ := φ) (I := I) (w := w) hz
  obtain ⟨dst, op', ty, pos, after, guard⟩ := o
  simp only at ho; subst ho
  simp only [evI, Option.some.injEq, Prod.mk.injEq] at he
  obtain ⟨rfl, rfl⟩ := he
  let w1 : World := { w with heap := w.heap.push (.cells c.cells t (0, 0)) }
  obtain ⟨h1, h2⟩ := row_new (w' := w1) hs rfl ⟨rfl, rfl, rfl⟩ (fits_none _) hp (es := [z]) (by simp) (by simp [hr.1]) (one_row_one hsc hr) (one_row hr)
  refine ⟨_, w1, _, _, .inl ?_, new_ptr, h1, h2⟩
  simp only [execOp, Instr.alloc, Sem.run_bind, hc, Result.andThen_ok, newVar, newRow, run_newObj, Sem.run_pure]
  rfl
theorem acts_box {o : Oper} {t : TypeId} {x : Operand} {x' : Opd} {v : V} {σ' : St} (ho : o.op = .box t x) (hs : Sim φ I σ w) (hf : EnvR φ I w nt env a) (hx : cOpd nt x = some x') (he : evI env σ (.box x') = some (v, σ')) : Acts P φ I σ w a o v σ' := by
  have h := cOpd_rel hf hx
  obtain ⟨dst, op', ty, pos, after, guard⟩ := o
  simp only at ho; subst ho
  simp only [evI] at he
  split at he <;> simp only [Option.some.injEq, Prod.mk.injEq, reduceCtorEq] at he
  rename_i hc
  obtain ⟨rfl, rfl⟩ := he
  have hr := h.cells hc.1
  let w1 : World := { w with heap := w.heap.push (.cells (a.eval x).cells t (0, 0)) }
  obtain ⟨h1, h2⟩ := row_new (w' := w1) hs rfl ⟨rfl, rfl, rfl⟩ (fits_none _) hc.2 (es := [(x'.ev env).cells]) (by simp) (by simp [hr.1]) (one_row_one hc.1 hr) (one_row hr)
  refine ⟨_, w1, _, _, .inl ?_, new_ptr, h1, h2⟩
  simp only [execOp, Instr.box, newVar, newRow, Sem.run_bind, run_newObj, Result.andThen_ok, Sem.run_pure]
  rfl
theorem acts_mkmap {o : Oper} {t : TypeId} {v : V} {σ' : St} (ho : o.op = .makeMap t none) (hs : Sim φ I σ w) (he : evI env σ .mkmap = some (v, σ')) : Acts P φ I σ w a o v σ' := by
  obtain ⟨dst, op', ty, pos, after, guard⟩ := o
  simp only at ho; subst ho
  simp only [evI, Option.some.injEq, Prod.mk.injEq] at he
  obtain ⟨rfl, rfl⟩ := he
  let w1 : World := { w with heap := w.heap.push (.map #[] 0) }
  obtain ⟨h1, h2⟩ := sim_new (w' := w1) (z := 0) (blk := .map []) hs rfl ⟨rfl, rfl, rfl⟩ (fun φ' hφ => .map (ents := #[]) (clock := 0) (by simp [w1]) rfl (fun i kv e h => by simp at h))
  refine ⟨_, w1, _, _, .inl ?_, .map (b := w.heap.size) (base := 0) (z := 0) (by simp [Phi.put]), h1, h2⟩
  simp only [execOp, Instr.makeMap, Sem.run_bind, run_newObj, Option.map_none, Result.andThen_ok, Sem.run_pure]
  rfl
/-- The same cells over and over. -/
theorem zeros_get (zc : Array Value) (n : Nat) (z : Nat) (hz : zc.size = z) (hp : 0 < z) (i j : Nat) (hi : i < n) (hj : j < z) :
    ((Array.range (n * z)).map (zc[· % zc.size]!)).getD (i * z + j) undef = zc.getD j undef := by
  have hlt := mul_lt_of hi hj
  have hm : (i * z + j) % z = j := by rw [Nat.mul_comm, Nat.mul_add_mod]; exact Nat.mod_eq_of_lt hj
  have hj' : j < zc.size := by omega
  simp [hlt, hz, hm, hj', getElem!_pos zc j hj', getElem?_pos zc j hj']
theorem wrap_id {n : Int} (h0 : -9223372036854775808 ≤ n) (h1 : n < 9223372036854775808) : IntKind.i64.wrap n = n := by
  unfold IntKind.wrap
  simp only [IntKind.bits, IntKind.signed, Bool.true_and, decide_eq_true_eq, Nat.reduceSub]
  by_cases h : n % 2 ^ 64 ≥ 2 ^ 63
  · rw [if_pos (by simpa using h)]; omega
  · rw [if_neg (by simpa using h)]; omega
theorem replicate_rel {z : List V} {zc : Array Value} (hr : RelA φ I w z zc) (hp : 0 < z.length) (n N : Nat) (hn : n ≤ N) : ∀ i j e v, (List.replicate n z)[i]? = some e → e[j]? = some v →
    Rel φ I w v (((Array.range (N * z.length)).map (zc[· % zc.size]!)).getD (i * z.length + j) undef) := fun i j e v h1 h2 => by
  simp only [List.getElem?_replicate] at h1
  split at h1 <;> simp at h1
  subst h1
  have hj := (List.getElem?_eq_some_iff.1 h2).1
  rw [zeros_get zc N z.length hr.1 hp i j (by omega) hj]
  exact hr.2 j v h2
theorem replicate_one {z : List V} {zc : Array Value} (hs : z.all V.scal = true) (hr : RelA φ I w z zc) (n N : Nat) (hn : n ≤ N) : ∀ i j, i < (List.replicate n z).length → j < z.length →
    (((Array.range (N * z.length)).map (zc[· % zc.size]!)).getD (i * z.length + j) undef).oneCell' = true := fun i j h1 h2 => by
  rw [List.length_replicate] at h1
  rw [zeros_get zc N z.length hr.1 (by omega) i j (by omega) h2]
  exact getD_one (all_scal hs hr) (by rw [hr.1]; exact h2)
theorem acts_mksl {o : Oper} {t e : TypeId} {inf : TypeInfo} {l c : Operand} {l' c' : Opd} {z : List V} {v : V} {σ' : St} (ho : o.op = .makeSlice t l c) (hu : P.underlying t = some (.slice e)) (hz : zeroC P e = some z) (hi : P.info? e = some inf) (hb : inf.bytes ≤ 65536)
    (hs : Sim φ I σ w) (hf : EnvR φ I w nt env a) (hl : cOpd nt l = some l') (hc : cOpd nt c = some c') (he : evI env σ (.mksl inf.bytes z l' c') = some (v, σ')) : Acts P φ I σ w a o v σ' := by
  have h1 := cOpd_rel hf hl
  have h2 := cOpd_rel hf hc
  obtain ⟨zc, hzc, hr, hsc, hsz, hp⟩ := zeroC_run (P := P) (φ := φ) (I := I) (w := w) hz
  obtain ⟨dst, op', ty, pos, after, guard⟩ := o
  simp only at ho; subst ho
  simp only [evI] at he
  split at he <;> (try (simp only [reduceCtorEq] at he; done))
  rename_i k1 n1 k2 n2 e1 e2
  rw [e1] at h1; rw [e2] at h2
  have h1 := h1.int_inv
  have h2 := h2.int_inv
  split at he <;> simp only [Option.some.injEq, Prod.mk.injEq, reduceCtorEq] at he
  rename_i hcnd
  obtain ⟨hn0, hn1, hn2, hn3⟩ := hcnd
  obtain ⟨rfl, rfl⟩ := he
  simp only [reach] at hn2 hn3
  have hw1 : IntKind.i64.wrap n1 = n1 := wrap_id (by omega) (by omega)
  have hw2 : IntKind.i64.wrap n2 = n2 := wrap_id (by omega) (by omega)
  let arr : Array Value := if n2.toNat * z.length = 0 then #[] else (Array.range (n2.toNat * z.length)).map (zc.cells[· % zc.cells.size]!)
  have harr : arr = (Array.range (n2.toNat * z.length)).map (zc.cells[· % zc.cells.size]!) := by
    simp only [arr]
    split
    · rename_i h; rw [h]; simp
    · rfl
  let w1 : World := { w with heap := w.heap.push (.cells arr e (0, 0)) }
  obtain ⟨q1, q2⟩ := row_new (w' := w1) hs rfl ⟨rfl, rfl, rfl⟩ (fits_none _) hp (es := List.replicate n1.toNat z) (fun e he => by rw [(List.mem_replicate.1 he).2])
    (by rw [harr]; simp; exact Nat.mul_le_mul_right _ (by omega)) (by rw [harr]; exact replicate_one hsc hr _ _ (by omega)) (by rw [harr]; exact replicate_rel hr hp _ _ (by omega))
  have hrel := new_rel (w' := w1) (z := z.length) (len := n1.toNat) (cap := n2.toNat) hs rfl (by omega) (by rw [harr]; simp)
  refine ⟨_, w1, _, _, .inl ?_, hrel, q1, q2⟩
  have hb1 : ¬ (n2 < 0 ∨ 281474976710656 < (inf.bytes : Int) * n2) := by omega
  have hb3 : ¬ (n1 < 0) := by omega
  have hb4 : ¬ (n2 < n1) := by omega
  have hti : (typeInfo e).run P w = .ok inf w := by simp [typeInfo, hi]
  have hlarge : ∀ n : Int, 0 ≤ n → inf.bytes * n ≤ 70368744177664 → (decide (n < 0) || decide ((inf.bytes : Int) * n > 2 ^ 48)) = false := fun n h h' => by simp; omega
  have hbn : (inf.bytes : Int) * n1 ≤ 70368744177664 := Int.le_trans (Int.mul_le_mul_of_nonneg_left hn1 (by omega)) hn2
  by_cases hz0 : n2.toNat * z.length = 0
  · have ha : arr = #[] := by simp only [arr, hz0, if_true]
    simp only [w1, ha]
    simp [execOp, Instr.makeSlice, run_underlying hu, h1, h2, asInt, asIntOf, hti, hw1, hw2, run_sizeOf hsz, hz0, hb1, hb3, hb4, newRow]
    rw [show Array.range 0 = #[] from rfl, Array.map_empty]
  · have ha : arr = (Array.range (n2.toNat * z.length)).map (zc.cells[· % zc.cells.size]!) := harr
    simp only [w1, ha]
    simp [execOp, Instr.makeSlice, run_underlying hu, h1, h2, asInt, asIntOf, hti, hw1, hw2, run_sizeOf hsz, hz0, hb1, hb3, hb4, newRow, hzc]
theorem bslice_fill (hf : EnvR φ I w nt env a) {z : Nat} (hz : 0 < z) : ∀ (parts : List (Nat × Operand)) (ps : List (Nat × Opd)) (es es' : List (List V)) (arr : Array Value),
    parts.length = ps.length → (∀ (i : Nat) (p : Nat × Opd), ps[i]? = some p → ∃ q, parts[i]? = some q ∧ q.1 = p.1 ∧ cOpd nt q.2 = some p.2) → (∀ e ∈ es, e.length = z) → arr.size = es.length * z → (∀ i j, i < es.length → j < z → (arr.getD (i * z + j) undef).oneCell' = true) →
    (∀ i j e v, es[i]? = some e → e[j]? = some v → Rel φ I w v (arr.getD (i * z + j) undef)) → bsliceV env z es ps = some es' →
    ∃ as, Instr.fill (fun i => some (i * z, z)) arr (parts.map fun q => (q.1, a.eval q.2)) = some as ∧ (∀ e ∈ es', e.length = z) ∧ es'.length = es.length ∧ as.size = es.length * z ∧ (∀ i j, i < es.length → j < z → (as.getD (i * z + j) undef).oneCell' = true) ∧
      ∀ i j e v, es'[i]? = some e → e[j]? = some v → Rel φ I w v (as.getD (i * z + j) undef)
  | [], [], es, es', arr, _, _, h1, h2, h0, h3, h => by simp only [bsliceV, Option.some.injEq] at h; subst h; exact ⟨arr, rfl, h1, rfl, h2, h0, h3⟩
  | q :: parts, (k, x) :: ps, es, es', arr, hl, hp, h1, h2, h0, h3, h => by
    obtain ⟨q', hq', hpl, hx⟩ := hp 0 _ rfl
    simp only [List.getElem?_cons_zero, Option.some.injEq] at hq'
    subst hq'
    unfold bsliceV at h
    split at h
    · rename_i hc
      obtain ⟨hc1, hc2, hc3⟩ := hc
      have hr := cOpd_rel hf hx
      obtain ⟨hs1, hs2⟩ := hr.cells hc3
      simp only at hpl hx hr hs1 hs2
      have hsz : k * z + z ≤ es.length * z := by
        have : (k + 1) * z ≤ es.length * z := Nat.mul_le_mul_right z hc2
        rw [Nat.add_mul] at this; omega
      obtain ⟨g1, g2⟩ := fillSet (a.eval q.2).cells (k * z) arr (by omega)
      obtain ⟨as, has, b1, b2, b3, b0, b4⟩ := bslice_fill hf hz parts ps (es.set k (x.ev env).cells) es' _ (by simpa using hl) (fun i p hpi => by simpa using hp (i + 1) p (by simpa using hpi))
        (fun e he => by
          rcases List.mem_or_eq_of_mem_set he with h | h
          · exact h1 e h
          · rw [h]; exact hc1)
        (by rw [g1, h2, List.length_set])
        (fun i j hi hj => by
          rw [g2]
          rw [List.length_set] at hi
          split
          · exact getD_one (all_scal hc3 ⟨hs1, hs2⟩) (by omega)
          · exact h0 i j hi hj)
        (fun i j e v hi hj => by
          rw [g2]
          rw [List.getElem?_set] at hi
          split at hi
          · rename_i hki
            subst hki
            simp only [Option.some.injEq] at hi
            subst hi
            have hjl := (List.getElem?_eq_some_iff.1 hj).1
            rw [if_pos (by omega), show k * z + j - k * z = j by omega]
            exact hs2 _ _ hj
          · rename_i hki
            have hjl := (List.getElem?_eq_some_iff.1 hj).1
            have hel := h1 e (List.mem_of_getElem? hi)
            rw [if_neg]
            · exact h3 i j e v hi hj
            · intro ⟨hh1, hh2⟩
              rw [hs1, hc1] at hh2
              rcases Nat.lt_or_gt_of_ne hki with hlt | hlt
              · have : (k + 1) * z ≤ i * z := Nat.mul_le_mul_right z hlt
                rw [Nat.add_mul] at this; omega
              · have : (i + 1) * z ≤ k * z := Nat.mul_le_mul_right z hlt
                rw [Nat.add_mul] at this; omega) h
      refine ⟨as, ?_, b1, by rw [b2, List.length_set], by rw [b3, List.length_set], fun i j hi hj => b0 i j (by rw [List.length_set]; exact hi) hj, b4⟩
      rw [List.map_cons, Instr.fill, hpl]
      have e1 : ¬ ((a.eval q.2).cells.size ≠ z || decide (k * z + (a.eval q.2).cells.size > arr.size)) = true := by
        simp only [Bool.or_eq_true, decide_eq_true_eq, not_or, Decidable.not_not]
        omega
      simp only
      rw [if_neg (by simpa using e1)]
      exact has
    · simp at h
theorem acts_bslice {o : Oper} {t e : TypeId} {len : Nat} {parts : Array (Nat × Operand)} {ps : List (Nat × Opd)} {z : List V} {v : V} {σ' : St} (ho : o.op = .buildSlice t len parts) (hu : P.underlying t = some (.slice e)) (hz : zeroC P e = some z)
    (hlim : len * z.length ≤ 2 ^ 24) (hps : (parts.toList.mapM fun (p : Nat × Operand) => (cOpd nt p.2).map fun x => (p.1, x)) = some ps)
    (hs : Sim φ I σ w) (hf : EnvR φ I w nt env a) (he : evI env σ (.bslice z len ps) = some (v, σ')) : Acts P φ I σ w a o v σ' := by
  obtain ⟨zc, hzc, hr, hsc, hsz, hp⟩ := zeroC_run (P := P) (φ := φ) (I := I) (w := w) hz
  obtain ⟨dst, op', ty, pos, after, guard⟩ := o
  simp only at ho; subst ho
  simp only [evI, Option.map_eq_some_iff, Prod.mk.injEq] at he
  obtain ⟨es, hes, rfl, rfl⟩ := he
  obtain ⟨hl, hg⟩ := mapM_some hps
  obtain ⟨as, has, b1, b2, b3, b0, b4⟩ := bslice_fill hf hp parts.toList ps (List.replicate len z) es ((Array.range (len * z.length)).map (zc.cells[· % zc.cells.size]!)) (by omega) (fun i p hpi => by
      obtain ⟨q, hq, hqp⟩ := hg i p hpi
      simp only [Option.map_eq_some_iff] at hqp
      obtain ⟨x, hx, rfl⟩ := hqp
      exact ⟨q, hq, rfl, hx⟩) (fun e he => by rw [(List.mem_replicate.1 he).2]) (by simp) (replicate_one hsc hr len len (Nat.le_refl _)) (replicate_rel hr hp len len (Nat.le_refl _)) hes
  rw [List.length_replicate] at b2 b3 b0
  let w1 : World := { w with heap := w.heap.push (.cells as e (0, 0)) }
  obtain ⟨q1, q2⟩ := row_new (w' := w1) hs rfl ⟨rfl, rfl, rfl⟩ (fits_none _) hp b1 (by rw [b2, b3]; exact Nat.le_refl _) (fun i j hi hj => b0 i j (by omega) hj) b4
  have hrel := new_rel (w' := w1) (z := z.length) (len := len) (cap := len) hs rfl (Nat.le_refl _) (by rw [b3])
  refine ⟨_, w1, _, _, .inl ?_, hrel, q1, q2⟩
  have hlim' : ¬ (len * z.length > 2 ^ 24) := by omega
  have hmap : (parts.map fun x => (x.1, a.eval x.2)).toList = parts.toList.map fun q => (q.1, a.eval q.2) := by simp
  simp only [execOp, Instr.buildSlice, Sem.run_bind, run_underlying hu, Result.andThen_ok, run_sizeOf hsz]
  rw [if_neg hlim']
  by_cases hz0 : len * z.length = 0
  · have hr0 : (Array.range (len * z.length)).map (zc.cells[· % zc.cells.size]!) = (Array.range (len * z.length)).map ((#[] : Array Value)[· % (#[] : Array Value).size]!) := by rw [hz0]; simp
    rw [hr0] at has
    simp only [hz0, if_true, Sem.run_bind, Sem.run_pure, Result.andThen_ok] at has ⊢
    rw [hmap, has]
    simp only [newRow, Sem.run_bind, run_newObj, Result.andThen_ok, Sem.run_pure]
    rfl
  · rw [if_neg hz0]
    simp only [Sem.run_bind, hzc, Sem.run_pure, Result.andThen_ok]
    rw [hmap, has]
    simp only [newRow, Sem.run_bind, run_newObj, Result.andThen_ok, Sem.run_pure]
    rfl
end
end Go.Proofs.Yticpkoakbneefaa.Ab
namespace Go.Proofs.Yticpkoakbneefaa.Ab
open Go.RowKit
set_option linter.unusedVariables false
set_option linter.unusedSimpArgs false
section
variable {P : Program} {φ : Phi} {I : Nat → Prop} {σ : St} {w w' : World} {nt : Nat} {env : Env} {a : Act}
/-- Cells are written, one behind the other. -/
theorem run_storeCells {g : Nat} {t : TypeId} {fz : Nat × Nat} : ∀ (vs : List Value) (o i : Nat) (arr : Array Value) (w : World), w.heap[g]? = some (.cells arr t fz) → fits arr fz → o + i + vs.length ≤ arr.size → (∀ v ∈ vs, v.oneCell' = true) →
    ∃ w' arr', (storeCells ⟨g, o, none⟩ vs i).run P w = .ok () w' ∧ w'.heap[g]? = some (.cells arr' t fz) ∧ arr'.size = arr.size ∧ w'.heap.size = w.heap.size ∧ (∀ k, k ≠ g → w'.heap[k]? = w.heap[k]?) ∧ Same w w' ∧
      ∀ k, arr'.getD k undef = if o + i ≤ k ∧ k < o + i + vs.length then vs.getD (k - (o + i)) undef else arr.getD k undef
  | [], o, i, arr, w, hh, _, _, _ => ⟨w, arr, rfl, hh, rfl, rfl, fun _ _ => rfl, Same.refl w, fun k => by simp; intro h1 h2; omega⟩
  | v :: vs, o, i, arr, w, hh, hfz, hsz, hv => by
    simp only [List.length_cons] at hsz
    have hcell : w.cell? ⟨g, o + i, none⟩ = some (arr[o + i]'(by omega)) := by simp [World.cell?, hh, show o + i < arr.size by omega]
    have hfr : w.frozen? ⟨g, o + i, none⟩ = false := by
      have := hfz.not (o := o + i) (by omega)
      simp only [World.frozen?, hh, Bool.and_eq_false_iff, decide_eq_false_iff_not]
      omega
    have hst : (store ⟨g, o + i, none⟩ v).run P w = .ok () (w.setCell ⟨g, o + i, none⟩ v) := by
      rw [run_store P w _ v _ (hv v (by simp))]
      simp [hcell, hfr]
    have hh' : (w.setCell ⟨g, o + i, none⟩ v).heap[g]? = some (.cells (arr.setIfInBounds (o + i) v) t fz) := by
      simp [World.setCell, Array.getElem?_modify, hh]
    obtain ⟨w', arr', h1, h2, h3, h4, h5, h6, h7⟩ := run_storeCells vs o (i + 1) (arr.setIfInBounds (o + i) v) (w.setCell ⟨g, o + i, none⟩ v) hh' (hfz.size (by simp)) (by simp; omega) (fun u hu => hv u (by simp [hu]))
    refine ⟨w', arr', ?_, h2, by simpa using h3, by simpa using h4, fun k hk => ?_, ⟨h6.os, h6.tape, h6.output⟩, fun k => ?_⟩
    · rw [storeCells, Sem.run_bind, Addr.add_lit, hst]
      exact h1
    · rw [h5 k hk]
      simp only [World.setCell, Array.getElem?_modify]
      rw [if_neg (Ne.symm hk)]
    · rw [h7 k]
      by_cases ha : k = o + i
      · subst ha
        rw [if_neg (by omega), if_pos (by simp), Nat.sub_self]
        simp [show o + i < arr.size by omega]
      · by_cases hb : o + (i + 1) ≤ k ∧ k < o + (i + 1) + vs.length
        · rw [if_pos hb, if_pos (by simp; omega), show k - (o + i) = (k - (o + (i + 1))) + 1 by omega]
          simp
        · rw [if_neg hb, if_neg (by simp; omega)]
          simp [Array.getElem?_setIfInBounds, Ne.symm ha]
theorem rel_turn (hs : Sim φ I σ w) {l : Nat} {x : Nat × Nat × Nat} (hl : (σ.H l).isSome = true) (hx : φ l = some x) (hoth : ∀ k, k ≠ x.1 → w'.heap[k]? = w.heap[k]?) (hN : cellsOf w' x.1 = cellsOf w x.1)
    {φ' : Phi} (hφ : ∀ l y, φ l = some y → φ' l = some y) {v : V} {c : Value} (h : Rel φ I w v c) : Rel φ' I w' v c :=
  h.mono hφ (fun _ h => h) (fun b hb => hoth b (fun e => hs.notI _ ⟨l, x, hl, hx, rfl⟩ (e ▸ hb))) (fun l' y hy => by
    by_cases e : y.1 = x.1
    · rw [e]; exact hN
    · unfold cellsOf; rw [hoth _ e])
theorem acts_st {o : Oper} {t : TypeId} {n : Nat} {x y : Operand} {x' y' : Opd} {v : V} {σ' : St} (ho : o.op = .store t x y) (hn : sizeD P t = some n)
    (hs : Sim φ I σ w) (hf : EnvR φ I w nt env a) (hx : cOpd nt x = some x') (hy : cOpd nt y = some y') (he : evI env σ (.st n x' y') = some (v, σ')) : Acts P φ I σ w a o v σ' := by
  have h1 := cOpd_rel hf hx
  have h2 := cOpd_rel hf hy
  obtain ⟨dst, op', ty, pos, after, guard⟩ := o
  simp only at ho; subst ho
  simp only [evI] at he
  split at he <;> (try (simp only [reduceCtorEq] at he; done))
  rename_i l i j e1
  rw [e1] at h1
  split at he <;> (try (simp only [reduceCtorEq] at he; done))
  rename_i z es hH
  simp only [Option.bind_eq_some_iff] at he
  obtain ⟨e, hi, he⟩ := he
  split at he <;> simp only [Option.some.injEq, Prod.mk.injEq, reduceCtorEq] at he
  rename_i hc
  obtain ⟨hc1, hc2, hc3⟩ := hc
  obtain ⟨rfl, rfl⟩ := he
  generalize hq : a.eval x = q at h1
  cases h1 with
  | ptr i j hφ =>
    rename_i b base z'
    obtain ⟨b', base', arr, t', fz, q1, hh, hfz, hpos, hz, hsz, ho1, hr⟩ := hs.row hH
    rw [hφ] at q1
    simp only [Option.some.injEq, Prod.mk.injEq] at q1
    obtain ⟨rfl, rfl, rfl⟩ := q1
    have hcs := h2.cells hc3
    have hil := (List.getElem?_eq_some_iff.1 hi).1
    have hel := hz e (List.mem_of_getElem? hi)
    have hlt : base + i * z' + j + n ≤ arr.size := by
      have : (i + 1) * z' ≤ es.length * z' := Nat.mul_le_mul_right z' hil
      rw [Nat.add_mul] at this
      omega
    obtain ⟨w1, arr', r1, r2, r3, r4, r5, r6, r7⟩ := run_storeCells (P := P) (a.eval y).cells.toList (base + i * z' + j) 0 arr w hh hfz (by rw [Array.length_toList, hcs.1, hc1]; omega) (all_scal hc3 hcs)
    have hlv : (σ.H l).isSome = true := by rw [hH]; rfl
    have hN : cellsOf w1 b = cellsOf w b := by simp [cellsOf, r2, hh, r3]
    have hlen : (setAt e j (y'.ev env).cells).length = z' := by rw [setAt_length (by omega), hel]
    have hblk : BlkRel φ I w1 (.row z' (es.set i (setAt e j (y'.ev env).cells))) (b, base, z') := by
      refine .row r2 (hfz.size (by omega)) hpos (fun e' he' => ?_) (by rw [List.length_set]; omega) (fun i' j' hi' hj' => ?_) (fun i' j' e' u hi' hj' => ?_)
      · rcases List.mem_or_eq_of_mem_set he' with h | h
        · exact hz _ h
        · rw [h]; exact hlen
      · rw [List.length_set] at hi'
        rw [r7]
        split
        · rename_i hh1
          have hk : base + i' * z' + j' - (base + i * z' + j + 0) < (a.eval y).cells.size := by rw [Array.length_toList] at hh1; omega
          have := getD_one (all_scal hc3 hcs) hk
          simpa using this
        · exact ho1 i' j' hi' hj'
      · have kp : ∀ {v : V} {c : Value}, Rel φ I w v c → Rel φ I w1 v c := fun h => rel_turn hs hlv hφ r5 hN (fun _ _ h => h) h
        rw [r7]
        rw [List.getElem?_set] at hi'
        rw [Array.length_toList, hcs.1, hc1, Nat.add_zero]
        split at hi'
        · rename_i hii
          subst hii
          simp only [hil, if_true, Option.some.injEq] at hi'
          subst hi'
          rw [setAt_get (by omega)] at hj'
          rw [hc1] at hj'
          split at hj'
          · rename_i hjj
            rw [if_pos (by omega), show base + i * z' + j' - (base + i * z' + j) = j' - j by omega]
            have := hcs.2 _ _ hj'
            refine kp ?_
            simpa using this
          · rename_i hjj
            rw [if_neg (by omega)]
            exact kp (hr _ _ _ _ hi hj')
        · rename_i hii
          have hil' := (List.getElem?_eq_some_iff.1 hi').1
          have hel' := hz e' (List.mem_of_getElem? hi')
          have hjl' := (List.getElem?_eq_some_iff.1 hj').1
          rw [if_neg]
          · exact kp (hr _ _ _ _ hi' hj')
          · intro ⟨hh1, hh2⟩
            rcases Nat.lt_or_gt_of_ne hii with hlt' | hlt'
            · have : (i + 1) * z' ≤ i' * z' := Nat.mul_le_mul_right z' hlt'
              rw [Nat.add_mul] at this; omega
            · have : (i' + 1) * z' ≤ i * z' := Nat.mul_le_mul_right z' hlt'
              rw [Nat.add_mul] at this; omega
    obtain ⟨s1, s2⟩ := sim_turn hs hlv hφ r5 r4 hN r6 hblk (.cells hh r5)
    refine ⟨undef, w1, φ, I, .inr ⟨?_, rfl⟩, .tup rfl (fun i v h => by simp at h), s1, s2⟩
    have hcz : ¬ ((a.eval y).cells.size ≠ n) := by rw [hcs.1, hc1]; simp
    simp only [execOp, Instr.storeAt, hq, Instr.sureAddr, storeVar, Sem.run_bind, Sem.run_pure, Result.andThen_ok, run_sizeOf hn, hcz, if_false, r1]
end
end Go.Proofs.Yticpkoakbneefaa.Ab
