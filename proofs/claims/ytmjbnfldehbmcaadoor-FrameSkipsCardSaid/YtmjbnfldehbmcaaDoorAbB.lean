/-
The walk over the program's texts, told with what its values say: a part of it. No further condition.
-/
import Derived.Test.YtmjbnfldehbmcaaDoorAbA
namespace Go.Proofs.YtmjbnfldehbmcaaDoor.Ab
open Go.RowKit
set_option linter.unusedVariables false
set_option linter.unusedSimpArgs false
/-- An operation that acts: it gives a value (or nothing), and the world goes on. -/
def Acts (P : Program) (φ : Phi) (I : Nat → Prop) (σ : St) (w : World) (a : Act) (o : Oper) (v : V) (σ' : St) : Prop :=
  ∃ c w' φ' I', ((execOp a.eval o).run P w = .ok (.value c) w' ∨ ((execOp a.eval o).run P w = .ok .skip w' ∧ c = undef)) ∧ Rel φ' I' w' v c ∧ Evo φ I σ w φ' I' σ' w' ∧ Sim φ' I' σ' w'
section
variable {P : Program} {φ : Phi} {I : Nat → Prop} {σ : St} {w w' : World} {nt : Nat} {env : Env} {a : Act}
theorem Quiet.acts {o : Oper} {v : V} (hs : Sim φ I σ w) (h : Quiet P φ I w a o v) : Acts P φ I σ w a o v σ := by
  obtain ⟨c, h1, h2⟩ := h
  exact ⟨c, w, φ, I, .inl h1, h2, Evo.refl _ _ _ _, hs⟩
theorem new_rel (hs : Sim φ I σ w) {z len cap : Nat} {t : TypeId} {arr : Array Value} {fz : Nat × Nat} (hh : w'.heap = w.heap.push (.cells arr t fz)) (hl : len ≤ cap) (hc : cap * z = arr.size) :
    Rel (φ.put σ.n (w.heap.size, 0, z)) I w' (.slc σ.n 0 len) (.slice (some ⟨w.heap.size, 0, none⟩) len cap) := by
  refine .slc (b := w.heap.size) (base := 0) (z := z) (by simp [Phi.put]) hl ?_ (fun _ => by simp)
  rw [Nat.zero_add, Nat.zero_add, hc]
  simp [cellsOf, hh]
theorem new_ptr {z : Nat} : Rel (φ.put σ.n (w.heap.size, 0, z)) I w' (.ptr σ.n 0 0) (.pointer (some ⟨w.heap.size, 0, none⟩)) := by
  have := Rel.ptr (I := I) (w := w') (φ := φ.put σ.n (w.heap.size, 0, z)) (l := σ.n) 0 0 (b := w.heap.size) (base := 0) (z := z) (by simp [Phi.put])
  simpa using this
theorem fits_none (arr : Array Value) : fits arr (0, 0) := .inl rfl
theorem all_scal {vs : List V} (h : vs.all V.scal = true) {cs : Array Value} (hr : RelA φ I w vs cs) : ∀ v ∈ cs.toList, v.oneCell' = true := fun v hv => by
  obtain ⟨i, hi, rfl⟩ := List.mem_iff_getElem.1 hv
  have hi' : i < vs.length := by rw [← hr.1]; simpa using hi
  have := hr.2 i vs[i] (List.getElem?_eq_getElem hi')
  have hg : cs.getD i undef = cs.toList[i] := by simp [show i < cs.size by rw [hr.1]; exact hi']
  rw [hg] at this
  exact this.scal (List.all_eq_true.1 h _ (List.getElem_mem hi'))
theorem getD_one {cs : Array Value} (h : ∀ v ∈ cs.toList, v.oneCell' = true) {i : Nat} (hi : i < cs.size) : (cs.getD i undef).oneCell' = true := by
  have : cs.getD i undef = cs[i] := by simp [hi]
  rw [this]
  exact h _ (by simp)
theorem one_row_one {vs : List V} {cs : Array Value} (hs : vs.all V.scal = true) (h : RelA φ I w vs cs) : ∀ i j, i < [vs].length → j < vs.length → (cs.getD (i * vs.length + j) undef).oneCell' = true := fun i j h1 h2 => by
  have : i = 0 := by simpa using h1
  subst this
  rw [Nat.zero_mul, Nat.zero_add]
  exact getD_one (all_scal hs h) (by rw [h.1]; exact h2)
theorem one_row {vs : List V} {cs : Array Value} (h : RelA φ I w vs cs) : ∀ i j e v, [vs][i]? = some e → e[j]? = some v → Rel φ I w v (cs.getD (i * vs.length + j) undef) := fun i j e v h1 h2 => by
  cases i with
  | zero => simp at h1; subst h1; simpa using h.2 j v h2
  | succ i => simp at h1
theorem acts_new {o : Oper} {t : TypeId} {z : List V} {v : V} {σ' : St} (ho : o.op = .alloc t) (hz : zeroC P t = some z) (hs : Sim φ I σ w) (he : evI env σ (.new z) = some (v, σ')) : Acts P φ I σ w a o v σ' := by
  obtain ⟨c, hc, hr, hsc, _, hp⟩ := zeroC_run (P := P) (φ := φ) (I := I) (w := w) hz
  obtain ⟨dst, op', ty, pos, after, guard⟩ := o
  simp only at ho; subst ho
  simp only [evI, Option.some.injEq, Prod.mk.injEq] at he
  obtain ⟨rfl, rfl⟩ := he
  let w1 : World := { w with heap := w.heap.push (.cells c.cells t (0, 0)) }
  obtain ⟨h1, h2⟩ := row_new (w' := w1) hs rfl ⟨rfl, rfl, rfl⟩ (fits_none _) hp (es := [z]) (by simp) (by simp [hr.1]) (one_row_one hsc hr) (one_row hr)
  refine ⟨_, w1, _, _, .inl ?_, new_ptr, h1, h2⟩
  simp only [execOp, Instr.alloc, Sem.run_bind, hc, Result.andThen_ok, newVar, newRow, run_newObj, Sem.run_pure]
  rfl
theorem acts_box {o : Oper} {t : TypeId} {x : Operand} {x' : Opd} {v : V} {σ' : St} (ho : o.op = .box t x) (hs : Sim φ I σ w) (hf : EnvR φ I w nt env a) (hx : cOpd nt x = some x') (he : evI env σ (.box x') = some (v, σ')) : Acts P φ I σ w a o v σ' := by
  have h := cOpd_rel hf hx
  obtain ⟨dst, op', ty, pos, after, guard⟩ := o
  simp only at ho; subst ho
  simp only [evI] at he
  split at he <;> simp only [Option.some.injEq, Prod.mk.injEq, reduceCtorEq] at he
  rename_i hc
  obtain ⟨rfl, rfl⟩ := he
  have hr := h.cells hc.1
  let w1 : World := { w with heap := w.heap.push (.cells (a.eval x).cells t (0, 0)) }
  obtain ⟨h1, h2⟩ := row_new (w' := w1) hs rfl ⟨rfl, rfl, rfl⟩ (fits_none _) hc.2 (es := [(x'.ev env).cells]) (by simp) (by simp [hr.1]) (one_row_one hc.1 hr) (one_row hr)
  refine ⟨_, w1, _, _, .inl ?_, new_ptr, h1, h2⟩
  simp only [execOp, Instr.box, newVar, newRow, Sem.run_bind, run_newObj, Result.andThen_ok, Sem.run_pure]
  rfl
theorem acts_mkmap {o : Oper} {t : TypeId} {v : V} {σ' : St} (ho : o.op = .makeMap t none) (hs : Sim φ I σ w) (he : evI env σ .mkmap = some (v, σ')) : Acts P φ I σ w a o v σ' := by
  obtain ⟨dst, op', ty, pos, after, guard⟩ := o
  simp only at ho; subst ho
  simp only [evI, Option.some.injEq, Prod.mk.injEq] at he
  obtain ⟨rfl, rfl⟩ := he
  let w1 : World := { w with heap := w.heap.push (.map #[] 0) }
  obtain ⟨h1, h2⟩ := sim_new (w' := w1) (z := 0) (blk := .map []) hs rfl ⟨rfl, rfl, rfl⟩ (fun φ' hφ => .map (ents := #[]) (clock := 0) (by simp [w1]) rfl (fun i kv e h => by simp at h))
  refine ⟨_, w1, _, _, .inl ?_, .map (b := w.heap.size) (base := 0) (z := 0) (by simp [Phi.put]), h1, h2⟩
  simp only [execOp, Instr.makeMap, Sem.run_bind, run_newObj, Option.map_none, Result.andThen_ok, Sem.run_pure]
  rfl
/-- The same cells over and over. -/
theorem zeros_get (zc : Array Value) (n : Nat) (z : Nat) (hz : zc.size = z) (hp : 0 < z) (i j : Nat) (hi : i < n) (hj : j < z) :
    ((Array.range (n * z)).map (zc[· % zc.size]!)).getD (i * z + j) undef = zc.getD j undef := by
  have hlt := mul_lt_of hi hj
  have hm : (i * z + j) % z = j := by rw [Nat.mul_comm, Nat.mul_add_mod]; exact Nat.mod_eq_of_lt hj
  have hj' : j < zc.size := by omega
  simp [hlt, hz, hm, hj', getElem!_pos zc j hj', getElem?_pos zc j hj']
theorem wrap_id {n : Int} (h0 : -9223372036854775808 ≤ n) (h1 : n < 9223372036854775808) : IntKind.i64.wrap n = n := by
  unfold IntKind.wrap
  simp only [IntKind.bits, IntKind.signed, Bool.true_and, decide_eq_true_eq, Nat.reduceSub]
  by_cases h : n % 2 ^ 64 ≥ 2 ^ 63
  · rw [if_pos (by simpa using h)]; omega
  · rw [if_neg (by simpa using h)]; omega
theorem replicate_rel {z : List V} {zc : Array Value} (hr : RelA φ I w z zc) (hp : 0 < z.length) (n N : Nat) (hn : n ≤ N) : ∀ i j e v, (List.replicate n z)[i]? = some e → e[j]? = some v →
    Rel φ I w v (((Array.range (N * z.length)).map (zc[· % zc.size]!)).getD (i * z.length + j) undef) := fun i j e v h1 h2 => by
  simp only [List.getElem?_replicate] at h1
  split at h1 <;> simp at h1
  subst h1
  have hj := (List.getElem?_eq_some_iff.1 h2).1
  rw [zeros_get zc N z.length hr.1 hp i j (by omega) hj]
  exact hr.2 j v h2
theorem replicate_one {z : List V} {zc : Array Value} (hs : z.all V.scal = true) (hr : RelA φ I w z zc) (n N : Nat) (hn : n ≤ N) : ∀ i j, i < (List.replicate n z).length → j < z.length →
    (((Array.range (N * z.length)).map (zc[· % zc.size]!)).getD (i * z.length + j) undef).oneCell' = true := fun i j h1 h2 => by
  rw [List.length_replicate] at h1
  rw [zeros_get zc N z.length hr.1 (by omega) i j (by omega) h2]
  exact getD_one (all_scal hs hr) (by rw [hr.1]; exact h2)
theorem acts_mksl {o : Oper} {t e : TypeId} {inf : TypeInfo} {l c : Operand} {l' c' : Opd} {z : List V} {v : V} {σ' : St} (ho : o.op = .makeSlice t l c) (hu : P.underlying t = some (.slice e)) (hz : zeroC P e = some z) (hi : P.info? e = some inf) (hb : inf.bytes ≤ 65536)
    (hs : Sim φ I σ w) (hf : EnvR φ I w nt env a) (hl : cOpd nt l = some l') (hc : cOpd nt c = some c') (he : evI env σ (.mksl inf.bytes z l' c') = some (v, σ')) : Acts P φ I σ w a o v σ' := by
  have h1 := cOpd_rel hf hl
  have h2 := cOpd_rel hf hc
  obtain ⟨zc, hzc, hr, hsc, hsz, hp⟩ := zeroC_run (P := P) (φ := φ) (I := I) (w := w) hz
  obtain ⟨dst, op', ty, pos, after, guard⟩ := o
  simp only at ho; subst ho
  simp only [evI] at he
  split at he <;> (try (simp only [reduceCtorEq] at he; done))
  rename_i k1 n1 k2 n2 e1 e2
  rw [e1] at h1; rw [e2] at h2
  have h1 := h1.int_inv
  have h2 := h2.int_inv
  split at he <;> simp only [Option.some.injEq, Prod.mk.injEq, reduceCtorEq] at he
  rename_i hcnd
  obtain ⟨hn0, hn1, hn2, hn3⟩ := hcnd
  obtain ⟨rfl, rfl⟩ := he
  simp only [reach] at hn2 hn3
  have hw1 : IntKind.i64.wrap n1 = n1 := wrap_id (by omega) (by omega)
  have hw2 : IntKind.i64.wrap n2 = n2 := wrap_id (by omega) (by omega)
  let arr : Array Value := if n2.toNat * z.length = 0 then #[] else (Array.range (n2.toNat * z.length)).map (zc.cells[· % zc.cells.size]!)
  have harr : arr = (Array.range (n2.toNat * z.length)).map (zc.cells[· % zc.cells.size]!) := by
    simp only [arr]
    split
    · rename_i h; rw [h]; simp
    · rfl
  let w1 : World := { w with heap := w.heap.push (.cells arr e (0, 0)) }
  obtain ⟨q1, q2⟩ := row_new (w' := w1) hs rfl ⟨rfl, rfl, rfl⟩ (fits_none _) hp (es := List.replicate n1.toNat z) (fun e he => by rw [(List.mem_replicate.1 he).2])
    (by rw [harr]; simp; exact Nat.mul_le_mul_right _ (by omega)) (by rw [harr]; exact replicate_one hsc hr _ _ (by omega)) (by rw [harr]; exact replicate_rel hr hp _ _ (by omega))
  have hrel := new_rel (w' := w1) (z := z.length) (len := n1.toNat) (cap := n2.toNat) hs rfl (by omega) (by rw [harr]; simp)
  refine ⟨_, w1, _, _, .inl ?_, hrel, q1, q2⟩
  have hb1 : ¬ (n2 < 0 ∨ 281474976710656 < (inf.bytes : Int) * n2) := by omega
  have hb3 : ¬ (n1 < 0) := by omega
  have hb4 : ¬ (n2 < n1) := by omega
  have hti : (typeInfo e).run P w = .ok inf w := by simp [typeInfo, hi]
  have hlarge : ∀ n : Int, 0 ≤ n → inf.bytes * n ≤ 70368744177664 → (decide (n < 0) || decide ((inf.bytes : Int) * n > 2 ^ 48)) = false := fun n h h' => by simp; omega
  have hbn : (inf.bytes : Int) * n1 ≤ 70368744177664 := Int.le_trans (Int.mul_le_mul_of_nonneg_left hn1 (by omega)) hn2
  by_cases hz0 : n2.toNat * z.length = 0
  · have ha : arr = #[] := by simp only [arr, hz0, if_true]
    simp only [w1, ha]
    simp [execOp, Instr.makeSlice, run_underlying hu, h1, h2, asInt, asIntOf, hti, hw1, hw2, run_sizeOf hsz, hz0, hb1, hb3, hb4, newRow]
    rw [show Array.range 0 = #[] from rfl, Array.map_empty]
  · have ha : arr = (Array.range (n2.toNat * z.length)).map (zc.cells[· % zc.cells.size]!) := harr
    simp only [w1, ha]
    simp [execOp, Instr.makeSlice, run_underlying hu, h1, h2, asInt, asIntOf, hti, hw1, hw2, run_sizeOf hsz, hz0, hb1, hb3, hb4, newRow, hzc]
theorem bslice_fill (hf : EnvR φ I w nt env a) {z : Nat} (hz : 0 < z) : ∀ (parts : List (Nat × Operand)) (ps : List (Nat × Opd)) (es es' : List (List V)) (arr : Array Value),
    parts.length = ps.length → (∀ (i : Nat) (p : Nat × Opd), ps[i]? = some p → ∃ q, parts[i]? = some q ∧ q.1 = p.1 ∧ cOpd nt q.2 = some p.2) → (∀ e ∈ es, e.length = z) → arr.size = es.length * z → (∀ i j, i < es.length → j < z → (arr.getD (i * z + j) undef).oneCell' = true) →
    (∀ i j e v, es[i]? = some e → e[j]? = some v → Rel φ I w v (arr.getD (i * z + j) undef)) → bsliceV env z es ps = some es' →
    ∃ as, Instr.fill (fun i => some (i * z, z)) arr (parts.map fun q => (q.1, a.eval q.2)) = some as ∧ (∀ e ∈ es', e.length = z) ∧ es'.length = es.length ∧ as.size = es.length * z ∧ (∀ i j, i < es.length → j < z → (as.getD (i * z + j) undef).oneCell' = true) ∧
      ∀ i j e v, es'[i]? = some e → e[j]? = some v → Rel φ I w v (as.getD (i * z + j) undef)
  | [], [], es, es', arr, _, _, h1, h2, h0, h3, h => by simp only [bsliceV, Option.some.injEq] at h; subst h; exact ⟨arr, rfl, h1, rfl, h2, h0, h3⟩
  | q :: parts, (k, x) :: ps, es, es', arr, hl, hp, h1, h2, h0, h3, h => by
    obtain ⟨q', hq', hpl, hx⟩ := hp 0 _ rfl
    simp only [List.getElem?_cons_zero, Option.some.injEq] at hq'
    subst hq'
    unfold bsliceV at h
    split at h
    · rename_i hc
      obtain ⟨hc1, hc2, hc3⟩ := hc
      have hr := cOpd_rel hf hx
      obtain ⟨hs1, hs2⟩ := hr.cells hc3
      simp only at hpl hx hr hs1 hs2
      have hsz : k * z + z ≤ es.length * z := by
        have : (k + 1) * z ≤ es.length * z := Nat.mul_le_mul_right z hc2
        rw [Nat.add_mul] at this; omega
      obtain ⟨g1, g2⟩ := fillSet (a.eval q.2).cells (k * z) arr (by omega)
      obtain ⟨as, has, b1, b2, b3, b0, b4⟩ := bslice_fill hf hz parts ps (es.set k (x.ev env).cells) es' _ (by simpa using hl) (fun i p hpi => by simpa using hp (i + 1) p (by simpa using hpi))
        (fun e he => by
          rcases List.mem_or_eq_of_mem_set he with h | h
          · exact h1 e h
          · rw [h]; exact hc1)
        (by rw [g1, h2, List.length_set])
        (fun i j hi hj => by
          rw [g2]
          rw [List.length_set] at hi
          split
          · exact getD_one (all_scal hc3 ⟨hs1, hs2⟩) (by omega)
          · exact h0 i j hi hj)
        (fun i j e v hi hj => by
          rw [g2]
          rw [List.getElem?_set] at hi
          split at hi
          · rename_i hki
            subst hki
            simp only [Option.some.injEq] at hi
            subst hi
            have hjl := (List.getElem?_eq_some_iff.1 hj).1
            rw [if_pos (by omega), show k * z + j - k * z = j by omega]
            exact hs2 _ _ hj
          · rename_i hki
            have hjl := (List.getElem?_eq_some_iff.1 hj).1
            have hel := h1 e (List.mem_of_getElem? hi)
            rw [if_neg]
            · exact h3 i j e v hi hj
            · intro ⟨hh1, hh2⟩
              rw [hs1, hc1] at hh2
              rcases Nat.lt_or_gt_of_ne hki with hlt | hlt
              · have : (k + 1) * z ≤ i * z := Nat.mul_le_mul_right z hlt
                rw [Nat.add_mul] at this; omega
              · have : (i + 1) * z ≤ k * z := Nat.mul_le_mul_right z hlt
                rw [Nat.add_mul] at this; omega) h
      refine ⟨as, ?_, b1, by rw [b2, List.length_set], by rw [b3, List.length_set], fun i j hi hj => b0 i j (by rw [List.length_set]; exact hi) hj, b4⟩
      rw [List.map_cons, Instr.fill, hpl]
      have e1 : ¬ ((a.eval q.2).cells.size ≠ z || decide (k * z + (a.eval q.2).cells.size > arr.size)) = true := by
        simp only [Bool.or_eq_true, decide_eq_true_eq, not_or, Decidable.not_not]
        omega
      simp only
      rw [if_neg (by simpa using e1)]
      exact has
    · simp at h
theorem acts_bslice {o : Oper} {t e : TypeId} {len : Nat} {parts : Array (Nat × Operand)} {ps : List (Nat × Opd)} {z : List V} {v : V} {σ' : St} (ho : o.op = .buildSlice t len parts) (hu : P.underlying t = some (.slice e)) (hz : zeroC P e = some z)
    (hlim : len * z.length ≤ 2 ^ 24) (hps : (parts.toList.mapM fun (p : Nat × Operand) => (cOpd nt p.2).map fun x => (p.1, x)) = some ps)
    (hs : Sim φ I σ w) (hf : EnvR φ I w nt env a) (he : evI env σ (.bslice z len ps) = some (v, σ')) : Acts P φ I σ w a o v σ' := by
  obtain ⟨zc, hzc, hr, hsc, hsz, hp⟩ := zeroC_run (P := P) (φ := φ) (I := I) (w := w) hz
  obtain ⟨dst, op', ty, pos, after, guard⟩ := o
  simp only at ho; subst ho
  simp only [evI, Option.map_eq_some_iff, Prod.mk.injEq] at he
  obtain ⟨es, hes, rfl, rfl⟩ := he
  obtain ⟨hl, hg⟩ := mapM_some hps
  obtain ⟨as, has, b1, b2, b3, b0, b4⟩ := bslice_fill hf hp parts.toList ps (List.replicate len z) es ((Array.range (len * z.length)).map (zc.cells[· % zc.cells.size]!)) (by omega) (fun i p hpi => by
      obtain ⟨q, hq, hqp⟩ := hg i p hpi
      simp only [Option.map_eq_some_iff] at hqp
      obtain ⟨x, hx, rfl⟩ := hqp
      exact ⟨q, hq, rfl, hx⟩) (fun e he => by rw [(List.mem_replicate.1 he).2]) (by simp) (replicate_one hsc hr len len (Nat.le_refl _)) (replicate_rel hr hp len len (Nat.le_refl _)) hes
  rw [List.length_replicate] at b2 b3 b0
  let w1 : World := { w with heap := w.heap.push (.cells as e (0, 0)) }
  obtain ⟨q1, q2⟩ := row_new (w' := w1) hs rfl ⟨rfl, rfl, rfl⟩ (fits_none _) hp b1 (by rw [b2, b3]; exact Nat.le_refl _) (fun i j hi hj => b0 i j (by omega) hj) b4
  have hrel := new_rel (w' := w1) (z := z.length) (len := len) (cap := len) hs rfl (Nat.le_refl _) (by rw [b3])
  refine ⟨_, w1, _, _, .inl ?_, hrel, q1, q2⟩
  have hlim' : ¬ (len * z.length > 2 ^ 24) := by omega
  have hmap : (parts.map fun x => (x.1, a.eval x.2)).toList = parts.toList.map fun q => (q.1, a.eval q.2) := by simp
  simp only [execOp, Instr.buildSlice, Sem.run_bind, run_underlying hu, Result.andThen_ok, run_sizeOf hsz]
  rw [if_neg hlim']
  by_cases hz0 : len * z.length = 0
  · have hr0 : (Array.range (len * z.length)).map (zc.cells[· % zc.cells.size]!) = (Array.range (len * z.length)).map ((#[] : Array Value)[· % (#[] : Array Value).size]!) := by rw [hz0]; simp
    rw [hr0] at has
    simp only [hz0, if_true, Sem.run_bind, Sem.run_pure, Result.andThen_ok] at has ⊢
    rw [hmap, has]
    simp only [newRow, Sem.run_bind, run_newObj, Result.andThen_ok, Sem.run_pure]
    rfl
  · rw [if_neg hz0]
    simp only [Sem.run_bind, hzc, Sem.run_pure, Result.andThen_ok]
    rw [hmap, has]
    simp only [newRow, Sem.run_bind, run_newObj, Result.andThen_ok, Sem.run_pure]
    rfl
end
end Go.Proofs.YtmjbnfldehbmcaaDoor.Ab
