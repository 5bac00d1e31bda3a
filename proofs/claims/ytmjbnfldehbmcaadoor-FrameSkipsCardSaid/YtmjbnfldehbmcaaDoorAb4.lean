/-
The walk over the program's texts, told with what its values say: a part of it. No further condition.
-/
import Derived.Test.YtmjbnfldehbmcaaDoorAb3
import Derived.Laws.Cells
import Derived.Laws.Small
import Derived.Laws.Entries
namespace Go.Proofs.YtmjbnfldehbmcaaDoor.Ab
open Go.RowKit
set_option linter.unusedVariables false
set_option linter.unusedSimpArgs false
theorem beqd {α : Type} [BEq α] [LawfulBEq α] [DecidableEq α] (a b : α) : (a == b) = decide (a = b) := by
  by_cases h : a = b <;> simp [h]
/-- An operation that reads, at most: it gives a value, and all stays. -/
def Quiet (P : Program) (φ : Phi) (I : Nat → Prop) (w : World) (a : Act) (o : Oper) (v : V) : Prop :=
  ∃ c, (execOp a.eval o).run P w = .ok (.value c) w ∧ Rel φ I w v c
section
variable {P : Program} {φ : Phi} {I : Nat → Prop} {σ : St} {w : World} {nt : Nat} {env : Env} {a : Act}
theorem Rel.cells {v : V} {c : Value} (h : Rel φ I w v c) (hs : v.cells.all V.scal = true) :
    c.cells.size = v.cells.length ∧ ∀ i x, v.cells[i]? = some x → Rel φ I w x (c.cells.getD i undef) := by
  cases h with
  | agg h r => exact ⟨h, r⟩
  | tup h r => simp [V.cells, V.scal] at hs
  | any c => simp [V.cells, V.scal] at hs
  | _ =>
    refine ⟨rfl, fun i x hx => ?_⟩
    cases i with
    | zero => simp [V.cells] at hx; subst hx; simp [Value.cells]; first | exact .bool _ | exact .int _ _ | exact .str ‹_› | exact .nilp | exact .ptr _ _ ‹_› | exact .iptr _ ‹_› ‹_› ‹_› ‹_› ‹_› | exact .nils | exact .slc ‹_› ‹_› ‹_› ‹_› | exact .islc ‹_› ‹_› ‹_› ‹_› ‹_› ‹_› ‹_› | exact .mapn | exact .map ‹_› | exact .func _ ‹_› ‹_› ‹_› ‹_› | exact .nilf | exact .iface _ ‹_› | exact .nili
    | succ i => simp [V.cells] at hx
theorem Rel.scal {v : V} {c : Value} (h : Rel φ I w v c) (hs : v.scal = true) : c.oneCell' = true := by
  cases h <;> first | rfl | (simp [V.scal] at hs)
theorem quiet_mv {o : Oper} {x : Operand} {y : Opd} (ho : o.op = .move x ∨ o.op = .assign x) (hf : ∀ t, t < nt → Rel φ I w (env t) (a.tmps.getD t undef)) (hx : cOpd nt x = some y) :
    Quiet P φ I w a o (y.ev env) := by
  refine ⟨a.eval x, ?_, cOpd_rel hf hx⟩
  obtain ⟨dst, op, ty, pos, after, guard⟩ := o
  rcases ho with h | h <;> simp only at h <;> subst h <;> simp [execOp]
theorem Rel.bool_inv {b : Bool} {c : Value} (h : Rel φ I w (.bool b) c) : c = .bool b := by cases h; rfl
theorem Rel.int_inv {k : IntKind} {n : Int} {c : Value} (h : Rel φ I w (.int k n) c) : c = .int k n := by cases h; rfl
theorem Rel.str_inv {l : List UInt8} {c : Value} (h : Rel φ I w (.str l) c) : ∃ s : ByteArray, c = .string s ∧ s.data.toList = l := by cases h; exact ⟨_, rfl, ‹_›⟩
theorem quiet_pick {o : Oper} {c x y : Operand} {c' x' y' : Opd} {v : V} (ho : o.op = .pick c x y) (hf : ∀ t, t < nt → Rel φ I w (env t) (a.tmps.getD t undef)) (hc : cOpd nt c = some c')
    (hx : cOpd nt x = some x') (hy : cOpd nt y = some y') {b : Bool} (hb : c'.ev env = .bool b) (hv : v = if b then x'.ev env else y'.ev env) : Quiet P φ I w a o v := by
  have h := cOpd_rel hf hc
  rw [hb] at h
  have h := h.bool_inv
  obtain ⟨dst, op, ty, pos, after, guard⟩ := o
  simp only at ho; subst ho
  refine ⟨if b then a.eval x else a.eval y, by simp [execOp, h, asBool], ?_⟩
  subst hv
  cases b
  · exact cOpd_rel hf hy
  · exact cOpd_rel hf hx
/-- What a row's cells are. -/
theorem Sim.row (hs : Sim φ I σ w) {l z : Nat} {es : List (List V)} (h : σ.H l = some (.row z es)) :
    ∃ b base arr t fz, φ l = some (b, base, z) ∧ w.heap[b]? = some (.cells arr t fz) ∧ fits arr fz ∧ 0 < z ∧ (∀ e ∈ es, e.length = z) ∧ base + es.length * z ≤ arr.size ∧ (∀ i j, i < es.length → j < z → (arr.getD (base + i * z + j) undef).oneCell' = true) ∧
      ∀ i j e v, es[i]? = some e → e[j]? = some v → Rel φ I w v (arr.getD (base + i * z + j) undef) := by
  obtain ⟨⟨b, base, z'⟩, h1, h2⟩ := hs.live _ _ h
  cases h2 with
  | row hh hfz hpos hz hsz ho hr => exact ⟨b, base, _, _, _, h1, hh, hfz, hpos, hz, hsz, ho, hr⟩
theorem mul_lt_of {n i j z : Nat} (hi : i < n) (hj : j < z) : i * z + j < n * z := by
  have h1 : (i + 1) * z ≤ n * z := Nat.mul_le_mul_right z hi
  rw [Nat.add_mul] at h1
  omega
theorem Sim.cell (hs : Sim φ I σ w) {l z i j : Nat} {es : List (List V)} {e : List V} {v : V} (h : σ.H l = some (.row z es)) (hi : es[i]? = some e) (hj : e[j]? = some v)
    {b base z' : Nat} (hφ : φ l = some (b, base, z')) : z' = z ∧ ∃ c, w.cell? ⟨b, base + i * z + j, none⟩ = some c ∧ Rel φ I w v c ∧ w.frozen? ⟨b, base + i * z + j, none⟩ = false := by
  obtain ⟨b', base', arr, t, fz, h1, hh, hfz, hpos, hz, hsz, ho, hr⟩ := hs.row h
  rw [hφ] at h1
  simp only [Option.some.injEq, Prod.mk.injEq] at h1
  obtain ⟨rfl, rfl, rfl⟩ := h1
  have hil : i < es.length := (List.getElem?_eq_some_iff.1 hi).1
  have hjl : j < z' := by
    have h3 := hz e (List.mem_of_getElem? hi)
    have h4 := (List.getElem?_eq_some_iff.1 hj).1
    omega
  have hlt : base + i * z' + j < arr.size := by
    have := mul_lt_of hil hjl
    omega
  refine ⟨rfl, arr.getD (base + i * z' + j) undef, ?_, hr i j e v hi hj, ?_⟩
  · simp [World.cell?, hh, hlt]
  · have := hfz.not hlt
    simp only [World.frozen?, hh]
    simp only [Bool.and_eq_false_iff, decide_eq_false_iff_not]
    omega
theorem run_isAgg {t : TypeId} {d : TypeDesc} (hd : P.underlying t = some d) : (isAgg t).run P w = .ok (isAggD d) w := by
  unfold isAgg
  rw [Sem.run_bind, run_underlying hd]
  cases d <;> rfl
theorem run_sizeOf {t : TypeId} {n : Nat} (h : sizeD P t = some n) : (sizeOf t).run P w = .ok n w := by
  simp only [sizeD, Option.map_eq_some_iff] at h
  obtain ⟨i, hi, rfl⟩ := h
  simp [sizeOf, typeInfo, hi]
theorem run_load_cell {ad : Addr} {c : Value} (h : w.cell? ad = some c) : (load ad).run P w = .ok c w := by simp [h]
theorem quiet_ld {o : Oper} {t : TypeId} {x : Operand} {x' : Opd} {d : TypeDesc} {v : V} (ho : o.op = .load t x) (hd : P.underlying t = some d) (hag : isAggD d = false) (hs : Sim φ I σ w)
    (hf : ∀ t, t < nt → Rel φ I w (env t) (a.tmps.getD t undef)) (hx : cOpd nt x = some x') {σ' : St} (he : evI env σ (.ld x') = some (v, σ')) : σ' = σ ∧ Quiet P φ I w a o v := by
  have h := cOpd_rel hf hx
  have key : ∀ ad c, a.eval x = .pointer (some ad) → w.cell? ad = some c → (execOp a.eval o).run P w = .ok (.value c) w := fun ad c h1 h2 => by
    obtain ⟨dst, op, ty, pos, after, guard⟩ := o
    simp only at ho; subst ho
    simp [execOp, Instr.loadAt, h1, Instr.sureAddr, loadVar, run_isAgg hd, hag, h2]
  simp only [evI] at he
  split at he
  · rename_i l i j hv
    rw [hv] at h
    split at he
    · rename_i z es hH
      simp only [Option.map_eq_some_iff, Option.bind_eq_some_iff, Prod.mk.injEq] at he
      obtain ⟨v', ⟨e, h1, h2⟩, rfl, rfl⟩ := he
      generalize hq : a.eval x = q at h
      cases h with
      | ptr i j hφ =>
        obtain ⟨rfl, c, hc, hr, _⟩ := hs.cell hH h1 h2 hφ
        exact ⟨rfl, c, key _ _ hq hc, hr⟩
    · simp at he
  · rename_i e j hv
    rw [hv] at h
    simp only [Option.map_eq_some_iff, Prod.mk.injEq] at he
    obtain ⟨v', h2, rfl, rfl⟩ := he
    generalize hq : a.eval x = q at h
    cases h with
    | iptr j hI hc ho hp hr => exact ⟨rfl, _, key _ _ hq (hc _ (List.getElem?_eq_some_iff.1 h2).1), hr _ _ h2⟩
  · simp at he
theorem loadCells_of {ad : Addr} {n : Nat} {f : Nat → Value} (h : ∀ k, k < n → w.cell? (ad.add k) = some (f k)) : (loadCells ad n).run P w = .ok ((List.range n).map f).toArray w := by
  rw [run_loadCells w ad n f h]
theorem quiet_lda {o : Oper} {t : TypeId} {x : Operand} {x' : Opd} {d : TypeDesc} {n : Nat} {v : V} (ho : o.op = .load t x) (hd : P.underlying t = some d) (hag : isAggD d = true) (hn : sizeD P t = some n) (hs : Sim φ I σ w)
    (hf : ∀ t, t < nt → Rel φ I w (env t) (a.tmps.getD t undef)) (hx : cOpd nt x = some x') {σ' : St} (he : evI env σ (.lda n x') = some (v, σ')) : σ' = σ ∧ Quiet P φ I w a o v := by
  have h := cOpd_rel hf hx
  have key : ∀ ad (f : Nat → Value), a.eval x = .pointer (some ad) → (∀ k, k < n → w.cell? (ad.add k) = some (f k)) → (execOp a.eval o).run P w = .ok (.value (.agg ((List.range n).map f).toArray)) w := fun ad f h1 h2 => by
    obtain ⟨dst, op, ty, pos, after, guard⟩ := o
    simp only at ho; subst ho
    simp [execOp, Instr.loadAt, h1, Instr.sureAddr, loadVar, run_isAgg hd, hag, run_sizeOf hn, loadCells_of h2]
  have rl : ∀ (e : List V) (j : Nat) (f : Nat → Value), j + n ≤ e.length → (∀ k u, k < n → e[j + k]? = some u → Rel φ I w u (f k)) → Rel φ I w (.agg ((e.drop j).take n)) (.agg ((List.range n).map f).toArray) := fun e j f hl hr => by
    refine .agg (by simp; omega) (fun i u hu => ?_)
    have hi : i < n := by have := (List.getElem?_eq_some_iff.1 hu).1; simp at this; omega
    simp only [List.getElem?_take, hi, if_true, List.getElem?_drop] at hu
    simpa [hi] using hr i u hi hu
  simp only [evI] at he
  split at he
  · rename_i l i j hv
    rw [hv] at h
    split at he
    · rename_i z es hH
      simp only [Option.bind_eq_some_iff] at he
      obtain ⟨e, h1, he⟩ := he
      split at he
      · rename_i hle
        simp only [Option.some.injEq, Prod.mk.injEq] at he
        obtain ⟨rfl, rfl⟩ := he
        generalize hq : a.eval x = q at h
        cases h with
        | ptr i j hφ =>
          rename_i b base z'
          have hc : ∀ k, k < n → ∃ c, w.cell? ⟨b, base + i * z' + (j + k), none⟩ = some c ∧ ∀ u, e[j + k]? = some u → Rel φ I w u c := fun k hk => by
            obtain ⟨u, hu⟩ : ∃ u, e[j + k]? = some u := ⟨e[j + k], List.getElem?_eq_getElem _⟩
            obtain ⟨rfl, c, hc, hr, _⟩ := hs.cell hH h1 hu hφ
            exact ⟨c, hc, fun u' hu' => by rw [hu] at hu'; cases hu'; exact hr⟩
          let f : Nat → Value := fun k => if hk : k < n then (hc k hk).choose else undef
          have hfk : ∀ k, (hk : k < n) → f k = (hc k hk).choose := fun k hk => by simp [f, hk]
          refine ⟨rfl, _, key ⟨b, base + i * z' + j, none⟩ f hq (fun k hk => ?_), rl e j f hle (fun k u hk hu => ?_)⟩
          · have := (hc k hk).choose_spec.1
            rw [hfk k hk, Addr.add_lit, Nat.add_assoc]
            exact this
          · rw [hfk k hk]
            exact (hc k hk).choose_spec.2 u hu
      · simp at he
    · simp at he
  · rename_i e j hv
    rw [hv] at h
    split at he
    · rename_i hle
      simp only [Option.some.injEq, Prod.mk.injEq] at he
      obtain ⟨rfl, rfl⟩ := he
      generalize hq : a.eval x = q at h
      cases h with
      | iptr j hI hc ho hp hr =>
        rename_i b o' cs
        refine ⟨rfl, _, key ⟨b, o' + j, none⟩ (fun k => cs (j + k)) hq (fun k hk => ?_), rl e j _ hle (fun k u hk hu => hr _ _ hu)⟩
        rw [Addr.add_lit, Nat.add_assoc]
        exact hc _ (by omega)
    · simp at he
  · simp at he
theorem quiet_nilck {o : Oper} {x : Operand} {x' : Opd} {v : V} (ho : o.op = .nilCheck x)
    (hf : ∀ t, t < nt → Rel φ I w (env t) (a.tmps.getD t undef)) (hx : cOpd nt x = some x') {σ' : St} (he : evI env σ (.nilck x') = some (v, σ')) : σ' = σ ∧ Quiet P φ I w a o v := by
  have h := cOpd_rel hf hx
  obtain ⟨dst, op, ty, pos, after, guard⟩ := o
  simp only at ho; subst ho
  simp only [evI] at he
  split at he <;> (try (simp at he; done))
  all_goals
    rename_i hv
    simp only [Option.some.injEq, Prod.mk.injEq] at he
    obtain ⟨rfl, rfl⟩ := he
    refine ⟨rfl, a.eval x, ?_, by rw [hv] at h; exact h⟩
    rw [hv] at h
    generalize hq : a.eval x = q at h
    cases h
    simp [execOp, hq]
theorem intBin_run {op : BinOp} {k : IntKind} {x y : Int} {v : V} (h : intBin op k x y = some v) (hop : op ≠ .shl ∧ op ≠ .shr) (t : TypeId) :
    ∃ c, (binOp op t (.int k x) (.int k y)).run P w = .ok c w ∧ Rel φ I w v c := by
  cases op
  case shl => exact absurd rfl hop.1
  case shr => exact absurd rfl hop.2
  case quo =>
    simp only [intBin] at h
    split at h
    · simp at h
    · rename_i hne
      simp only [Option.some.injEq] at h; subst h
      exact ⟨.int k (k.wrap (x.tdiv y)), by simp [binOp, Op.intDiv, hne], .int _ _⟩
  case rem =>
    simp only [intBin] at h
    split at h
    · simp at h
    · rename_i hne
      simp only [Option.some.injEq] at h; subst h
      exact ⟨.int k (x.tmod y), by simp [binOp, Op.intDiv, hne], .int _ _⟩
  all_goals
    simp only [intBin, Option.some.injEq] at h
    subst h
  case add => exact ⟨.int k (k.wrap (x + y)), by simp [binOp, Op.intArith], .int _ _⟩
  case sub => exact ⟨.int k (k.wrap (x - y)), by simp [binOp, Op.intArith], .int _ _⟩
  case mul => exact ⟨.int k (k.wrap (x * y)), by simp [binOp, Op.intArith], .int _ _⟩
  case and => exact ⟨.int k _, by simp [binOp, Op.intBits], .int _ _⟩
  case or => exact ⟨.int k _, by simp [binOp, Op.intBits], .int _ _⟩
  case xor => exact ⟨.int k _, by simp [binOp, Op.intBits], .int _ _⟩
  case andNot => exact ⟨.int k _, by simp [binOp, Op.intBits], .int _ _⟩
  case eql => exact ⟨.bool (decide (x = y)), by simp [binOp, Op.intCmp, beqd], .bool _⟩
  case neq => exact ⟨.bool (decide (x ≠ y)), by simp [binOp, Op.intCmp, bne, beqd], .bool _⟩
  case lss => exact ⟨.bool (decide (x < y)), by simp [binOp, Op.intCmp], .bool _⟩
  case leq => exact ⟨.bool (decide (x ≤ y)), by simp [binOp, Op.intCmp], .bool _⟩
  case gtr => exact ⟨.bool (decide (x > y)), by simp [binOp, Op.intCmp], .bool _⟩
  case geq => exact ⟨.bool (decide (x ≥ y)), by simp [binOp, Op.intCmp], .bool _⟩
theorem bytes_toList (s : ByteArray) : s.toList = s.data.toList := ByteArray.toList_eq ..
theorem strBin_run {op : BinOp} {s t : ByteArray} {v : V} (h : strBin op s.data.toList t.data.toList = some v) (ty : TypeId) :
    ∃ c, (binOp op ty (.string s) (.string t)).run P w = .ok c w ∧ Rel φ I w v c := by
  cases op <;> simp only [strBin, Option.some.injEq, reduceCtorEq] at h
  case add =>
    split at h
    · rename_i hle
      simp only [Option.some.injEq] at h
      subst h
      refine ⟨.string (s ++ t), ?_, .str (by simp [ByteArray.data_append])⟩
      have h1 : (s.size : Int) + (t.size : Int) ≤ 9223372036854775807 := by
        simp only [ByteArray.size, Array.length_toList] at hle ⊢; omega
      have e : IntKind.i64.max = 9223372036854775807 := rfl
      simp [binOp, Op.stringOp, e, h1]
    · simp at h
  all_goals (subst h)
  case eql => exact ⟨.bool _, by simp [binOp, Op.stringOp, bytes_toList, beqd], .bool _⟩
  case neq => exact ⟨.bool _, by simp [binOp, Op.stringOp, bytes_toList, beqd], .bool _⟩
  case lss => exact ⟨.bool _, by simp [binOp, Op.stringOp, bytes_toList, beqd], .bool _⟩
  case leq => exact ⟨.bool _, by simp [binOp, Op.stringOp, bytes_toList, beqd], .bool _⟩
  case gtr => exact ⟨.bool _, by simp [binOp, Op.stringOp, bytes_toList, beqd], .bool _⟩
  case geq => exact ⟨.bool _, by simp [binOp, Op.stringOp, bytes_toList, beqd], .bool _⟩
theorem eqGuard_not {op : BinOp} (h : op ≠ .eql ∧ op ≠ .neq) (t : TypeId) (x y : Operand) (u v : Value) : eqGuard op t x y u v = pure () := by
  cases op <;> first | rfl | exact absurd rfl h.1 | exact absurd rfl h.2
theorem quiet_bin {o : Oper} {op : BinOp} {t u : TypeId} {x y : Operand} {x' y' : Opd} {v : V} (ho : o.op = .binOp op t x y u)
    (hf : ∀ t, t < nt → Rel φ I w (env t) (a.tmps.getD t undef)) (hx : cOpd nt x = some x') (hy : cOpd nt y = some y') {σ' : St} (he : evI env σ (.bin op x' y') = some (v, σ')) : σ' = σ ∧ Quiet P φ I w a o v := by
  have h1 := cOpd_rel hf hx
  have h2 := cOpd_rel hf hy
  obtain ⟨dst, op', ty, pos, after, guard⟩ := o
  simp only at ho; subst ho
  simp only [evI, Option.map_eq_some_iff, Prod.mk.injEq] at he
  obtain ⟨v', he, rfl, rfl⟩ := he
  refine ⟨rfl, ?_⟩
  unfold binV at he
  split at he
  · rename_i k x1 k' y1 e1 e2
    rw [e1] at h1; rw [e2] at h2
    have h1 := h1.int_inv
    have h2 := h2.int_inv
    split at he
    · split at he
      · simp at he
      · rename_i hn
        simp only [Option.some.injEq] at he; subst he
        exact ⟨_, by simp [execOp, h1, h2, eqGuard, binOp, Op.shift, hn], .int _ _⟩
    · split at he
      · simp at he
      · rename_i hn
        simp only [Option.some.injEq] at he; subst he
        exact ⟨_, by simp [execOp, h1, h2, eqGuard, binOp, Op.shift, hn], .int _ _⟩
    · rename_i n1 n2
      split at he
      · rename_i hk; subst hk
        obtain ⟨c, hc, hr⟩ := intBin_run (P := P) (φ := φ) (I := I) (w := w) he ⟨n1, n2⟩ t
        refine ⟨c, ?_, hr⟩
        have hg : eqGuard op t x y (.int k x1) (.int k y1) = pure () := by cases op <;> rfl
        simp [execOp, h1, h2, hg, hc]
      · simp at he
  · rename_i s1 s2 e1 e2
    rw [e1] at h1; rw [e2] at h2
    obtain ⟨b1, q1, rfl⟩ := h1.str_inv
    obtain ⟨b2, q2, rfl⟩ := h2.str_inv
    obtain ⟨c, hc, hr⟩ := strBin_run (P := P) (φ := φ) (I := I) (w := w) he t
    refine ⟨c, ?_, hr⟩
    have hg : eqGuard op t x y (.string b1) (.string b2) = pure () := by cases op <;> rfl
    simp [execOp, q1, q2, hg, hc]
  · simp at he
end
end Go.Proofs.YtmjbnfldehbmcaaDoor.Ab
