/-
The walk over the program's texts, told with what its values say: a part of it. No further condition.
-/
import Derived.Test.YticpkoakbneefaaAb4
import Derived.Laws.BytesString
namespace Go.Proofs.Yticpkoakbneefaa.Ab
open Go.RowKit
set_option linter.unusedVariables false
set_option linter.unusedSimpArgs false
section
variable {P : Program} {φ : Phi} {I : Nat → Prop} {σ : St} {w : World} {nt : Nat} {env : Env} {a : Act}
theorem eq_at (t : TypeId) (x y : Value) {d : TypeDesc} (h : P.underlying t = some d) {r : Bool} (hr : ∀ n, (Op.equalIn (n + 1) t x y).run P w = .ok r w) : (Op.equal t x y).run P w = .ok r w := hr 9999
theorem eq_bool (t : TypeId) (x y : Bool) (h : P.underlying t = some .bool) : (Op.equal t (.bool x) (.bool y)).run P w = .ok (x == y) w :=
  eq_at t _ _ h fun n => by rw [Op.equalIn, Sem.run_bind, run_underlying h]; rfl
theorem eq_p1 (t : TypeId) (b : Option Addr) {e : TypeId} (h : P.underlying t = some (.pointer e)) : (Op.equal t (.pointer none) (.pointer b)).run P w = .ok b.isNone w :=
  eq_at t _ _ h fun n => by rw [Op.equalIn, Sem.run_bind, run_underlying h]; rfl
theorem eq_p2 (t : TypeId) (b : Addr) {e : TypeId} (h : P.underlying t = some (.pointer e)) : (Op.equal t (.pointer (some b)) (.pointer none)).run P w = .ok false w :=
  eq_at t _ _ h fun n => by rw [Op.equalIn, Sem.run_bind, run_underlying h]; rfl
theorem eq_s1 (t : TypeId) (b : Option Addr) (l c : Nat) {e : TypeId} (h : P.underlying t = some (.slice e)) : (Op.equal t (.slice none 0 0) (.slice b l c)).run P w = .ok b.isNone w :=
  eq_at t _ _ h fun n => by rw [Op.equalIn, Sem.run_bind, run_underlying h]; rfl
theorem eq_s2 (t : TypeId) (b : Addr) (l c : Nat) {e : TypeId} (h : P.underlying t = some (.slice e)) : (Op.equal t (.slice (some b) l c) (.slice none 0 0)).run P w = .ok false w :=
  eq_at t _ _ h fun n => by rw [Op.equalIn, Sem.run_bind, run_underlying h]; rfl
theorem eq_m1 (t : TypeId) (b : Option Nat) {k e : TypeId} (h : P.underlying t = some (.map k e)) : (Op.equal t (.map none) (.map b)).run P w = .ok b.isNone w :=
  eq_at t _ _ h fun n => by rw [Op.equalIn, Sem.run_bind, run_underlying h]; rfl
theorem eq_m2 (t : TypeId) (b : Nat) {k e : TypeId} (h : P.underlying t = some (.map k e)) : (Op.equal t (.map (some b)) (.map none)).run P w = .ok false w :=
  eq_at t _ _ h fun n => by rw [Op.equalIn, Sem.run_bind, run_underlying h]; rfl
theorem eq_f0 (t : TypeId) {ps rs : Array TypeId} {va : Bool} (h : P.underlying t = some (.func ps rs va)) : (Op.equal t .nilFunc .nilFunc).run P w = .ok true w :=
  eq_at t _ _ h fun n => by rw [Op.equalIn, Sem.run_bind, run_underlying h]; rfl
theorem eq_f1 (t : TypeId) {ps rs : Array TypeId} {va : Bool} (h : P.underlying t = some (.func ps rs va)) (f : Fn) (x y : Array Value) : (Op.equal t .nilFunc (.func f x y)).run P w = .ok false w :=
  eq_at t _ _ h fun n => by rw [Op.equalIn, Sem.run_bind, run_underlying h]; rfl
theorem eq_f2 (t : TypeId) {ps rs : Array TypeId} {va : Bool} (h : P.underlying t = some (.func ps rs va)) (f : Fn) (x y : Array Value) : (Op.equal t (.func f x y) .nilFunc).run P w = .ok false w :=
  eq_at t _ _ h fun n => by rw [Op.equalIn, Sem.run_bind, run_underlying h]; rfl
theorem eq_i0 (t : TypeId) {ms : Array (String × TypeId)} (h : P.underlying t = some (.interface ms)) : (Op.equal t .nilIface .nilIface).run P w = .ok true w :=
  eq_at t _ _ h fun n => by rw [Op.equalIn, Sem.run_bind, run_underlying h]; rfl
theorem eq_i1 (t : TypeId) {ms : Array (String × TypeId)} (h : P.underlying t = some (.interface ms)) (u : TypeId) (v : Value) : (Op.equal t .nilIface (.iface u v)).run P w = .ok false w :=
  eq_at t _ _ h fun n => by rw [Op.equalIn, Sem.run_bind, run_underlying h]; rfl
theorem eq_i2 (t : TypeId) {ms : Array (String × TypeId)} (h : P.underlying t = some (.interface ms)) (u : TypeId) (v : Value) : (Op.equal t (.iface u v) .nilIface).run P w = .ok false w :=
  eq_at t _ _ h fun n => by rw [Op.equalIn, Sem.run_bind, run_underlying h]; rfl
/-- What the temporaries hold. -/
abbrev EnvR (φ : Phi) (I : Nat → Prop) (w : World) (nt : Nat) (env : Env) (a : Act) : Prop := ∀ t, t < nt → Rel φ I w (env t) (a.tmps.getD t undef)
theorem quiet_beq {o : Oper} {op : BinOp} {neg : Bool} {t u : TypeId} {x y : Operand} {x' y' : Opd} {v : V} (ho : o.op = .binOp op t x y u) (hop : op = if neg then .neq else .eql) (ht : P.underlying t = some .bool)
    (hf : EnvR φ I w nt env a) (hx : cOpd nt x = some x') (hy : cOpd nt y = some y') {σ' : St} (he : evI env σ (.beq neg x' y') = some (v, σ')) : σ' = σ ∧ Quiet P φ I w a o v := by
  have h1 := cOpd_rel hf hx
  have h2 := cOpd_rel hf hy
  obtain ⟨dst, op', ty, pos, after, guard⟩ := o
  simp only at ho; subst ho
  simp only [evI] at he
  split at he
  · rename_i b1 b2 e1 e2
    rw [e1] at h1; rw [e2] at h2
    have h1 := h1.bool_inv
    have h2 := h2.bool_inv
    simp only [Option.some.injEq, Prod.mk.injEq] at he
    obtain ⟨rfl, rfl⟩ := he
    refine ⟨rfl, _, ?_, .bool _⟩
    have hg : eqGuard op t x y (.bool b1) (.bool b2) = pure () := by cases op <;> rfl
    subst hop
    cases neg
    · simp only [Bool.false_eq_true, if_false] at hg ⊢
      simp [execOp, h1, h2, hg, binOp, eq_bool t _ _ ht, beqd]
    · simp only [if_true] at hg ⊢
      simp [execOp, h1, h2, hg, binOp, eq_bool t _ _ ht, beqd]
  · simp at he
def famOf : TypeDesc → Nat
  | .pointer _ => 1
  | .slice _ => 2
  | .func _ _ _ => 3
  | .interface _ => 4
  | .map _ _ => 5
  | _ => 0
theorem quiet_nq {o : Oper} {op : BinOp} {neg : Bool} {t u : TypeId} {x y : Operand} {x' y' : Opd} {d : TypeDesc} {fam : Nat} {v : V} (ho : o.op = .binOp op t x y u) (hop : op = if neg then .neq else .eql) (ht : P.underlying t = some d)
    (hd : famOf d = fam) (hfam : 0 < fam) (hk : fam = 4 → (isConstO x || isConstO y) = true)
    (hf : EnvR φ I w nt env a) (hx : cOpd nt x = some x') (hy : cOpd nt y = some y') {σ' : St} (he : evI env σ (.nq neg fam x' y') = some (v, σ')) : σ' = σ ∧ Quiet P φ I w a o v := by
  have h1 := cOpd_rel hf hx
  have h2 := cOpd_rel hf hy
  obtain ⟨dst, op', ty, pos, after, guard⟩ := o
  simp only at ho; subst ho
  simp only [evI, Option.map_eq_some_iff, Prod.mk.injEq] at he
  obtain ⟨b, he, rfl, rfl⟩ := he
  refine ⟨rfl, .bool _, ?_, .bool _⟩
  unfold nilEq at he
  split at he
  · rename_i f1 n1 f2 n2 e1 e2
    split at he
    · rename_i hc
      obtain ⟨rfl, hc2, hc3⟩ := hc
      simp only [Option.some.injEq] at he
      subst he
      have hg : eqGuard op t x y (a.eval x) (a.eval y) = pure () := by
        by_cases h4 : f1 = 4
        · have hk := hk h4
          subst hop
          generalize a.eval x = A at h1 ⊢
          generalize a.eval y = B at h2 ⊢
          subst h4; subst hc2
          cases hX : x'.ev env <;> rw [hX] at e1 h1 <;> simp [nilK] at e1 <;> cases hY : y'.ev env <;> rw [hY] at e2 h2 <;> simp [nilK] at e2 <;> cases h1 <;> cases h2 <;> cases neg <;> simp [eqGuard] <;> (try rfl) <;>
            (intro hh1 hh2; cases x <;> cases y <;> simp_all [isConstO])
        · generalize a.eval x = A at h1 ⊢
          generalize a.eval y = B at h2 ⊢
          cases hX : x'.ev env <;> rw [hX] at e1 h1 <;> simp [nilK] at e1 <;> (try omega) <;> cases h1 <;> cases op <;> rfl
      have key : ∀ (A B : Value), Rel φ I w (x'.ev env) A → Rel φ I w (y'.ev env) B → (Op.equal t A B).run P w = .ok (n1 && n2) w := fun A B hA hB => by
        cases hX : x'.ev env <;> rw [hX] at e1 hA <;> simp only [nilK, reduceCtorEq, Option.some.injEq, Prod.mk.injEq] at e1 <;> obtain ⟨rfl, rfl⟩ := e1 <;>
          cases hY : y'.ev env <;> rw [hY] at e2 hB <;> simp only [nilK, reduceCtorEq, Option.some.injEq, Prod.mk.injEq] at e2 <;> obtain ⟨q, rfl⟩ := e2 <;> subst hc2 <;> (try (simp at q; done)) <;> (try (simp at hc3; done)) <;>
          cases d <;> simp only [famOf, reduceCtorEq, Nat.succ_ne_zero, Nat.reduceEqDiff] at hd <;> cases hA <;> cases hB <;>
          first
            | exact eq_p1 t _ ht
            | exact eq_p2 t _ ht
            | exact eq_s1 t _ _ _ ht
            | exact eq_s2 t _ _ _ ht
            | exact eq_m1 t _ ht
            | exact eq_m2 t _ ht
            | exact eq_f0 t ht
            | exact eq_f1 t ht _ _ _
            | exact eq_f2 t ht _ _ _
            | exact eq_i0 t ht
            | exact eq_i1 t ht _ _
            | exact eq_i2 t ht _ _
      have key := key _ _ h1 h2
      have hb : ∀ (op : BinOp), op = .eql ∨ op = .neq → (binOp op t (a.eval x) (a.eval y)).run P w = .ok (.bool (if op = .neq then !(n1 && n2) else (n1 && n2))) w := fun op hop => by
        generalize a.eval x = A at h1 key ⊢
        generalize a.eval y = B at h2 key ⊢
        cases hX : x'.ev env <;> rw [hX] at e1 h1 <;> simp only [nilK, reduceCtorEq] at e1 <;> cases h1 <;> rcases hop with rfl | rfl <;> simp [binOp, key]
      subst hop
      cases neg
      · simp only [Bool.false_eq_true, if_false] at hg hb ⊢
        simp [execOp, hg, hb]
      · simp only [if_true] at hg hb ⊢
        simp [execOp, hg, hb]
    · simp at he
  · simp at he
end
end Go.Proofs.Yticpkoakbneefaa.Ab
namespace Go.Proofs.Yticpkoakbneefaa.Ab
open Go.RowKit
set_option linter.unusedVariables false
set_option linter.unusedSimpArgs false
section
variable {P : Program} {φ : Phi} {I : Nat → Prop} {σ : St} {w : World} {nt : Nat} {env : Env} {a : Act}
theorem quiet_un {o : Oper} {op : UnOp} {t : TypeId} {x : Operand} {x' : Opd} {v : V} (ho : o.op = .unOp op t x)
    (hf : EnvR φ I w nt env a) (hx : cOpd nt x = some x') {σ' : St} (he : evI env σ (.un op x') = some (v, σ')) : σ' = σ ∧ Quiet P φ I w a o v := by
  have h := cOpd_rel hf hx
  obtain ⟨dst, op', ty, pos, after, guard⟩ := o
  simp only at ho; subst ho
  simp only [evI] at he
  split at he <;> simp only [Option.some.injEq, Prod.mk.injEq, reduceCtorEq] at he
  · rename_i k n e; obtain ⟨rfl, rfl⟩ := he; rw [e] at h; exact ⟨rfl, .int k (k.wrap (0 - n)), by simp [execOp, h.int_inv, Op.unary, Op.intArith], .int _ _⟩
  · rename_i k n e; obtain ⟨rfl, rfl⟩ := he; rw [e] at h; exact ⟨rfl, .int k _, by simp [execOp, h.int_inv, Op.unary, Op.intBits], .int _ _⟩
  · rename_i b e; obtain ⟨rfl, rfl⟩ := he; rw [e] at h; exact ⟨rfl, .bool !b, by simp [execOp, h.bool_inv, Op.unary], .bool _⟩
theorem quiet_cvi {o : Oper} {s t : TypeId} {k ks : IntKind} {x : Operand} {x' : Opd} {v : V} (ho : o.op = .convert s t x) (hs : P.underlying s = some (.int ks)) (ht : P.underlying t = some (.int k))
    (hf : EnvR φ I w nt env a) (hx : cOpd nt x = some x') {σ' : St} (he : evI env σ (.cvi k x') = some (v, σ')) : σ' = σ ∧ Quiet P φ I w a o v := by
  have h := cOpd_rel hf hx
  obtain ⟨dst, op', ty, pos, after, guard⟩ := o
  simp only at ho; subst ho
  simp only [evI] at he
  split at he <;> simp only [Option.some.injEq, Prod.mk.injEq, reduceCtorEq] at he
  rename_i k' n e; obtain ⟨rfl, rfl⟩ := he; rw [e] at h
  exact ⟨rfl, .int k (k.wrap n), by simp [execOp, h.int_inv, convert, run_underlying hs, run_underlying ht, Conv.intToInt], .int _ _⟩
theorem quiet_cvs {o : Oper} {s t : TypeId} {x : Operand} {x' : Opd} {v : V} (ho : o.op = .convert s t x) (hs : P.underlying s = some .string) (ht : P.underlying t = some .string)
    (hf : EnvR φ I w nt env a) (hx : cOpd nt x = some x') {σ' : St} (he : evI env σ (.cvs x') = some (v, σ')) : σ' = σ ∧ Quiet P φ I w a o v := by
  have h := cOpd_rel hf hx
  obtain ⟨dst, op', ty, pos, after, guard⟩ := o
  simp only at ho; subst ho
  simp only [evI] at he
  split at he <;> simp only [Option.some.injEq, Prod.mk.injEq, reduceCtorEq] at he
  rename_i l e; obtain ⟨rfl, rfl⟩ := he; rw [e] at h
  obtain ⟨b, hb, hl⟩ := h.str_inv
  exact ⟨rfl, .string b, by simp [execOp, hb, convert, run_underlying hs, run_underlying ht], .str hl⟩
theorem quiet_mki {o : Oper} {t : TypeId} {d : TypeDesc} {x : Operand} {x' : Opd} {v : V} (ho : o.op = .makeInterface t x) (ht : P.underlying t = some d) (hd : ∀ ms, d ≠ .interface ms)
    (hf : EnvR φ I w nt env a) (hx : cOpd nt x = some x') {σ' : St} (he : evI env σ (.mki t x') = some (v, σ')) : σ' = σ ∧ Quiet P φ I w a o v := by
  have h := cOpd_rel hf hx
  obtain ⟨dst, op', ty, pos, after, guard⟩ := o
  simp only at ho; subst ho
  simp only [evI, Option.some.injEq, Prod.mk.injEq] at he
  obtain ⟨rfl, rfl⟩ := he
  refine ⟨rfl, .iface t (a.eval x), ?_, .iface _ h⟩
  cases d <;> first | exact absurd rfl (hd _) | simp [execOp, Instr.makeInterface, run_underlying ht]
theorem rels_map (hf : EnvR φ I w nt env a) {xs : Array Operand} {xs' : List Opd} (h : cOpds nt xs.toList = some xs') :
    (xs.map a.eval).size = (xs'.map (·.ev env)).length ∧ ∀ i v, (xs'.map (·.ev env))[i]? = some v → Rel φ I w v ((xs.map a.eval).getD i undef) := by
  obtain ⟨h1, h2⟩ := mapM_some h
  refine ⟨by simp [h1], fun i v hv => ?_⟩
  simp only [List.getElem?_map, Option.map_eq_some_iff] at hv
  obtain ⟨y, hy, rfl⟩ := hv
  obtain ⟨x, hx, hxy⟩ := h2 i y hy
  have hx : xs[i]? = some x := by simpa using hx
  have : (xs.map a.eval).getD i undef = a.eval x := by simp [hx]
  rw [this]
  exact cOpd_rel hf hxy
theorem quiet_mkf {o : Oper} {fn : Fn} {xs ys : Array Operand} {xs' ys' : List Opd} {v : V} (ho : o.op = .makeFunc fn xs ys)
    (hf : EnvR φ I w nt env a) (hx : cOpds nt xs.toList = some xs') (hy : cOpds nt ys.toList = some ys') {σ' : St} (he : evI env σ (.mkf fn xs' ys') = some (v, σ')) : σ' = σ ∧ Quiet P φ I w a o v := by
  obtain ⟨h1, h2⟩ := rels_map hf hx
  obtain ⟨h3, h4⟩ := rels_map hf hy
  obtain ⟨dst, op', ty, pos, after, guard⟩ := o
  simp only at ho; subst ho
  simp only [evI, Option.some.injEq, Prod.mk.injEq] at he
  obtain ⟨rfl, rfl⟩ := he
  exact ⟨rfl, .func fn (xs.map a.eval) (ys.map a.eval), by simp [execOp, Instr.makeFunc], .func _ h1 h2 h3 h4⟩
theorem quiet_fa {o : Oper} {s : TypeId} {x : Operand} {x' : Opd} {f : Nat} {d : Nat × TypeId × Nat} {v : V} (ho : o.op = .fieldAddr s x f) (hd : fieldD P s f = some d) (hn : d.2.2 ≠ 0)
    (hf : EnvR φ I w nt env a) (hx : cOpd nt x = some x') {σ' : St} (he : evI env σ (.fa d.1 x') = some (v, σ')) : σ' = σ ∧ Quiet P φ I w a o v := by
  have h := cOpd_rel hf hx
  obtain ⟨dst, op', ty, pos, after, guard⟩ := o
  simp only at ho; subst ho
  unfold fieldD at hd
  split at hd
  · rename_i fs hu
    simp only [Option.bind_eq_some_iff, Option.map_eq_some_iff] at hd
    obtain ⟨fd, hfd, n, hsz, rfl⟩ := hd
    have key : ∀ ad, a.eval x = .pointer (some ad) → (execOp a.eval ⟨dst, .fieldAddr s x f, ty, pos, after, guard⟩).run P w = .ok (.value (.pointer (some (ad.add fd.offset)))) w := fun ad hq => by
      have : (fieldPlace ad fd).run P w = .ok (ad.add fd.offset) w := by
        unfold fieldPlace
        rw [Sem.run_bind, run_sizeOf hsz]
        simp only at hn
        simp [hn]
      simp [execOp, Instr.fieldAt, run_underlying hu, hfd, hq, Instr.sureAddr, this]
    simp only [evI] at he
    split at he <;> simp only [Option.some.injEq, Prod.mk.injEq, reduceCtorEq] at he
    · rename_i l i j e
      obtain ⟨rfl, rfl⟩ := he
      rw [e] at h
      generalize hq : a.eval x = q at h
      cases h with
      | ptr i j hφ => exact ⟨rfl, _, key _ hq, by rw [Addr.add_lit, Nat.add_assoc]; exact .ptr i _ hφ⟩
    · rename_i l j e
      obtain ⟨rfl, rfl⟩ := he
      rw [e] at h
      generalize hq : a.eval x = q at h
      cases h with
      | iptr j hI hc ho hp hr => exact ⟨rfl, _, key _ hq, by rw [Addr.add_lit, Nat.add_assoc]; exact .iptr _ hI hc ho hp hr⟩
  · simp at hd
theorem run_part_agg {t : TypeId} {d : TypeDesc} {n : Nat} (hd : P.underlying t = some d) (hag : isAggD d = true) (hn : sizeD P t = some n) (cs : Array Value) (o : Nat) :
    (part t cs o).run P w = .ok (.agg (cs.extract o (o + n))) w := by
  simp [part, run_isAgg hd, hag, run_sizeOf hn]
theorem run_part_one {t : TypeId} {d : TypeDesc} (hd : P.underlying t = some d) (hag : isAggD d = false) (cs : Array Value) (o : Nat) (h : o < cs.size) :
    (part t cs o).run P w = .ok (cs.getD o undef) w := by
  simp [part, run_isAgg hd, hag, h]
theorem Rel.sub {vs : List V} {cs : Array Value} (h : cs.size = vs.length) (r : ∀ i v, vs[i]? = some v → Rel φ I w v (cs.getD i undef)) {o n : Nat} (hl : o + n ≤ vs.length) :
    Rel φ I w (.agg ((vs.drop o).take n)) (.agg (cs.extract o (o + n))) := by
  refine .agg (by simp; omega) (fun i v hv => ?_)
  have hi : i < n := by have := (List.getElem?_eq_some_iff.1 hv).1; simp at this; omega
  simp only [List.getElem?_take, hi, if_true, List.getElem?_drop] at hv
  have := r _ _ hv
  have hs : o + i < cs.size := by omega
  simp only [Array.getD_eq_getD_getElem?] at this ⊢
  rw [Array.getElem?_extract]
  simpa [show i < min (o + n) cs.size - o by omega] using this
theorem quiet_fld {o : Oper} {s : TypeId} {x : Operand} {x' : Opd} {f : Nat} {d : Nat × TypeId × Nat} {u : TypeDesc} {v : V} (ho : o.op = .field s x f) (hd : fieldD P s f = some d) (hu : P.underlying d.2.1 = some u)
    (hf : EnvR φ I w nt env a) (hx : cOpd nt x = some x') {σ' : St} (he : evI env σ (.fld (if isAggD u then some d.2.2 else none) d.1 x') = some (v, σ')) : σ' = σ ∧ Quiet P φ I w a o v := by
  have h := cOpd_rel hf hx
  obtain ⟨dst, op', ty, pos, after, guard⟩ := o
  simp only at ho; subst ho
  unfold fieldD at hd
  split at hd
  · rename_i fs hs
    simp only [Option.bind_eq_some_iff, Option.map_eq_some_iff] at hd
    obtain ⟨fd, hfd, n, hsz, rfl⟩ := hd
    simp only [evI] at he
    split at he <;> (try (simp only [reduceCtorEq] at he; done))
    rename_i vs e
    rw [e] at h
    generalize hq : a.eval x = q at h
    cases h with
    | agg hl hr =>
      rename_i cs
      split at he
      · rename_i hif
        simp only [Option.map_eq_some_iff, Prod.mk.injEq] at he
        obtain ⟨v', hv, rfl, rfl⟩ := he
        have hag : isAggD u = false := by cases hh : isAggD u <;> simp_all
        have hlt := (List.getElem?_eq_some_iff.1 hv).1
        have hp : (part fd.type cs fd.offset).run P w = .ok (cs.getD fd.offset undef) w := run_part_one hu hag cs _ (by omega)
        exact ⟨rfl, _, by simp only [execOp, Instr.field, hq, asAgg, Sem.run_bind, run_underlying hs, Result.andThen_ok, hfd, Sem.run_pure, hp], hr _ _ hv⟩
      · rename_i n' hif
        split at he
        · rename_i hle
          simp only [Option.some.injEq, Prod.mk.injEq] at he
          obtain ⟨rfl, rfl⟩ := he
          have hag : isAggD u = true := by cases hh : isAggD u <;> simp_all
          simp only [hag, if_true, Option.some.injEq] at hif
          subst hif
          have hp : (part fd.type cs fd.offset).run P w = .ok (.agg (cs.extract fd.offset (fd.offset + n))) w := run_part_agg hu hag hsz cs _
          exact ⟨rfl, _, by simp only [execOp, Instr.field, hq, asAgg, Sem.run_bind, run_underlying hs, Result.andThen_ok, hfd, Sem.run_pure, hp], Rel.sub hl hr hle⟩
        · simp at he
  · simp at hd
theorem quiet_ext {o : Oper} {x : Operand} {x' : Opd} {i : Nat} {v : V} (ho : o.op = .extract x i)
    (hf : EnvR φ I w nt env a) (hx : cOpd nt x = some x') {σ' : St} (he : evI env σ (.ext x' i) = some (v, σ')) : σ' = σ ∧ Quiet P φ I w a o v := by
  have h := cOpd_rel hf hx
  obtain ⟨dst, op', ty, pos, after, guard⟩ := o
  simp only at ho; subst ho
  simp only [evI] at he
  split at he <;> (try (simp only [reduceCtorEq] at he; done))
  rename_i vs e
  rw [e] at h
  simp only [Option.map_eq_some_iff, Prod.mk.injEq] at he
  obtain ⟨v', hv, rfl, rfl⟩ := he
  generalize hq : a.eval x = q at h
  cases h with
  | tup hl hr =>
    rename_i cs
    have hlt := (List.getElem?_eq_some_iff.1 hv).1
    have hlt' : i < cs.size := by omega
    have : cs[i]? = some (cs.getD i undef) := by rw [Array.getD_eq_getD_getElem?, getElem?_pos cs i hlt']; rfl
    exact ⟨rfl, _, by simp only [execOp, Instr.extract, hq, this, Sem.run_bind, Sem.run_pure, Result.andThen_ok], hr _ _ hv⟩
theorem quiet_slen {o : Oper} {c : Call} {x : Operand} {x' : Opd} {t : TypeId} {v : V} (ho : o.op = .call c) (hc : c.callee = .builtin .len) (ht : c.argTypes[0]? = some t) (ha : c.args.toList = [x]) (hu : P.underlying t = some .string)
    (hf : EnvR φ I w nt env a) (hx : cOpd nt x = some x') {σ' : St} (he : evI env σ (.slen x') = some (v, σ')) : σ' = σ ∧ Quiet P φ I w a o v := by
  have h := cOpd_rel hf hx
  obtain ⟨dst, op', ty, pos, after, guard⟩ := o
  simp only at ho; subst ho
  obtain ⟨cal, args, ts⟩ := c
  simp only at hc ht ha; subst hc
  obtain rfl : args = #[x] := by cases args; simp_all
  simp only [evI] at he
  split at he <;> simp only [Option.some.injEq, Prod.mk.injEq, reduceCtorEq] at he
  rename_i s e; obtain ⟨rfl, rfl⟩ := he; rw [e] at h
  obtain ⟨b, hb, rfl⟩ := h.str_inv
  refine ⟨rfl, .int .i64 b.size, ?_, .int _ _⟩
  simp [execOp, resolve, invoke, builtin, Builtin.len_, ht, hb, run_underlying hu, goInt]
theorem quiet_llen {o : Oper} {c : Call} {x : Operand} {x' : Opd} {t e : TypeId} {v : V} (ho : o.op = .call c) (hc : c.callee = .builtin .len) (ht : c.argTypes[0]? = some t) (ha : c.args.toList = [x]) (hu : P.underlying t = some (.slice e))
    (hf : EnvR φ I w nt env a) (hx : cOpd nt x = some x') {σ' : St} (he : evI env σ (.llen x') = some (v, σ')) : σ' = σ ∧ Quiet P φ I w a o v := by
  have h := cOpd_rel hf hx
  obtain ⟨dst, op', ty, pos, after, guard⟩ := o
  simp only at ho; subst ho
  obtain ⟨cal, args, ts⟩ := c
  simp only at hc ht ha; subst hc
  obtain rfl : args = #[x] := by cases args; simp_all
  simp only [evI] at he
  generalize hq : a.eval x = q at h
  split at he <;> simp only [Option.some.injEq, Prod.mk.injEq, reduceCtorEq] at he <;> obtain ⟨rfl, rfl⟩ := he <;> rename_i e <;> rw [e] at h <;> cases h <;>
    refine ⟨rfl, .int .i64 _, by simp [execOp, resolve, invoke, builtin, Builtin.len_, ht, hq, run_underlying hu, goInt], .int _ _⟩
theorem quiet_sx {o : Oper} {t : TypeId} {x y : Operand} {x' y' : Opd} {v : V} (ho : o.op = .index t x y) (hu : P.underlying t = some .string)
    (hf : EnvR φ I w nt env a) (hx : cOpd nt x = some x') (hy : cOpd nt y = some y') {σ' : St} (he : evI env σ (.sx x' y') = some (v, σ')) : σ' = σ ∧ Quiet P φ I w a o v := by
  have h1 := cOpd_rel hf hx
  have h2 := cOpd_rel hf hy
  obtain ⟨dst, op', ty, pos, after, guard⟩ := o
  simp only at ho; subst ho
  simp only [evI] at he
  split at he <;> (try (simp only [reduceCtorEq] at he; done))
  rename_i s k n e1 e2
  rw [e1] at h1; rw [e2] at h2
  obtain ⟨b, hb, rfl⟩ := h1.str_inv
  have h2 := h2.int_inv
  split at he
  · rename_i h0
    simp only [Option.map_eq_some_iff, Prod.mk.injEq] at he
    obtain ⟨u, hu', rfl, rfl⟩ := he
    have hg : b[n.toNat]? = some u := by
      obtain ⟨hlt, he⟩ := List.getElem?_eq_some_iff.1 hu'
      have hlt' : n.toNat < b.size := by simpa using hlt
      rw [getElem?_pos b n.toNat hlt']
      congr 1
    refine ⟨rfl, .int .u8 u.toNat, ?_, .int _ _⟩
    simp [execOp, Instr.index, hb, h2, asIntOf, run_underlying hu, h0, hg]
  · simp at he
end
end Go.Proofs.Yticpkoakbneefaa.Ab
namespace Go.Proofs.Yticpkoakbneefaa.Ab
open Go.RowKit
set_option linter.unusedVariables false
set_option linter.unusedSimpArgs false
section
variable {P : Program} {φ : Phi} {I : Nat → Prop} {σ : St} {w : World} {nt : Nat} {env : Env} {a : Act}
theorem cOpdO_bound (hf : EnvR φ I w nt env a) {x : Option Operand} {x' : Option Opd} (h : cOpdO nt x = some x') {d n : Nat} (hb : bound env d x' = some n) :
    (x = none ∧ n = d) ∨ (∃ y k, x = some y ∧ a.eval y = .int k n) := by
  cases x with
  | none =>
    simp only [cOpdO, Option.some.injEq] at h; subst h
    simp only [bound, Option.some.injEq] at hb
    exact .inl ⟨rfl, hb.symm⟩
  | some y =>
    simp only [cOpdO, Option.map_eq_some_iff] at h
    obtain ⟨y', hy, rfl⟩ := h
    have h := cOpd_rel hf hy
    simp only [bound] at hb
    split at hb
    · rename_i k m e
      rw [e] at h
      split at hb
      · rename_i h0
        simp only [Option.some.injEq] at hb
        refine .inr ⟨y, k, rfl, ?_⟩
        rw [h.int_inv]
        congr 1
        omega
      · simp at hb
    · simp at hb
theorem run_bound {k : IntKind} {n m : Nat} (h : n ≤ m) (code : BoundsCode) : (Instr.sliceBound (.int k n) m code).run P w = .ok n w := by
  have h1 : (0 : Int) ≤ n ∧ (n : Int) ≤ m := by omega
  simp [Instr.sliceBound, asIntOf, h1]
theorem run_bounds (hf : EnvR φ I w nt env a) {lo hi : Option Operand} {lo' hi' : Option Opd} (h1 : cOpdO nt lo = some lo') (h2 : cOpdO nt hi = some hi') {len cap l h : Nat} (hl : bound env 0 lo' = some l)
    (hh : bound env len hi' = some h) (hlh : l ≤ h) (hhc : h ≤ cap) (isS : Bool) : (Instr.sliceBounds isS len cap (lo.map a.eval) (hi.map a.eval) none).run P w = .ok (l, h, cap) w := by
  rcases cOpdO_bound hf h1 hl with ⟨rfl, rfl⟩ | ⟨x, k, rfl, hx⟩ <;> rcases cOpdO_bound hf h2 hh with ⟨rfl, rfl⟩ | ⟨y, k', rfl, hy⟩
  · simp [Instr.sliceBounds]
  · simp [Instr.sliceBounds, hy, run_bound hhc]
  · simp [Instr.sliceBounds, hx, run_bound hlh]
  · simp [Instr.sliceBounds, hx, hy, run_bound hlh, run_bound hhc]
theorem extract_list (s : ByteArray) (l h : Nat) : (s.extract l h).data.toList = (s.data.toList.take h).drop l := by
  rw [ByteArray.data_extract, Array.toList_extract, List.extract_eq_take_drop, List.drop_take]
theorem quiet_ssl {o : Oper} {t : TypeId} {x : Operand} {x' : Opd} {lo hi : Option Operand} {lo' hi' : Option Opd} {v : V} (ho : o.op = .slice t x lo hi none) (hu : P.underlying t = some .string)
    (hf : EnvR φ I w nt env a) (hx : cOpd nt x = some x') (h1 : cOpdO nt lo = some lo') (h2 : cOpdO nt hi = some hi') {σ' : St} (he : evI env σ (.ssl x' lo' hi') = some (v, σ')) : σ' = σ ∧ Quiet P φ I w a o v := by
  have h := cOpd_rel hf hx
  obtain ⟨dst, op', ty, pos, after, guard⟩ := o
  simp only at ho; subst ho
  simp only [evI] at he
  split at he <;> (try (simp only [reduceCtorEq] at he; done))
  rename_i s e
  rw [e] at h
  obtain ⟨b, hb, rfl⟩ := h.str_inv
  simp only [Option.bind_eq_some_iff] at he
  obtain ⟨hn, hh, l, hl, he⟩ := he
  split at he
  · rename_i hle
    simp only [Option.some.injEq, Prod.mk.injEq] at he
    obtain ⟨rfl, rfl⟩ := he
    have hsz : b.data.toList.length = b.size := by simp
    rw [hsz] at hh hle
    have hr := run_bounds (P := P) hf h1 h2 hl hh hle.1 hle.2 false
    refine ⟨rfl, .string (b.extract l hn), ?_, .str (extract_list b l hn)⟩
    simp [execOp, Instr.sliceAt, Instr.slice, run_underlying hu, hb, hr]
  · simp at he
theorem quiet_lsl {o : Oper} {t ty' : TypeId} {z : Nat} {x : Operand} {x' : Opd} {lo hi : Option Operand} {lo' hi' : Option Opd} {v : V} (ho : o.op = .slice t x lo hi none) (hu : P.underlying t = some (.slice ty')) (hz : sizeD P ty' = some z) (hzp : 0 < z)
    (hs : Sim φ I σ w) (hf : EnvR φ I w nt env a) (hx : cOpd nt x = some x') (h1 : cOpdO nt lo = some lo') (h2 : cOpdO nt hi = some hi') {σ' : St} (he : evI env σ (.lsl z x' lo' hi') = some (v, σ')) : σ' = σ ∧ Quiet P φ I w a o v := by
  have h := cOpd_rel hf hx
  obtain ⟨dst, op', ty, pos, after, guard⟩ := o
  simp only at ho; subst ho
  have key : ∀ (p : Option Addr) (len cap l hn : Nat), a.eval x = .slice p len cap → bound env 0 lo' = some l → bound env len hi' = some hn → l ≤ hn → hn ≤ cap →
      (execOp a.eval ⟨dst, .slice t x lo hi none, ty, pos, after, guard⟩).run P w = .ok (.value (.slice (if cap = l then p else p.map (·.add (l * z))) (hn - l) (cap - l))) w := fun p len cap l hn hq hl hh hlh hhc => by
    have hr := run_bounds (P := P) hf h1 h2 hl hh hlh hhc true
    simp [execOp, Instr.sliceAt, Instr.slice, run_underlying hu, hq, hr, run_sizeOf hz]
  simp only [evI] at he
  split at he
  · rename_i e
    rw [e] at h
    simp only [Option.bind_eq_some_iff] at he
    obtain ⟨hn, hh, l, hl, he⟩ := he
    split at he
    · rename_i hc
      obtain ⟨rfl, rfl⟩ := hc
      simp only [Option.some.injEq, Prod.mk.injEq] at he
      obtain ⟨rfl, rfl⟩ := he
      generalize hq : a.eval x = q at h
      cases h
      exact ⟨rfl, _, key _ _ _ _ _ hq hl hh (Nat.le_refl _) (Nat.le_refl _), .nils⟩
    · simp at he
  · rename_i z' es e
    rw [e] at h
    simp only [Option.bind_eq_some_iff] at he
    obtain ⟨hn, hh, l, hl, he⟩ := he
    split at he
    · rename_i hc
      obtain ⟨rfl, hlh, hhl⟩ := hc
      simp only [Option.some.injEq, Prod.mk.injEq] at he
      obtain ⟨rfl, rfl⟩ := he
      generalize hq : a.eval x = q at h
      cases h with
      | islc hcap ha hzz hc ho hp hr =>
        rename_i b o' cap ad cs
        have hlen : ((es.take hn).drop l).length = hn - l := by simp; omega
        refine ⟨rfl, _, key _ _ _ _ _ hq hl hh hlh (by omega), ?_⟩
        rw [← hlen]
        have hrel : ∀ ad', (((es.take hn).drop l) ≠ [] → ad' = ⟨b, o' + l * z', none⟩ ∧ I b) → Rel φ I w (.islc z' ((es.take hn).drop l)) (.slice (some ad') ((es.take hn).drop l).length (cap - l)) := fun ad' hne =>
          .islc (b := b) (o := o' + l * z') (cs := fun i j => cs (l + i) j) (by omega) hne (fun e' he' => hzz e' (List.mem_of_mem_take (List.mem_of_mem_drop he')))
            (fun i j hi hj => by rw [show o' + l * z' + i * z' + j = o' + (l + i) * z' + j by rw [Nat.add_mul]; omega]; exact hc (l + i) j (by omega) hj)
            (fun i j hi hj => ho (l + i) j (by omega) hj)
            (List.all_eq_true.2 fun e' he' => List.all_eq_true.1 hp e' (List.mem_of_mem_take (List.mem_of_mem_drop he')))
            (fun i j e' u h1 h2 => by
              simp only [List.getElem?_drop, List.getElem?_take] at h1
              split at h1
              · exact hr _ _ _ _ h1 h2
              · simp at h1)
        have hI : ((es.take hn).drop l) ≠ [] → es ≠ [] := fun hne e0 => hne (by simp [e0])
        by_cases hcl : cap = l
        · rw [if_pos hcl]
          refine hrel _ (fun hne => absurd (show (es.take hn).drop l = [] from List.length_eq_zero_iff.1 (by omega)) hne)
        · rw [if_neg hcl]
          refine hrel _ (fun hne => ?_)
          obtain ⟨rfl, hI'⟩ := ha (hI hne)
          exact ⟨Addr.add_lit _ _ _, hI'⟩
    · simp at he
  · rename_i p off len e
    rw [e] at h
    simp only [Option.bind_eq_some_iff] at he
    obtain ⟨hn, hh, l, hl, he⟩ := he
    split at he
    · rename_i z' es hH
      split at he
      · rename_i hc
        obtain ⟨rfl, hlh, hhl⟩ := hc
        simp only [Option.some.injEq, Prod.mk.injEq] at he
        obtain ⟨rfl, rfl⟩ := he
        generalize hq : a.eval x = q at h
        cases h with
        | slc hφ hlc hN ha =>
          rename_i b base z cap ad
          obtain ⟨b', base', arr, t', fz, e1, hhp, hfz, hpos, hzz, hsz, _, hr⟩ := hs.row hH
          rw [hφ] at e1
          simp only [Option.some.injEq, Prod.mk.injEq] at e1
          obtain ⟨rfl, rfl, rfl⟩ := e1
          have hcell : cellsOf w b = arr.size := by simp [cellsOf, hhp]
          have hcap : off + hn ≤ off + cap := by
            have h5 : es.length * z ≤ (off + cap) * z := by omega
            have h6 := Nat.le_of_mul_le_mul_right h5 hpos
            omega
          refine ⟨rfl, _, key _ _ _ _ _ hq hl hh hlh (by omega), ?_⟩
          have hN' : base + (off + l + (cap - l)) * z = cellsOf w b := by rw [← hN]; congr 2; omega
          by_cases hcl : cap = l
          · rw [if_pos hcl]
            exact .slc hφ (by omega) hN' (fun hne => absurd (by omega) hne)
          · rw [if_neg hcl]
            refine .slc hφ (by omega) hN' (fun hne => ?_)
            rw [ha (by omega)]
            show Addr.add _ _ = _
            rw [Addr.add_lit, Nat.add_mul, Nat.add_assoc]
      · simp at he
    · simp at he
  · simp at he
theorem quiet_ia {o : Oper} {t ty' : TypeId} {z : Nat} {x y : Operand} {x' y' : Opd} {v : V} (ho : o.op = .indexAddr t x y) (hu : P.underlying t = some (.slice ty')) (hz : sizeD P ty' = some z)
    (hs : Sim φ I σ w) (hf : EnvR φ I w nt env a) (hx : cOpd nt x = some x') (hy : cOpd nt y = some y') {σ' : St} (he : evI env σ (.ia z x' y') = some (v, σ')) : σ' = σ ∧ Quiet P φ I w a o v := by
  have h1 := cOpd_rel hf hx
  have h2 := cOpd_rel hf hy
  obtain ⟨dst, op', ty, pos, after, guard⟩ := o
  simp only at ho; subst ho
  simp only [evI] at he
  split at he <;> (try (simp only [reduceCtorEq] at he; done))
  rename_i kk k e2
  rw [e2] at h2
  have h2 := h2.int_inv
  split at he <;> (try (simp only [reduceCtorEq] at he; done))
  rename_i h0
  have key : ∀ (ad : Addr) (len cap : Nat), a.eval x = .slice (some ad) len cap → k.toNat < len → (execOp a.eval ⟨dst, .indexAddr t x y, ty, pos, after, guard⟩).run P w = .ok (.value (.pointer (some (ad.add (k.toNat * z))))) w := fun ad len cap hq hlt => by
    have hk : 0 ≤ k ∧ k < (len : Int) := by omega
    simp [execOp, Instr.indexAt, h2, asIntOf, run_underlying hu, hq, hk, run_sizeOf hz]
  split at he
  · rename_i z' es e1
    rw [e1] at h1
    split at he
    · rename_i hz'; subst hz'
      simp only [Option.map_eq_some_iff, Prod.mk.injEq] at he
      obtain ⟨e, hi, rfl, rfl⟩ := he
      generalize hq : a.eval x = q at h1
      cases h1 with
      | islc hcap ha hzz hc ho hp hr =>
        rename_i b o' cap ad cs
        have hlt := (List.getElem?_eq_some_iff.1 hi).1
        obtain ⟨rfl, hI⟩ := ha (fun e0 => by simp [e0] at hlt)
        refine ⟨rfl, _, key _ _ _ hq hlt, ?_⟩
        rw [Addr.add_lit]
        have hel := hzz e (List.mem_of_getElem? hi)
        exact .iptr (o := o' + k.toNat * z') (cs := cs k.toNat) 0 hI (fun j hj => hc _ _ hlt (by omega)) (fun j hj => ho _ _ hlt (by omega)) (List.all_eq_true.1 hp e (List.mem_of_getElem? hi)) (fun j u hu => hr _ _ _ _ hi hu)
    · simp at he
  · rename_i l off len e1
    rw [e1] at h1
    split at he
    · rename_i z' es hH
      split at he
      · rename_i hc
        obtain ⟨rfl, hlt⟩ := hc
        simp only [Option.some.injEq, Prod.mk.injEq] at he
        obtain ⟨rfl, rfl⟩ := he
        generalize hq : a.eval x = q at h1
        cases h1 with
        | slc hφ hlc hN ha =>
          rename_i b base z cap ad
          obtain ⟨b', base', arr, t', fz, e1, hhp, hfz, hpos, hzz, hsz, _, hr⟩ := hs.row hH
          rw [hφ] at e1
          simp only [Option.some.injEq, Prod.mk.injEq] at e1
          obtain ⟨rfl, rfl, rfl⟩ := e1
          refine ⟨rfl, _, key _ _ _ hq hlt, ?_⟩
          rw [ha (by omega), Addr.add_lit, show base + off * z + k.toNat * z = base + (off + k.toNat) * z + 0 by rw [Nat.add_mul]; omega]
          exact .ptr _ _ hφ
      · simp at he
    · simp at he
  · simp at he
theorem quiet_aa {o : Oper} {t ty' : TypeId} {n z : Nat} {x y : Operand} {x' y' : Opd} {v : V} (ho : o.op = .indexAddr t x y) (hu : P.underlying t = some (.array n ty')) (hz : sizeD P ty' = some z)
    (hf : EnvR φ I w nt env a) (hx : cOpd nt x = some x') (hy : cOpd nt y = some y') {σ' : St} (he : evI env σ (.aa n z x' y') = some (v, σ')) : σ' = σ ∧ Quiet P φ I w a o v := by
  have h1 := cOpd_rel hf hx
  have h2 := cOpd_rel hf hy
  obtain ⟨dst, op', ty, pos, after, guard⟩ := o
  simp only at ho; subst ho
  simp only [evI] at he
  split at he <;> (try (simp only [reduceCtorEq] at he; done))
  rename_i kk k e2
  rw [e2] at h2
  have h2 := h2.int_inv
  split at he <;> (try (simp only [reduceCtorEq] at he; done))
  rename_i h0
  have key : ∀ (ad : Addr), a.eval x = .pointer (some ad) → (execOp a.eval ⟨dst, .indexAddr t x y, ty, pos, after, guard⟩).run P w = .ok (.value (.pointer (some (ad.add (k.toNat * z))))) w := fun ad hq => by
    simp [execOp, Instr.indexAt, h2, asIntOf, run_underlying hu, hq, h0, run_sizeOf hz, Instr.sureAddr]
  split at he <;> simp only [Option.some.injEq, Prod.mk.injEq, reduceCtorEq] at he <;> obtain ⟨rfl, rfl⟩ := he <;> rename_i e1 <;> rw [e1] at h1 <;> generalize hq : a.eval x = q at h1
  · cases h1 with
    | ptr i j hφ => exact ⟨rfl, _, key _ hq, by rw [Addr.add_lit, Nat.add_assoc]; exact .ptr _ _ hφ⟩
  · cases h1 with
    | iptr j hI hc ho hp hr => exact ⟨rfl, _, key _ hq, by rw [Addr.add_lit, Nat.add_assoc]; exact .iptr _ hI hc ho hp hr⟩
theorem quiet_tas {o : Oper} {t s : TypeId} {d : TypeDesc} {ok : Bool} {z : V} {x : Operand} {x' : Opd} {v : V} (ho : o.op = .typeAssert x s t ok) (hu : P.underlying t = some d) (hd : ∀ ms, d ≠ .interface ms) (hz : zeroV P t = some z)
    (hf : EnvR φ I w nt env a) (hx : cOpd nt x = some x') {σ' : St} (he : evI env σ (.tas t z ok x') = some (v, σ')) : σ' = σ ∧ Quiet P φ I w a o v := by
  have h := cOpd_rel hf hx
  obtain ⟨dst, op', ty, pos, after, guard⟩ := o
  simp only at ho; subst ho
  have hzr : ∃ c, (zeroValue t).run P w = .ok c w ∧ Rel φ I w z c := by
    simp only [zeroV, Option.bind_eq_some_iff] at hz
    obtain ⟨i, hi, c, hc, hv⟩ := hz
    exact ⟨c, by simp [zeroValue, typeInfo, hi, hc], toV_rel _ _ _ hv⟩
  obtain ⟨zc, hzc, hzr⟩ := hzr
  have tup2 : ∀ (v : V) (c : Value) (b : Bool), Rel φ I w v c → Rel φ I w (.tup [v, .bool b]) (.tuple #[c, .bool b]) := fun v c b hr =>
    .tup rfl (fun i u hu => by
      match i with
      | 0 => simp at hu; subst hu; exact hr
      | 1 => simp at hu; subst hu; exact .bool _
      | i + 2 => simp at hu)
  have hu' : ∀ {α : Type} (f : TypeDesc → Sem α), (underlying t >>= f).run P w = (f d).run P w := fun f => by rw [Sem.run_bind, run_underlying hu]; rfl
  simp only [evI] at he
  split at he
  · rename_i t' v' e
    rw [e] at h
    generalize hq : a.eval x = q at h
    cases h with
    | iface _ hr =>
      rename_i c
      split at he
      · rename_i htt; subst htt
        simp only [Option.some.injEq, Prod.mk.injEq] at he
        obtain ⟨rfl, rfl⟩ := he
        cases ok
        · refine ⟨rfl, c, ?_, by simpa using hr⟩
          simp only [execOp, Instr.typeAssert, hq, Sem.run_bind, run_underlying hu, Result.andThen_ok]
          cases d <;> first | exact absurd rfl (hd _) | simp
        · refine ⟨rfl, .tuple #[c, .bool true], ?_, by simpa using tup2 _ _ _ hr⟩
          simp only [execOp, Instr.typeAssert, hq, Sem.run_bind, run_underlying hu, Result.andThen_ok]
          cases d <;> first | exact absurd rfl (hd _) | simp
      · rename_i htt
        split at he
        · rename_i hok
          simp only [Option.some.injEq, Prod.mk.injEq] at he
          obtain ⟨rfl, rfl⟩ := he
          refine ⟨rfl, .tuple #[zc, .bool false], ?_, tup2 _ _ _ hzr⟩
          simp only [execOp, Instr.typeAssert, hq, Sem.run_bind, run_underlying hu, Result.andThen_ok]
          cases d <;> first | exact absurd rfl (hd _) | simp [htt, hok, hzc]
        · simp at he
  · rename_i e
    rw [e] at h
    generalize hq : a.eval x = q at h
    cases h
    split at he
    · rename_i hok
      simp only [Option.some.injEq, Prod.mk.injEq] at he
      obtain ⟨rfl, rfl⟩ := he
      refine ⟨rfl, .tuple #[zc, .bool false], ?_, tup2 _ _ _ hzr⟩
      simp only [execOp, Instr.typeAssert, hq, Sem.run_bind, run_underlying hu, Result.andThen_ok]
      cases d <;> first | exact absurd rfl (hd _) | simp [hok, hzc]
    · simp at he
  · simp at he
end
end Go.Proofs.Yticpkoakbneefaa.Ab
namespace Go.Proofs.Yticpkoakbneefaa.Ab
open Go.RowKit
set_option linter.unusedVariables false
set_option linter.unusedSimpArgs false
section
variable {P : Program} {φ : Phi} {I : Nat → Prop} {σ : St} {w : World} {nt : Nat} {env : Env} {a : Act}
theorem mm_run (isMax : Bool) {x y : V} {X Y : Value} (hx : Rel φ I w x X) (hy : Rel φ I w y Y) {r : V} (h : mmV isMax x y = some r) :
    ∃ R, ((if isMax then Builtin.max2 X Y else Builtin.min2 X Y)).run P w = .ok R w ∧ Rel φ I w r R := by
  unfold mmV at h
  split at h
  · rename_i k a k' b
    have hx := hx.int_inv
    have hy := hy.int_inv
    subst hx; subst hy
    split at h
    · rename_i hk; subst hk
      simp only [Option.some.injEq] at h
      subst h
      cases isMax
      · exact ⟨.int k (if b < a then b else a), by simp [Builtin.min2], by simpa using Rel.int _ _⟩
      · exact ⟨.int k (if b > a then b else a), by simp [Builtin.max2], by simpa using Rel.int _ _⟩
    · simp at h
  · simp at h
theorem mm_list (isMax : Bool) : ∀ (ys : List V) (Ys : List Value) (x : V) (X : Value), Rel φ I w x X → ys.length = Ys.length → (∀ i v, ys[i]? = some v → Rel φ I w v (Ys.getD i undef)) → ∀ r, mmL isMax x ys = some r →
    ∃ R, (Ys.foldlM (if isMax then Builtin.max2 else Builtin.min2) X).run P w = .ok R w ∧ Rel φ I w r R
  | [], [], x, X, hx, _, _, r, h => by simp only [mmL, Option.some.injEq] at h; subst h; exact ⟨X, by simp, hx⟩
  | y :: ys, Y :: Ys, x, X, hx, hl, hr, r, h => by
    simp only [mmL, Option.bind_eq_some_iff] at h
    obtain ⟨m, hm, h⟩ := h
    obtain ⟨M, hM, hrM⟩ := mm_run (P := P) isMax hx (by simpa using hr 0 y rfl) hm
    obtain ⟨R, hR, hrR⟩ := mm_list isMax ys Ys m M hrM (by simpa using hl) (fun i v hv => by simpa using hr (i + 1) v (by simpa using hv)) r h
    refine ⟨R, ?_, hrR⟩
    rw [List.foldlM_cons, Sem.run_bind]
    cases isMax <;> simp_all
theorem quiet_mm {o : Oper} {c : Call} {isMax : Bool} {xs' : List Opd} {v : V} (ho : o.op = .call c) (hc : c.callee = .builtin (if isMax then .max else .min)) (ha : cOpds nt c.args.toList = some xs')
    (hf : EnvR φ I w nt env a) {σ' : St} (he : evI env σ (.mm isMax xs') = some (v, σ')) : σ' = σ ∧ Quiet P φ I w a o v := by
  obtain ⟨dst, op', ty, pos, after, guard⟩ := o
  simp only at ho; subst ho
  obtain ⟨cal, args, ts⟩ := c
  simp only at hc ha; subst hc
  obtain ⟨h1, h2⟩ := rels_map hf ha
  simp only [evI] at he
  split at he
  · rename_i v0 vs hxs
    simp only [Option.map_eq_some_iff, Prod.mk.injEq] at he
    obtain ⟨r, hr, rfl, rfl⟩ := he
    rw [hxs] at h1 h2
    obtain ⟨X, Xs, hX⟩ : ∃ X Xs, (args.map a.eval).toList = X :: Xs := by
      cases h : (args.map a.eval).toList with
      | nil =>
        have h3 : (args.map a.eval).size = 0 := by rw [← Array.length_toList, h]; rfl
        rw [h1] at h3
        simp at h3
      | cons X Xs => exact ⟨X, Xs, rfl⟩
    have hg : ∀ i, (args.map a.eval).getD i undef = (X :: Xs).getD i undef := fun i => by rw [← hX]; simp
    have hlen : vs.length = Xs.length := by
      have h3 : (X :: Xs).length = (args.map a.eval).size := by rw [← hX, Array.length_toList]
      rw [h1] at h3
      simpa using h3.symm
    obtain ⟨R, hR, hrR⟩ := mm_list (P := P) (φ := φ) (I := I) (w := w) isMax vs Xs v0 X (by have := h2 0 v0 rfl; rw [hg] at this; simpa using this)
      hlen (fun i u hu => by have := h2 (i + 1) u (by simpa using hu); rw [hg] at this; simpa using this) r hr
    refine ⟨rfl, R, ?_, hrR⟩
    cases isMax
    · simp only [Bool.false_eq_true, if_false] at hR ⊢
      simp only [execOp, resolve, Sem.run_bind, Sem.run_pure, Result.andThen_ok, invoke, builtin, Builtin.min_, hX, hR]
    · simp only [if_true] at hR ⊢
      simp only [execOp, resolve, Sem.run_bind, Sem.run_pure, Result.andThen_ok, invoke, builtin, Builtin.max_, hX, hR]
  · simp at he
/-! Structs, compared. -/
abbrev RelA (φ : Phi) (I : Nat → Prop) (w : World) (vs : List V) (cs : Array Value) : Prop := cs.size = vs.length ∧ ∀ i v, vs[i]? = some v → Rel φ I w v (cs.getD i undef)
theorem eqCells_split : ∀ (k1 k2 : List CK) (x y : List V) (r : Bool), eqCells (k1 ++ k2) x y = some r →
    ∃ r1 r2, eqCells k1 (x.take k1.length) (y.take k1.length) = some r1 ∧ eqCells k2 (x.drop k1.length) (y.drop k1.length) = some r2 ∧ r = (r1 && r2)
  | [], k2, x, y, r, h => ⟨true, r, by simp [eqCells], by simpa using h, by simp⟩
  | k :: k1, k2, x, y, r, h => by
    rw [List.cons_append] at h
    unfold eqCells at h
    split at h
    · rename_i e; simp at e
    · rename_i ks k a xs k' b ys e
      simp only [List.cons.injEq] at e; obtain ⟨rfl, rfl⟩ := e
      split at h
      · rename_i hk
        simp only [Option.map_eq_some_iff] at h
        obtain ⟨r', h', rfl⟩ := h
        obtain ⟨r1, r2, e1, e2, rfl⟩ := eqCells_split k1 k2 xs ys r' h'
        exact ⟨decide (a = b) && r1, r2, by simp [eqCells, hk, e1], by simpa using e2, by simp [Bool.and_assoc]⟩
      · simp at h
    · rename_i ks a xs b ys e
      simp only [List.cons.injEq] at e; obtain ⟨rfl, rfl⟩ := e
      simp only [Option.map_eq_some_iff] at h
      obtain ⟨r', h', rfl⟩ := h
      obtain ⟨r1, r2, e1, e2, rfl⟩ := eqCells_split k1 k2 xs ys r' h'
      exact ⟨decide (a = b) && r1, r2, by simp [eqCells, e1], by simpa using e2, by simp [Bool.and_assoc]⟩
    · rename_i ks a xs b ys e
      simp only [List.cons.injEq] at e; obtain ⟨rfl, rfl⟩ := e
      simp only [Option.map_eq_some_iff] at h
      obtain ⟨r', h', rfl⟩ := h
      obtain ⟨r1, r2, e1, e2, rfl⟩ := eqCells_split k1 k2 xs ys r' h'
      exact ⟨decide (a = b) && r1, r2, by simp [eqCells, e1], by simpa using e2, by simp [Bool.and_assoc]⟩
    · simp at h
theorem eqCells_len : ∀ (ks : List CK) (x y : List V) (r : Bool), eqCells ks x y = some r → x.length = ks.length ∧ y.length = ks.length
  | [], x, y, r, h => by
    unfold eqCells at h
    split at h <;> simp_all
  | k :: ks, x, y, r, h => by
    unfold eqCells at h
    split at h
    · rename_i e; simp at e
    · rename_i ks' k a xs k' b ys e
      simp only [List.cons.injEq] at e; obtain ⟨rfl, rfl⟩ := e
      split at h
      · simp only [Option.map_eq_some_iff] at h
        obtain ⟨r', h', rfl⟩ := h
        have := eqCells_len ks xs ys r' h'
        simp [this]
      · simp at h
    · rename_i ks' a xs b ys e
      simp only [List.cons.injEq] at e; obtain ⟨rfl, rfl⟩ := e
      simp only [Option.map_eq_some_iff] at h
      obtain ⟨r', h', rfl⟩ := h
      have := eqCells_len ks xs ys r' h'
      simp [this]
    · rename_i ks' a xs b ys e
      simp only [List.cons.injEq] at e; obtain ⟨rfl, rfl⟩ := e
      simp only [Option.map_eq_some_iff] at h
      obtain ⟨r', h', rfl⟩ := h
      have := eqCells_len ks xs ys r' h'
      simp [this]
    · simp at h
/-- A value of a type, and its cells. -/
def IsVal (P : Program) (φ : Phi) (I : Nat → Prop) (w : World) (d : TypeDesc) (cx : List V) (X : Value) : Prop :=
  if isAggD d then ∃ xs, X = .agg xs ∧ RelA φ I w cx xs else ∃ v, cx = [v] ∧ Rel φ I w v X
theorem run_part_is {t : TypeId} {d : TypeDesc} {n : Nat} (hd : P.underlying t = some d) (hn : sizeD P t = some n) (hone : isAggD d = false → n = 1) {cx : List V} {xs : Array Value} (h : RelA φ I w cx xs) {o : Nat} (ho : o + n ≤ cx.length) :
    ∃ X, (part t xs o).run P w = .ok X w ∧ IsVal P φ I w d ((cx.drop o).take n) X := by
  cases hag : isAggD d with
  | true =>
    refine ⟨_, run_part_agg hd hag hn xs o, ?_⟩
    have := Rel.sub h.1 h.2 ho
    unfold IsVal
    rw [if_pos hag]
    cases this with
    | agg h1 h2 => exact ⟨_, rfl, h1, h2⟩
  | false =>
    obtain rfl := hone hag
    have hl : o < xs.size := by have := h.1; omega
    refine ⟨_, run_part_one hd hag xs o hl, ?_⟩
    unfold IsVal
    rw [if_neg (by simp [hag])]
    refine ⟨cx[o], ?_, h.2 o _ (List.getElem?_eq_getElem _)⟩
    rw [List.drop_eq_getElem_cons (by omega)]
    rfl
abbrev kfold (P : Program) (d : Nat) (o : Option (List CK)) (fs : List Field) : Option (List CK) :=
  fs.foldl (fun (o : Option (List CK)) f => o.bind fun acc => if f.name ≠ "_" ∧ f.offset = acc.length then (kinds P d f.type).map (acc ++ ·) else none) o
theorem kfold_none {d : Nat} : ∀ fs : List Field, kfold P d none fs = none
  | [] => rfl
  | f :: fs => by unfold kfold; rw [List.foldl_cons, Option.bind_none]; exact kfold_none fs
theorem kfold_cons {d : Nat} {f : Field} {fs : List Field} {acc ks : List CK} (h : kfold P d (some acc) (f :: fs) = some ks) :
    f.name ≠ "_" ∧ f.offset = acc.length ∧ ∃ k1, kinds P d f.type = some k1 ∧ kfold P d (some (acc ++ k1)) fs = some ks := by
  unfold kfold at h
  rw [List.foldl_cons, Option.bind_some] at h
  split at h
  · rename_i hc
    cases hk : kinds P d f.type with
    | none => rw [hk, Option.map_none] at h; have := kfold_none (P := P) (d := d) fs; unfold kfold at this; rw [this] at h; simp at h
    | some k1 => rw [hk, Option.map_some] at h; exact ⟨hc.1, hc.2, k1, by first | rfl | exact hk, h⟩
  · have := kfold_none (P := P) (d := d) fs; unfold kfold at this; rw [this] at h; simp at h
theorem kfold_prefix {d : Nat} : ∀ (fs : List Field) (acc ks : List CK), kfold P d (some acc) fs = some ks → ∃ r, ks = acc ++ r
  | [], acc, ks, h => ⟨[], by simp [kfold] at h; simp [h]⟩
  | f :: fs, acc, ks, h => by
    obtain ⟨_, _, k1, _, h⟩ := kfold_cons h
    obtain ⟨r, rfl⟩ := kfold_prefix fs _ _ h
    exact ⟨k1 ++ r, by simp⟩
theorem kinds_size {d : Nat} {t : TypeId} {ks : List CK} (h : kinds P d t = some ks) : ∃ u, P.underlying t = some u ∧ sizeD P t = some ks.length ∧ (isAggD u = false → ks.length = 1) := by
  cases d with
  | zero => simp [kinds] at h
  | succ d =>
    unfold kinds at h
    split at h
    · rename_i k hu; split at h <;> simp at h; subst h; exact ⟨_, hu, by assumption, fun _ => rfl⟩
    · rename_i hu; split at h <;> simp at h; subst h; exact ⟨_, hu, by assumption, fun _ => rfl⟩
    · rename_i hu; split at h <;> simp at h; subst h; exact ⟨_, hu, by assumption, fun _ => rfl⟩
    · rename_i fs hu
      split at h
      · simp at h
      · simp only [Option.bind_eq_some_iff] at h
        obtain ⟨k, hk, h⟩ := h
        split at h <;> simp at h
        subst h
        exact ⟨_, hu, by assumption, fun e => by simp [isAggD] at e⟩
    · simp at h
theorem eq_in : ∀ (d D : Nat) (t : TypeId) (u : TypeDesc) (ks : List CK) (cx cy : List V) (X Y : Value), d ≤ D → kinds P d t = some ks → P.underlying t = some u →
    IsVal P φ I w u cx X → IsVal P φ I w u cy Y → ∀ r, eqCells ks cx cy = some r → (Op.equalIn D t X Y).run P w = .ok r w := by
  intro d
  induction d with
  | zero => intro D t u n cx cy X Y _ h; simp [kinds] at h
  | succ d ih =>
    intro D t u ks cx cy X Y hD hk hu hX hY r hr
    obtain ⟨D, rfl⟩ : ∃ k, D = k + 1 := ⟨D - 1, by omega⟩
    unfold kinds at hk
    rw [hu] at hk
    unfold IsVal at hX hY
    cases u <;> simp only [reduceCtorEq] at hk
    case struct fs =>
      simp only [isAggD, if_true] at hX hY
      obtain ⟨xs, rfl, hX⟩ := hX
      obtain ⟨ys, rfl, hY⟩ := hY
      split at hk
      · simp at hk
      rename_i hheld
      simp only [Option.bind_eq_some_iff] at hk
      obtain ⟨ks', hk, hk'⟩ := hk
      split at hk' <;> simp at hk'
      subst hk'
      have hfs : P.fieldsOf t = fs := by simp [Program.fieldsOf, hu]
      rw [run_equalIn_struct w D t xs ys (by rw [hfs]; exact hu) (by simpa using hheld), hfs]
      have key : ∀ (l : List Field) (acc rest : List CK) (r : Bool), acc.length ≤ cx.length → acc.length ≤ cy.length → kfold P d (some acc) l = some (acc ++ rest) → eqCells rest (cx.drop acc.length) (cy.drop acc.length) = some r → (Op.eqFields D xs ys l).run P w = .ok r w := by
        intro l
        induction l with
        | nil =>
          intro acc rest r _ _ hf hr
          simp [kfold] at hf
          subst hf
          unfold eqCells at hr
          split at hr <;> simp_all
          subst hr
          rfl
        | cons f l ihl =>
          intro acc rest r hx0 hy0 hf hr
          obtain ⟨hnm, hoff, k1, hk1, hf'⟩ := kfold_cons hf
          obtain ⟨r2, hr2⟩ := kfold_prefix _ _ _ hf'
          rw [List.append_assoc] at hr2
          have hr2 := List.append_cancel_left hr2
          subst hr2
          obtain ⟨r1, r2', e1, e2, rfl⟩ := eqCells_split k1 r2 _ _ _ hr
          rw [List.drop_drop, List.drop_drop] at e2
          obtain ⟨uf, huf, hsz, hone⟩ := kinds_size hk1
          have hlen := eqCells_len _ _ _ _ hr
          simp only [List.length_drop, List.length_append] at hlen
          have hle := hlen.1
          have hle2 := hlen.2
          have hl1 := eqCells_len _ _ _ _ e1
          simp only [List.length_take, List.length_drop] at hl1
          have hrest := ihl (acc ++ k1) r2 r2' (by simp only [List.length_append]; omega) (by simp only [List.length_append]; omega) (by rw [hf', List.append_assoc]) (by rw [List.length_append]; exact e2)
          obtain ⟨A, hA, hAv⟩ := run_part_is huf hsz hone hX (o := f.offset) (by omega)
          obtain ⟨B, hB, hBv⟩ := run_part_is huf hsz hone hY (o := f.offset) (by omega)
          rw [hoff] at hAv hBv
          have hq := ih D f.type uf k1 _ _ A B (by omega) hk1 huf hAv hBv r1 e1
          simp only [Op.eqFields, ne_eq, hnm, not_false_eq_true, if_true, Sem.run_bind, hA, hB, Result.andThen_ok, hq]
          cases r1
          · simp
          · simpa using hrest
      exact key fs.toList [] ks' r (by simp) (by simp) (by simpa using hk) (by simpa using hr)
    all_goals
      split at hk <;> simp at hk
      subst hk
      simp only [isAggD, Bool.false_eq_true, if_false] at hX hY
      obtain ⟨v1, rfl, h1⟩ := hX
      obtain ⟨v2, rfl, h2⟩ := hY
      unfold eqCells at hr
      split at hr <;> (try (simp_all; done))
      rename_i e0 e1 e2
      simp only [List.cons.injEq] at e0 e1 e2
      obtain ⟨_, rfl⟩ := e0
      obtain ⟨rfl, rfl⟩ := e1
      obtain ⟨rfl, rfl⟩ := e2
      simp only [eqCells] at hr
    case h_2 =>
      split at hr <;> simp at hr
      subst hr
      rename_i hkk; subst hkk
      rw [h1.int_inv, h2.int_inv, run_equalIn_int w D t _ _ _ _ hu, beqd]
    case h_3 =>
      simp at hr; subst hr
      obtain ⟨s1, rfl, rfl⟩ := h1.str_inv
      obtain ⟨s2, rfl, rfl⟩ := h2.str_inv
      rw [run_equalIn_string w D t _ _ hu, bytes_toList, bytes_toList, beqd]
    case h_4 =>
      simp at hr; subst hr
      rw [h1.bool_inv, h2.bool_inv, run_equalIn_bool' w D t _ _ hu, beqd]
theorem quiet_eqa {o : Oper} {op : BinOp} {neg : Bool} {t u : TypeId} {fs : Array Field} {ks : List CK} {x y : Operand} {x' y' : Opd} {v : V} (ho : o.op = .binOp op t x y u) (hop : op = if neg then .neq else .eql)
    (ht : P.underlying t = some (.struct fs)) (hk : kinds P 20 t = some ks) (hgt : P.eqGuardType P.depth t = false)
    (hf : EnvR φ I w nt env a) (hx : cOpd nt x = some x') (hy : cOpd nt y = some y') {σ' : St} (he : evI env σ (.eqa neg ks x' y') = some (v, σ')) : σ' = σ ∧ Quiet P φ I w a o v := by
  have h1 := cOpd_rel hf hx
  have h2 := cOpd_rel hf hy
  obtain ⟨dst, op', ty, pos, after, guard⟩ := o
  simp only at ho; subst ho
  simp only [evI] at he
  split at he
  · rename_i c1 c2 e1 e2
    rw [e1] at h1; rw [e2] at h2
    simp only [Option.map_eq_some_iff, Prod.mk.injEq] at he
    obtain ⟨r, hr, rfl, rfl⟩ := he
    generalize hq1 : a.eval x = q1 at h1
    generalize hq2 : a.eval y = q2 at h2
    cases h1 with
    | agg l1 r1 =>
      cases h2 with
      | agg l2 r2 =>
        rename_i xs ys
        have key : (Op.equal t (.agg xs) (.agg ys)).run P w = .ok r w :=
          eq_in 20 10000 t _ ks c1 c2 _ _ (by omega) hk ht (by simp only [IsVal, isAggD, if_true]; exact ⟨_, rfl, l1, r1⟩) (by simp only [IsVal, isAggD, if_true]; exact ⟨_, rfl, l2, r2⟩) r hr
        refine ⟨rfl, .bool (if neg then !r else r), ?_, .bool _⟩
        subst hop
        cases neg
        · simp [execOp, hq1, hq2, eqGuard, hgt, binOp, key]
        · simp [execOp, hq1, hq2, eqGuard, hgt, binOp, key]
  · simp at he
theorem cont_cells (hs : Sim φ I σ w) {z : Nat} {v : V} {c : Value} (h : Rel φ I w v c) {es : List (List V)} (he : cont σ z v = some es) :
    (c = .slice none 0 0 ∧ es = []) ∨ ∃ ad cap, c = .slice (some ad) es.length cap ∧ es.length ≤ cap ∧ (∀ e ∈ es, e.length = z) ∧
      ∀ i j e u, es[i]? = some e → e[j]? = some u → ∃ x, w.cell? (ad.add (i * z + j)) = some x ∧ x.oneCell' = true ∧ Rel φ I w u x := by
  unfold cont at he
  split at he
  · simp only [Option.some.injEq] at he; subst he; cases h; exact .inl ⟨rfl, rfl⟩
  · rename_i z1 es1
    split at he <;> simp at he
    rename_i hz; subst hz; subst he
    cases h with
    | islc hl ha hzz hc ho hp hr =>
      refine .inr ⟨_, _, rfl, hl, hzz, fun i j e u hi hj => ?_⟩
      have hlt := (List.getElem?_eq_some_iff.1 hi).1
      obtain ⟨rfl, _⟩ := ha (fun e0 => by simp [e0] at hlt)
      have hjl := (List.getElem?_eq_some_iff.1 hj).1
      rw [Addr.add_lit, ← Nat.add_assoc]
      have hjz : j < z1 := by rw [← hzz e (List.mem_of_getElem? hi)]; exact hjl
      exact ⟨_, hc i j hlt hjz, ho i j hlt hjz, hr _ _ _ _ hi hj⟩
  · rename_i l off len
    split at he
    · rename_i z' es' hH
      split at he <;> simp at he
      rename_i hc
      obtain ⟨rfl, hle⟩ := hc
      subst he
      cases h with
      | slc hφ hlc hN ha =>
        rename_i b base z cap ad
        obtain ⟨b', base', arr, t', fz, e1, hhp, hfz, hpos, hzz, hsz, ho, hr⟩ := hs.row hH
        rw [hφ] at e1
        simp only [Option.some.injEq, Prod.mk.injEq] at e1
        obtain ⟨rfl, rfl, rfl⟩ := e1
        have hlen : ((es'.drop off).take len).length = len := by simp; omega
        refine .inr ⟨ad, cap, by rw [hlen], by omega, fun e he => hzz e (List.mem_of_mem_drop (List.mem_of_mem_take he)), fun i j e u hi hj => ?_⟩
        have hi' : i < len := by have := (List.getElem?_eq_some_iff.1 hi).1; omega
        simp only [List.getElem?_take, hi', if_true, List.getElem?_drop] at hi
        obtain ⟨_, x, hx, hrx, _⟩ := hs.cell hH hi hj hφ
        rw [ha (by omega), Addr.add_lit]
        have hjl := (List.getElem?_eq_some_iff.1 hj).1
        have hel := hzz e (List.mem_of_getElem? hi)
        have hone := ho (off + i) j (by omega) (by omega)
        have hlt : base + (off + i) * z + j < arr.size := by have := mul_lt_of (z := z) (show off + i < es'.length by omega) (show j < z by omega); omega
        have hxa : arr.getD (base + (off + i) * z + j) undef = x := by
          simp [World.cell?, hhp, hlt] at hx
          simp [hlt, hx]
        rw [hxa] at hone
        refine ⟨x, ?_, hone, hrx⟩
        rw [← hx]
        congr 2
        rw [Nat.add_mul]; omega
    · simp at he
  · simp at he
theorem byteOf_rel : ∀ (es : List (List V)) (s : List UInt8), es.mapM byteOf = some s → es.length = s.length ∧ ∀ (i : Nat) (b : UInt8), s[i]? = some b → ∃ n : Int, es[i]? = some [V.int .u8 n] ∧ UInt8.ofNat n.toNat = b := fun es s h => by
  obtain ⟨h1, h2⟩ := mapM_some h
  refine ⟨h1.symm, fun i b hb => ?_⟩
  obtain ⟨e, he, hbe⟩ := h2 i b hb
  unfold byteOf at hbe
  split at hbe
  · split at hbe <;> simp at hbe
    exact ⟨_, he, hbe⟩
  · simp at hbe
theorem foldl_push : ∀ (ns : List Int) (r : ByteArray), (ns.foldl (fun r n => r.push (UInt8.ofNat n.toNat)) r).data.toList = r.data.toList ++ ns.map fun n => UInt8.ofNat n.toNat
  | [], r => by simp
  | n :: ns, r => by
    rw [List.foldl_cons, foldl_push ns]
    simp [ByteArray.push]
theorem quiet_b2s {o : Oper} {s t e : TypeId} {x : Operand} {x' : Opd} {v : V} (ho : o.op = .convert s t x) (hs : P.underlying s = some (.slice e)) (he8 : P.underlying e = some (.int .u8)) (ht : P.underlying t = some .string)
    (hS : Sim φ I σ w) (hf : EnvR φ I w nt env a) (hx : cOpd nt x = some x') {σ' : St} (he : evI env σ (.b2s x') = some (v, σ')) : σ' = σ ∧ Quiet P φ I w a o v := by
  have h := cOpd_rel hf hx
  obtain ⟨dst, op', ty, pos, after, guard⟩ := o
  simp only at ho; subst ho
  simp only [evI, Option.bind_eq_some_iff, Option.map_eq_some_iff, Prod.mk.injEq] at he
  obtain ⟨es, hc, l, hl, rfl, rfl⟩ := he
  refine ⟨rfl, ?_⟩
  obtain ⟨hlen, hby⟩ := byteOf_rel es l hl
  have hconv : ∀ c, a.eval x = c → (∃ ad n k, c = .slice ad n k) → (execOp a.eval ⟨dst, .convert s t x, ty, pos, after, guard⟩).run P w = ((Conv.bytesToString c).run P w).andThen fun v w => .ok (.value v) w := fun c hq hc => by
    obtain ⟨ad, n, k, rfl⟩ := hc
    simp only [execOp, hq, convert, Sem.run_bind, run_underlying hs, run_underlying ht, Result.andThen_ok, run_underlying he8]
    rfl
  rcases cont_cells hS h hc with ⟨hq, rfl⟩ | ⟨ad, cap, hq, hcap, hz, hcell⟩
  · refine ⟨.string .empty, ?_, .str ?_⟩
    · rw [hconv _ hq ⟨_, _, _, rfl⟩]; rfl
    · simp at hl; subst hl; rfl
  · let ns : List Int := (List.range es.length).map fun i => match es[i]? with | some [V.int .u8 n] => n | _ => 0
    have hns : ∀ (i : Nat), i < es.length → w.cell? (ad.add i) = some (.int .u8 (ns.getD i 0)) := fun i hi => by
      obtain ⟨b, hb⟩ : ∃ b, l[i]? = some b := ⟨l[i]'(by omega), List.getElem?_eq_getElem _⟩
      obtain ⟨n, hn, _⟩ := hby i b hb
      obtain ⟨y, hy, _, hr⟩ := hcell i 0 _ _ hn rfl
      have hy' := hr.int_inv
      subst hy'
      rw [Nat.mul_one, Nat.add_zero] at hy
      rw [hy]
      have hn' : es[i] = [V.int .u8 n] := (List.getElem?_eq_some_iff.1 hn).2
      simp [ns, hi, hn']
    have hload : (loadCells ad es.length).run P w = .ok (ns.map (Value.int .u8)).toArray w := by
      rw [loadCells_of (f := fun k => .int .u8 (ns.getD k 0)) hns]
      congr 2
      apply List.ext_getElem?
      intro i
      by_cases hi : i < es.length
      · simp [ns, hi]
      · simp [ns, hi]
    refine ⟨.string (ns.foldl (fun r n => r.push (UInt8.ofNat n.toNat)) ByteArray.empty), ?_, .str ?_⟩
    · rw [hconv _ hq ⟨_, _, _, rfl⟩, run_bytesToString w ad _ _ ns hload]; rfl
    · rw [foldl_push]
      simp only [ns, List.map_map, ByteArray.empty]
      apply List.ext_getElem?
      intro i
      by_cases hi : i < es.length
      · obtain ⟨b, hb⟩ : ∃ b, l[i]? = some b := ⟨l[i]'(by omega), List.getElem?_eq_getElem _⟩
        obtain ⟨n, hn, hnb⟩ := hby i b hb
        have hn' : es[i] = [V.int .u8 n] := (List.getElem?_eq_some_iff.1 hn).2
        simp [hi, hn', hb, hnb]
      · simp [hi]; omega
end
end Go.Proofs.Yticpkoakbneefaa.Ab
