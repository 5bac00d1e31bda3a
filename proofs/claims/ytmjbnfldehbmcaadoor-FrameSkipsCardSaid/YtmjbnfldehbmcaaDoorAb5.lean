/-
The walk over the program's texts, told with what its values say: a part of it. No further condition.
-/
import Derived.Test.YtmjbnfldehbmcaaDoorAb4
namespace Go.Proofs.YtmjbnfldehbmcaaDoor.Ab
open Go.RowKit
set_option linter.unusedVariables false
set_option linter.unusedSimpArgs false
section
variable {P : Program} {φ : Phi} {I : Nat → Prop} {σ : St} {w : World} {nt : Nat} {env : Env} {a : Act}
theorem eq_at (t : TypeId) (x y : Value) {d : TypeDesc} (h : P.underlying t = some d) {r : Bool} (hr : ∀ n, (Op.equalIn (n + 1) t x y).run P w = .ok r w) : (Op.equal t x y).run P w = .ok r w := hr 9999
theorem eq_bool (t : TypeId) (x y : Bool) (h : P.underlying t = some .bool) : (Op.equal t (.bool x) (.bool y)).run P w = .ok (x == y) w :=
  eq_at t _ _ h fun n => by rw [Op.equalIn, Sem.run_bind, run_underlying h]; rfl
theorem eq_p1 (t : TypeId) (b : Option Addr) {e : TypeId} (h : P.underlying t = some (.pointer e)) : (Op.equal t (.pointer none) (.pointer b)).run P w = .ok b.isNone w :=
  eq_at t _ _ h fun n => by rw [Op.equalIn, Sem.run_bind, run_underlying h]; rfl
theorem eq_p2 (t : TypeId) (b : Addr) {e : TypeId} (h : P.underlying t = some (.pointer e)) : (Op.equal t (.pointer (some b)) (.pointer none)).run P w = .ok false w :=
  eq_at t _ _ h fun n => by rw [Op.equalIn, Sem.run_bind, run_underlying h]; rfl
theorem eq_s1 (t : TypeId) (b : Option Addr) (l c : Nat) {e : TypeId} (h : P.underlying t = some (.slice e)) : (Op.equal t (.slice none 0 0) (.slice b l c)).run P w = .ok b.isNone w :=
  eq_at t _ _ h fun n => by rw [Op.equalIn, Sem.run_bind, run_underlying h]; rfl
theorem eq_s2 (t : TypeId) (b : Addr) (l c : Nat) {e : TypeId} (h : P.underlying t = some (.slice e)) : (Op.equal t (.slice (some b) l c) (.slice none 0 0)).run P w = .ok false w :=
  eq_at t _ _ h fun n => by rw [Op.equalIn, Sem.run_bind, run_underlying h]; rfl
theorem eq_m1 (t : TypeId) (b : Option Nat) {k e : TypeId} (h : P.underlying t = some (.map k e)) : (Op.equal t (.map none) (.map b)).run P w = .ok b.isNone w :=
  eq_at t _ _ h fun n => by rw [Op.equalIn, Sem.run_bind, run_underlying h]; rfl
theorem eq_m2 (t : TypeId) (b : Nat) {k e : TypeId} (h : P.underlying t = some (.map k e)) : (Op.equal t (.map (some b)) (.map none)).run P w = .ok false w :=
  eq_at t _ _ h fun n => by rw [Op.equalIn, Sem.run_bind, run_underlying h]; rfl
theorem eq_f0 (t : TypeId) {ps rs : Array TypeId} {va : Bool} (h : P.underlying t = some (.func ps rs va)) : (Op.equal t .nilFunc .nilFunc).run P w = .ok true w :=
  eq_at t _ _ h fun n => by rw [Op.equalIn, Sem.run_bind, run_underlying h]; rfl
theorem eq_f1 (t : TypeId) {ps rs : Array TypeId} {va : Bool} (h : P.underlying t = some (.func ps rs va)) (f : Fn) (x y : Array Value) : (Op.equal t .nilFunc (.func f x y)).run P w = .ok false w :=
  eq_at t _ _ h fun n => by rw [Op.equalIn, Sem.run_bind, run_underlying h]; rfl
theorem eq_f2 (t : TypeId) {ps rs : Array TypeId} {va : Bool} (h : P.underlying t = some (.func ps rs va)) (f : Fn) (x y : Array Value) : (Op.equal t (.func f x y) .nilFunc).run P w = .ok false w :=
  eq_at t _ _ h fun n => by rw [Op.equalIn, Sem.run_bind, run_underlying h]; rfl
theorem eq_i0 (t : TypeId) {ms : Array (String × TypeId)} (h : P.underlying t = some (.interface ms)) : (Op.equal t .nilIface .nilIface).run P w = .ok true w :=
  eq_at t _ _ h fun n => by rw [Op.equalIn, Sem.run_bind, run_underlying h]; rfl
theorem eq_i1 (t : TypeId) {ms : Array (String × TypeId)} (h : P.underlying t = some (.interface ms)) (u : TypeId) (v : Value) : (Op.equal t .nilIface (.iface u v)).run P w = .ok false w :=
  eq_at t _ _ h fun n => by rw [Op.equalIn, Sem.run_bind, run_underlying h]; rfl
theorem eq_i2 (t : TypeId) {ms : Array (String × TypeId)} (h : P.underlying t = some (.interface ms)) (u : TypeId) (v : Value) : (Op.equal t (.iface u v) .nilIface).run P w = .ok false w :=
  eq_at t _ _ h fun n => by rw [Op.equalIn, Sem.run_bind, run_underlying h]; rfl
/-- What the temporaries hold. -/
abbrev EnvR (φ : Phi) (I : Nat → Prop) (w : World) (nt : Nat) (env : Env) (a : Act) : Prop := ∀ t, t < nt → Rel φ I w (env t) (a.tmps.getD t undef)
theorem quiet_beq {o : Oper} {op : BinOp} {neg : Bool} {t u : TypeId} {x y : Operand} {x' y' : Opd} {v : V} (ho : o.op = .binOp op t x y u) (hop : op = if neg then .neq else .eql) (ht : P.underlying t = some .bool)
    (hf : EnvR φ I w nt env a) (hx : cOpd nt x = some x') (hy : cOpd nt y = some y') {σ' : St} (he : evI env σ (.beq neg x' y') = some (v, σ')) : σ' = σ ∧ Quiet P φ I w a o v := by
  have h1 := cOpd_rel hf hx
  have h2 := cOpd_rel hf hy
  obtain ⟨dst, op', ty, pos, after, guard⟩ := o
  simp only at ho; subst ho
  simp only [evI] at he
  split at he
  · rename_i b1 b2 e1 e2
    rw [e1] at h1; rw [e2] at h2
    have h1 := h1.bool_inv
    have h2 := h2.bool_inv
    simp only [Option.some.injEq, Prod.mk.injEq] at he
    obtain ⟨rfl, rfl⟩ := he
    refine ⟨rfl, _, ?_, .bool _⟩
    have hg : eqGuard op t x y (.bool b1) (.bool b2) = pure () := by cases op <;> rfl
    subst hop
    cases neg
    · simp only [Bool.false_eq_true, if_false] at hg ⊢
      simp [execOp, h1, h2, hg, binOp, eq_bool t _ _ ht, beqd]
    · simp only [if_true] at hg ⊢
      simp [execOp, h1, h2, hg, binOp, eq_bool t _ _ ht, beqd]
  · simp at he
def famOf : TypeDesc → Nat
  | .pointer _ => 1
  | .slice _ => 2
  | .func _ _ _ => 3
  | .interface _ => 4
  | .map _ _ => 5
  | _ => 0
theorem quiet_nq {o : Oper} {op : BinOp} {neg : Bool} {t u : TypeId} {x y : Operand} {x' y' : Opd} {d : TypeDesc} {fam : Nat} {v : V} (ho : o.op = .binOp op t x y u) (hop : op = if neg then .neq else .eql) (ht : P.underlying t = some d)
    (hd : famOf d = fam) (hfam : 0 < fam) (hk : fam = 4 → (isConstO x || isConstO y) = true)
    (hf : EnvR φ I w nt env a) (hx : cOpd nt x = some x') (hy : cOpd nt y = some y') {σ' : St} (he : evI env σ (.nq neg fam x' y') = some (v, σ')) : σ' = σ ∧ Quiet P φ I w a o v := by
  have h1 := cOpd_rel hf hx
  have h2 := cOpd_rel hf hy
  obtain ⟨dst, op', ty, pos, after, guard⟩ := o
  simp only at ho; subst ho
  simp only [evI, Option.map_eq_some_iff, Prod.mk.injEq] at he
  obtain ⟨b, he, rfl, rfl⟩ := he
  refine ⟨rfl, .bool _, ?_, .bool _⟩
  unfold nilEq at he
  split at he
  · rename_i f1 n1 f2 n2 e1 e2
    split at he
    · rename_i hc
      obtain ⟨rfl, hc2, hc3⟩ := hc
      simp only [Option.some.injEq] at he
      subst he
      have hg : eqGuard op t x y (a.eval x) (a.eval y) = pure () := by
        by_cases h4 : f1 = 4
        · have hk := hk h4
          subst hop
          generalize a.eval x = A at h1 ⊢
          generalize a.eval y = B at h2 ⊢
          subst h4; subst hc2
          cases hX : x'.ev env <;> rw [hX] at e1 h1 <;> simp [nilK] at e1 <;> cases hY : y'.ev env <;> rw [hY] at e2 h2 <;> simp [nilK] at e2 <;> cases h1 <;> cases h2 <;> cases neg <;> simp [eqGuard] <;> (try rfl) <;>
            (intro hh1 hh2; cases x <;> cases y <;> simp_all [isConstO])
        · generalize a.eval x = A at h1 ⊢
          generalize a.eval y = B at h2 ⊢
          cases hX : x'.ev env <;> rw [hX] at e1 h1 <;> simp [nilK] at e1 <;> (try omega) <;> cases h1 <;> cases op <;> rfl
      have key : ∀ (A B : Value), Rel φ I w (x'.ev env) A → Rel φ I w (y'.ev env) B → (Op.equal t A B).run P w = .ok (n1 && n2) w := fun A B hA hB => by
        cases hX : x'.ev env <;> rw [hX] at e1 hA <;> simp only [nilK, reduceCtorEq, Option.some.injEq, Prod.mk.injEq] at e1 <;> obtain ⟨rfl, rfl⟩ := e1 <;>
          cases hY : y'.ev env <;> rw [hY] at e2 hB <;> simp only [nilK, reduceCtorEq, Option.some.injEq, Prod.mk.injEq] at e2 <;> obtain ⟨q, rfl⟩ := e2 <;> subst hc2 <;> (try (simp at q; done)) <;> (try (simp at hc3; done)) <;>
          cases d <;> simp only [famOf, reduceCtorEq, Nat.succ_ne_zero, Nat.reduceEqDiff] at hd <;> cases hA <;> cases hB <;>
          first
            | exact eq_p1 t _ ht
            | exact eq_p2 t _ ht
            | exact eq_s1 t _ _ _ ht
            | exact eq_s2 t _ _ _ ht
            | exact eq_m1 t _ ht
            | exact eq_m2 t _ ht
            | exact eq_f0 t ht
            | exact eq_f1 t ht _ _ _
            | exact eq_f2 t ht _ _ _
            | exact eq_i0 t ht
            | exact eq_i1 t ht _ _
            | exact eq_i2 t ht _ _
      have key := key _ _ h1 h2
      have hb : ∀ (op : BinOp), op = .eql ∨ op = .neq → (binOp op t (a.eval x) (a.eval y)).run P w = .ok (.bool (if op = .neq then !(n1 && n2) else (n1 && n2))) w := fun op hop => by
        generalize a.eval x = A at h1 key ⊢
        generalize a.eval y = B at h2 key ⊢
        cases hX : x'.ev env <;> rw [hX] at e1 h1 <;> simp only [nilK, reduceCtorEq] at e1 <;> cases h1 <;> rcases hop with rfl | rfl <;> simp [binOp, key]
      subst hop
      cases neg
      · simp only [Bool.false_eq_true, if_false] at hg hb ⊢
        simp [execOp, hg, hb]
      · simp only [if_true] at hg hb ⊢
        simp [execOp, hg, hb]
    · simp at he
  · simp at he
end
end Go.Proofs.YtmjbnfldehbmcaaDoor.Ab
