/-
The walk over the program's texts, told with what its values say: a part of it. No further condition.
-/
import Derived.Test.YticpkoakbneefaaAbG
import Derived.RangeFuncIn
import Derived.RangeFuncRecord
import Derived.RangeFuncLeaves
import Derived.OrdersIn
import Derived.RecoverIn
import Derived.LoopNIn
namespace Go.Proofs.Yticpkoakbneefaa.Ab
open Go.RowKit
set_option linter.unusedVariables false
set_option linter.unusedSimpArgs false
/-- How a call ends. -/
inductive CO where
  | ret (v : V)
  | panic (v : V)
/-- How a piece of code ends. -/
inductive AX where
  | normal
  | exit (id : Nat)
  | ret
  | panic (v : V)
/-- A call put off. -/
inductive AD where
  | call (fn : Fn) (cap args : List V)
  | coll
structure Fr where
  env : Env
  ds : List AD
def Fr.put (f : Fr) (d : Option Nat) (v : V) : Fr := { f with env := f.env.put d v }
inductive RelO (φ : Phi) (I : Nat → Prop) (w : World) : CO → Ending → Prop where
  | ret {v : V} {c : Value} (h : Rel φ I w v c) : RelO φ I w (.ret v) (.returned c)
  | panic {v : V} {c : Value} (h : Rel φ I w v c) : RelO φ I w (.panic v) (.panicked [{ v := c, recovered := false }])
inductive RelX (φ : Phi) (I : Nat → Prop) (w : World) : AX → Exit → Prop where
  | normal : RelX φ I w .normal .normal
  | exit (id : Nat) : RelX φ I w (.exit id) (.exit id)
  | ret : RelX φ I w .ret .ret
  | panic {v : V} {c : Value} (h : Rel φ I w v c) : RelX φ I w (.panic v) (.panic [{ v := c, recovered := false }])
/-- The calls put off; the marks of ranges over functions: blocks of the function's own, the younger ones first. -/
def RelDs (lo : Nat) (φ : Phi) (I : Nat → Prop) (w : World) : Nat → List AD → List Deferred → Prop
  | _, [], [] => True
  | hi, .call fn cap args :: ds, c :: cs => ((∃ cs, c.target = .fn fn cs ∧ RelA φ I w cap cs) ∧ RelA φ I w args c.args) ∧ RelDs lo φ I w hi ds cs
  | hi, .coll :: ds, c :: cs => ∃ D, c.target = .collected D ∧ lo ≤ D ∧ D < hi ∧ I D ∧ w.heap[D]? = some (.deferred (some [])) ∧ RelDs lo φ I w D ds cs
  | _, _, _ => False
structure RelF (nt lo : Nat) (φ : Phi) (I : Nat → Prop) (w : World) (f : Fr) (a : Act) : Prop where
  size : a.tmps.size = nt
  env : EnvR φ I w nt f.env a
  ds : RelDs lo φ I w w.heap.size f.ds a.defers
  lo : lo ≤ w.heap.size
/-- A call's contract. -/
def CCalls (P : Program) (k : FuncId) (vs : List V) (σ : St) (R : CO → St → Prop) : Prop :=
  ∀ (φ : Phi) (I : Nat → Prop) (w : World) (cs : Array Value), Sim φ I σ w → RelA φ I w vs cs →
    Calls P k cs w fun e w' => ∃ o σ' φ' I', R o σ' ∧ RelO φ' I' w' o e ∧ Evo φ I σ w φ' I' σ' w' ∧ Sim φ' I' σ' w'
theorem CCalls.mono {P : Program} {k : FuncId} {vs : List V} {σ : St} {R R' : CO → St → Prop} (h : CCalls P k vs σ R) (hr : ∀ o σ', R o σ' → R' o σ') : CCalls P k vs σ R' :=
  fun φ I w cs hs ha => (h φ I w cs hs ha).mono fun e w' ⟨o, σ', φ', I', h1, h2⟩ => ⟨o, σ', φ', I', hr _ _ h1, h2⟩
/-- The fence: all functions, any depth; of a round, or of none. -/
def WF (ro : Option Nat) : Fence := { Fence.wide with round := ro }
theorem callsIn_wf {ro : Option Nat} {n : Nat} {P : Program} {f : FuncId} {args : Array Value} {w : World} {R : Ending → World → Prop} (h : Calls P f args w R) : CallsIn (WF ro) n P f args w R := callsIn_wide.2 h
/-- A yield, called. -/
def YW (P : Program) (l : Nat) (cs : Array Value) (w : World) (R : Ending → World → Prop) : Prop :=
  ∃ fn tmps asg body, (Instr.yield l cs).run P w = .ok (.round l fn tmps asg body) w ∧ RoundIn Fence.wide 0 P l fn tmps asg body w R
/-- What calls of yields bring about. -/
structure YS (P : Program) where
  R : Phi → (Nat → Prop) → World → Prop
  call : Nat → List V → St → (CO → St → Prop) → Prop
  st : ∀ φ I σ w φ' I' σ' w', Sim φ I σ w → Evo φ I σ w φ' I' σ' w' → R φ I w → R φ' I' w'
  mono : ∀ l vs σ K K', (∀ o σ, K o σ → K' o σ) → call l vs σ K → call l vs σ K'
  ok : ∀ l vs σ K, call l vs σ K → ∀ φ I w cs, Sim φ I σ w → R φ I w → RelA φ I w vs cs →
    YW P l cs w fun e w' => ∃ o σ' φ' I', K o σ' ∧ RelO φ' I' w' o e ∧ Evo φ I σ w φ' I' σ' w' ∧ Sim φ' I' σ' w'
def noY (P : Program) : YS P := ⟨fun _ _ _ => True, fun _ _ _ _ => False, fun _ _ _ _ _ _ _ _ _ _ _ => trivial, fun _ _ _ _ _ _ h => h, fun _ _ _ _ h => h.elim⟩
/-- A call's contract, where yields may be called. -/
def CCallsY (P : Program) (Y : YS P) (k : FuncId) (vs : List V) (σ : St) (R : CO → St → Prop) : Prop :=
  ∀ (φ : Phi) (I : Nat → Prop) (w : World) (cs : Array Value), Sim φ I σ w → RelA φ I w vs cs → Y.R φ I w →
    Calls P k cs w fun e w' => ∃ o σ' φ' I', R o σ' ∧ RelO φ' I' w' o e ∧ Evo φ I σ w φ' I' σ' w' ∧ Sim φ' I' σ' w'
/-- An iterator: it calls yield with these, one behind the other, until yield says no; and it does nothing else. -/
def Iter (P : Program) (gf : FuncId) (cap : List V) (G : St → Prop) (xs : List (List V)) : Prop :=
  ∀ (Y : YS P) (l : Nat) (J : Nat → St → Prop) (X : St → Prop) (σ : St), (∀ i σ, J i σ → G σ) → (∀ σ, X σ → G σ) →
    (∀ i x σ, xs[i]? = some x → J i σ → Y.call l x σ fun o σ' => (o = .ret (.bool true) ∧ J (i + 1) σ') ∨ (o = .ret (.bool false) ∧ X σ')) → J 0 σ →
    CCallsY P Y gf (.func (.yield l) [] [] :: cap) σ fun o σ' => o = .ret (.tup []) ∧ (J xs.length σ' ∨ X σ')
/-- What a piece of code brings about. -/
def Lift (nt lo : Nat) (Q : AX → Fr → St → Prop) (φ : Phi) (I : Nat → Prop) (σ : St) (w : World) : Exit → Act → World → Prop := fun e a' w' =>
  ∃ x f' σ' φ' I', Q x f' σ' ∧ RelX φ' I' w' x e ∧ Evo φ I σ w φ' I' σ' w' ∧ Sim φ' I' σ' w' ∧ RelF nt lo φ' I' w' f' a'
structure RI where
  dst : Option Nat
  guard : Option (Nat × Bool)
  ins : Ins
def wantG (env : Env) : Option (Nat × Bool) → Option Bool
  | none => some true
  | some (d, b) => match env d with
    | .bool t => some (t == b)
    | .tup [] => some false
    | _ => none
def evs (env : Env) (as : List Opd) : List V := as.map (·.ev env)
/-- An operation, in the text's order. -/
def rwp1 (P : Program) (ro : Option Nat) (Y : YS P) (Q : AX → Fr → St → Prop) (K : Fr → St → Prop) (r : RI) (f : Fr) (σ : St) : Prop :=
  match wantG f.env r.guard with
  | none => False
  | some false => K (f.put r.dst (.tup [])) σ
  | some true => match r.ins with
    | .call k as => CCalls P k (evs f.env as) σ fun o σ' => match o with
      | .ret v => K (f.put r.dst v) σ'
      | .panic v => Q (.panic v) f σ'
    | .callv g as => match g.ev f.env with
      | .func (.func k) first cap => hasBody P k = true ∧ CCalls P k (first ++ evs f.env as ++ cap) σ fun o σ' => match o with
        | .ret v => K (f.put r.dst v) σ'
        | .panic v => Q (.panic v) f σ'
      | .func (.yield l) [] [] => Y.call l (evs f.env as) σ fun o σ' => match o with
        | .ret v => K (f.put r.dst v) σ'
        | .panic v => Q (.panic v) f σ'
      | _ => False
    | .defer g as => ro = none ∧ match g.ev f.env with
      | .func fn first cap => K ({ f with ds := .call fn cap (first ++ evs f.env as) :: f.ds }.put r.dst (.tup [])) σ
      | _ => False
    | .panic x => match x.ev f.env with
      | .iface t v => Q (.panic (.iface t v)) f σ
      | _ => False
    | .recover => False
    | ins => match evI f.env σ ins with
      | some (v, σ') => K (f.put r.dst v) σ'
      | none => False
def rwp (P : Program) (ro : Option Nat) (Y : YS P) (Q : AX → Fr → St → Prop) : List RI → Fr → St → Prop
  | [], f, σ => Q .normal f σ
  | r :: rs, f, σ => rwp1 P ro Y Q (rwp P ro Y Q rs) r f σ
def cGuard (nt : Nat) (ops : Array Oper) : Option (Nat × Bool) → Option (Option (Nat × Bool))
  | none => some none
  | some (j, b) => ((ops[j]?).bind (·.dst)).bind fun d => if d < nt then some (some (d, b)) else none
def cRI (P : Program) (nt : Nat) (ops : Array Oper) (o : Oper) : Option RI :=
  (cGuard nt ops o.guard).bind fun g => (compOp P nt o).map fun i => ⟨o.dst, g, i⟩
section
variable {P : Program} {φ φ' : Phi} {I I' : Nat → Prop} {σ σ' : St} {w w' : World} {nt : Nat} {f : Fr} {a : Act}
theorem RelA.evo {vs : List V} {cs : Array Value} (h : RelA φ I w vs cs) (hs : Sim φ I σ w) (he : Evo φ I σ w φ' I' σ' w') : RelA φ' I' w' vs cs := ⟨h.1, fun i v hv => (h.2 i v hv).evo hs he⟩
theorem RelDs.le {lo : Nat} : ∀ {hi hi' : Nat} {ds : List AD} {cs : List Deferred}, hi ≤ hi' → RelDs lo φ I w hi ds cs → RelDs lo φ I w hi' ds cs
  | _, _, [], [], _, _ => trivial
  | _, _, .call .. :: _, _ :: _, hh, h => ⟨h.1, RelDs.le hh h.2⟩
  | _, _, .coll :: _, _ :: _, hh, ⟨D, h1, h2, h3, h4⟩ => ⟨D, h1, h2, by omega, h4⟩
  | _, _, [], _ :: _, _, h => h.elim
  | _, _, _ :: _, [], _, h => by rename_i d _ _; cases d <;> exact h.elim
theorem RelDs.evo {lo : Nat} (hs : Sim φ I σ w) (he : Evo φ I σ w φ' I' σ' w') : ∀ {hi : Nat} {ds : List AD} {cs : List Deferred}, RelDs lo φ I w hi ds cs → RelDs lo φ' I' w' hi ds cs
  | _, [], [], h => trivial
  | hi, .call fn cap args :: ds, c :: cs, h => by
    obtain ⟨⟨⟨x, h1, h2⟩, h3⟩, h4⟩ := h
    exact ⟨⟨⟨x, h1, h2.evo hs he⟩, h3.evo hs he⟩, RelDs.evo hs he h4⟩
  | hi, .coll :: ds, c :: cs, h => by
    obtain ⟨D, h1, h0, h5, h2, h3, h4⟩ := h
    exact ⟨D, h1, h0, h5, he.imm D h2, (he.frame D (hs.imm D h2) (fun hl => hs.notI D hl h2)).trans h3, RelDs.evo hs he h4⟩
  | _, [], _ :: _, h => h.elim
  | _, d :: _, [], h => by cases d <;> exact h.elim
theorem RelF.evo {lo : Nat} (h : RelF nt lo φ I w f a) (hs : Sim φ I σ w) (he : Evo φ I σ w φ' I' σ' w') : RelF nt lo φ' I' w' f a := ⟨h.size, fun t ht => (h.env t ht).evo hs he, (h.ds.evo hs he).le he.size, Nat.le_trans h.lo he.size⟩
theorem RelF.put {lo : Nat} (h : RelF nt lo φ I w f a) {v : V} {c : Value} (hv : Rel φ I w v c) (d : Option Nat) : RelF nt lo φ I w (f.put d v) (a.put d c) := by
  cases d with
  | none => exact h
  | some d =>
    refine ⟨by simp [Act.put, h.size], fun t ht => ?_, h.ds, h.lo⟩
    simp only [Fr.put, Env.put, Act.put]
    by_cases e : t = d
    · subst e
      rw [if_pos rfl]
      have : t < a.tmps.size := by rw [h.size]; exact ht
      simp [this, hv]
    · rw [if_neg e]
      have := h.env t ht
      simpa [Array.getElem?_setIfInBounds, Ne.symm e] using this
theorem want_ok {lo : Nat} {ops : Array Oper} {o : Oper} {g : Option (Nat × Bool)} (hg : cGuard nt ops o.guard = some g) (hf : RelF nt lo φ I w f a) {b : Bool} (h : wantG f.env g = some b) : Region.wanted o (yielded ops a.tmps) = b := by
  unfold Region.wanted
  cases hog : o.guard with
  | none =>
    rw [hog] at hg
    simp only [cGuard, Option.some.injEq] at hg
    subst hg
    simp only [wantG, Option.some.injEq] at h
    exact h
  | some jb =>
    obtain ⟨j, want⟩ := jb
    rw [hog] at hg
    simp only [cGuard, Option.bind_eq_some_iff] at hg
    obtain ⟨d, hd, hg⟩ := hg
    split at hg <;> simp at hg
    rename_i hlt
    subst hg
    have hr := hf.env d hlt
    have hsz : d < a.tmps.size := by rw [hf.size]; exact hlt
    have hget : a.tmps[d]? = some (a.tmps.getD d undef) := by simp [hsz]
    have hd' : (ops[j]?).bind (·.dst) = some d := by rw [Option.bind_eq_some_iff]; exact hd
    simp only [yielded, hd', Option.bind_some, hget]
    simp only [wantG] at h
    split at h
    · rename_i t ht
      rw [ht] at hr
      rw [hr.bool_inv]
      simp at h ⊢
      exact h
    · rename_i ht
      rw [ht] at hr
      generalize a.tmps.getD d undef = c at hr
      cases hr
      simp at h ⊢
      exact h
    · simp at h
theorem rels_of (hf : EnvR φ I w nt f.env a) {xs : Array Operand} {xs' : List Opd} (h : cOpds nt xs.toList = some xs') : RelA φ I w (evs f.env xs') (xs.map a.eval) := rels_map hf h
theorem RelA.append {vs us : List V} {cs ds : Array Value} (h : RelA φ I w vs cs) (k : RelA φ I w us ds) : RelA φ I w (vs ++ us) (cs ++ ds) := by
  refine ⟨by simp [h.1, k.1], fun i v hv => ?_⟩
  simp only [Array.getD_eq_getD_getElem?]
  by_cases hi : i < vs.length
  · rw [List.getElem?_append_left hi] at hv
    rw [Array.getElem?_append_left (by rw [h.1]; exact hi)]
    have := h.2 i v hv
    simpa only [Array.getD_eq_getD_getElem?] using this
  · rw [List.getElem?_append_right (by omega)] at hv
    rw [Array.getElem?_append_right (by rw [h.1]; omega), h.1]
    have := k.2 _ v hv
    simpa only [Array.getD_eq_getD_getElem?] using this
theorem run_callFunc {k : FuncId} {fn : Func} (hfn : P.funcs[k]? = some fn) (hb : fn.body.isSome = true) (hnm : fn.name ≠ "runtime.NumGoroutine") (args : Array Value) : (callFunc k args).run P w = .ok (.enter k args) w := by
  have h1 : fn.body.isNone = false := by cases h : fn.body <;> simp_all
  have h2 : (fn.name == "runtime.NumGoroutine") = false := by simpa using hnm
  unfold callFunc
  rw [Sem.run_bind, run_program]
  simp only [Result.andThen_ok, hfn, h2, Bool.false_eq_true, if_false, h1, Sem.run_pure]
theorem run_hasBody {k : FuncId} (h : hasBody P k = true) (args : Array Value) : (callFunc k args).run P w = .ok (.enter k args) w := by
  unfold hasBody at h
  cases hf : P.funcs[k]? with
  | none => rw [hf] at h; simp at h
  | some fn =>
    rw [hf] at h
    simp only [Option.any_some, Bool.and_eq_true, bne_iff_ne, ne_eq] at h
    exact run_callFunc hf h.1 h.2 args
theorem comp_call {o : Oper} {k : FuncId} {as : List Opd} (hc : compOp P nt o = some (.call k as)) :
    ∃ c, o.op = .call c ∧ c.callee = .value (.func k) ∧ cOpds nt c.args.toList = some as ∧ hasBody P k = true := by
  unfold compOp at hc
  split at hc
  · rename_i c ho
    split at hc
    · rename_i f hcal
      split at hc
      · rename_i hb
        obtain ⟨xs, hxs, e⟩ := Option.map_eq_some_iff.1 hc
        simp only [Ins.call.injEq] at e
        obtain ⟨rfl, rfl⟩ := e
        exact ⟨c, ho, hcal, hxs, hb⟩
      · simp at hc
    · obtain ⟨_, _, hc⟩ := Option.bind_eq_some_iff.1 hc
      obtain ⟨_, _, e⟩ := Option.map_eq_some_iff.1 hc
      simp at e
    · simp at hc
    · have := (plain_of hc).2; simp [Ins.plain] at this
  · split at hc
    · obtain ⟨_, _, hc⟩ := Option.bind_eq_some_iff.1 hc
      obtain ⟨_, _, e⟩ := Option.map_eq_some_iff.1 hc
      simp at e
    · simp at hc
  · obtain ⟨_, _, e⟩ := Option.map_eq_some_iff.1 hc
    simp at e
  · have := (plain_of hc).2; simp [Ins.plain] at this
theorem comp_callv {o : Oper} {g : Opd} {as : List Opd} (hc : compOp P nt o = some (.callv g as)) :
    ∃ c x, o.op = .call c ∧ c.callee = .value x ∧ cOpd nt x = some g ∧ cOpds nt c.args.toList = some as := by
  unfold compOp at hc
  split at hc
  · rename_i c ho
    split at hc
    · split at hc
      · obtain ⟨_, _, e⟩ := Option.map_eq_some_iff.1 hc
        simp at e
      · simp at hc
    · rename_i x _ hcal
      obtain ⟨x', hx, hc⟩ := Option.bind_eq_some_iff.1 hc
      obtain ⟨as', has, e⟩ := Option.map_eq_some_iff.1 hc
      simp only [Ins.callv.injEq] at e
      obtain ⟨rfl, rfl⟩ := e
      exact ⟨c, x, ho, hcal, hx, has⟩
    · simp at hc
    · have := (plain_of hc).2; simp [Ins.plain] at this
  · split at hc
    · obtain ⟨_, _, hc⟩ := Option.bind_eq_some_iff.1 hc
      obtain ⟨_, _, e⟩ := Option.map_eq_some_iff.1 hc
      simp at e
    · simp at hc
  · obtain ⟨_, _, e⟩ := Option.map_eq_some_iff.1 hc
    simp at e
  · have := (plain_of hc).2; simp [Ins.plain] at this
theorem comp_defer {o : Oper} {g : Opd} {as : List Opd} (hc : compOp P nt o = some (.defer g as)) :
    ∃ c x, o.op = .defer c ∧ c.callee = .value x ∧ cOpd nt x = some g ∧ cOpds nt c.args.toList = some as := by
  unfold compOp at hc
  split at hc
  · split at hc
    · split at hc
      · obtain ⟨_, _, e⟩ := Option.map_eq_some_iff.1 hc
        simp at e
      · simp at hc
    · obtain ⟨_, _, hc⟩ := Option.bind_eq_some_iff.1 hc
      obtain ⟨_, _, e⟩ := Option.map_eq_some_iff.1 hc
      simp at e
    · simp at hc
    · have := (plain_of hc).2; simp [Ins.plain] at this
  · rename_i c ho
    split at hc
    · rename_i x hcal
      obtain ⟨x', hx, hc⟩ := Option.bind_eq_some_iff.1 hc
      obtain ⟨as', has, e⟩ := Option.map_eq_some_iff.1 hc
      simp only [Ins.defer.injEq] at e
      obtain ⟨rfl, rfl⟩ := e
      exact ⟨c, x, ho, hcal, hx, has⟩
    · simp at hc
  · obtain ⟨_, _, e⟩ := Option.map_eq_some_iff.1 hc
    simp at e
  · have := (plain_of hc).2; simp [Ins.plain] at this
theorem comp_panic {o : Oper} {g : Opd} (hc : compOp P nt o = some (.panic g)) : ∃ x, o.op = .panic x ∧ cOpd nt x = some g := by
  unfold compOp at hc
  split at hc
  · split at hc
    · split at hc
      · obtain ⟨_, _, e⟩ := Option.map_eq_some_iff.1 hc
        simp at e
      · simp at hc
    · obtain ⟨_, _, hc⟩ := Option.bind_eq_some_iff.1 hc
      obtain ⟨_, _, e⟩ := Option.map_eq_some_iff.1 hc
      simp at e
    · simp at hc
    · have := (plain_of hc).2; simp [Ins.plain] at this
  · split at hc
    · obtain ⟨_, _, hc⟩ := Option.bind_eq_some_iff.1 hc
      obtain ⟨_, _, e⟩ := Option.map_eq_some_iff.1 hc
      simp at e
    · simp at hc
  · rename_i x ho
    obtain ⟨x', hx, e⟩ := Option.map_eq_some_iff.1 hc
    simp only [Ins.panic.injEq] at e
    subst e
    exact ⟨x, ho, hx⟩
  · have := (plain_of hc).2; simp [Ins.plain] at this
theorem noDefer {o : Oper} {ins : Ins} (hc : compOp P nt o = some ins) (h : ∀ g as, ins ≠ .defer g as) : ∀ c, o.op ≠ .defer c := by
  intro c ho
  unfold compOp at hc
  rw [ho] at hc
  simp only at hc
  split at hc
  · obtain ⟨_, _, hc⟩ := Option.bind_eq_some_iff.1 hc
    obtain ⟨_, _, rfl⟩ := Option.map_eq_some_iff.1 hc
    exact h _ _ rfl
  · simp at hc
/-- An operation of the program does what its telling says. -/
theorem rwp1_ok {lo : Nat} {ro : Option Nat} {Y : YS P} {ops : Array Oper} {i : Nat} {o : Oper} {r : RI} {Q : AX → Fr → St → Prop} {K : Fr → St → Prop} {K' : Act → World → Prop} {φ0 : Phi} {I0 : Nat → Prop} {σ0 : St} {w0 : World}
    (ho : ops[i]? = some o) (hc : cRI P nt ops o = some r) (hs : Sim φ I σ w) (hf : RelF nt lo φ I w f a) (hy : Y.R φ I w) (hb : Evo φ0 I0 σ0 w0 φ I σ w) (h : rwp1 P ro Y Q K r f σ)
    (hK : ∀ f' σ' φ' I' w' a', K f' σ' → Evo φ I σ w φ' I' σ' w' → Sim φ' I' σ' w' → RelF nt lo φ' I' w' f' a' → K' a' w') : wpOpIn (WF ro) 0 P ops (Lift nt lo Q φ0 I0 σ0 w0) i K' a w := by
  simp only [cRI, Option.bind_eq_some_iff, Option.map_eq_some_iff] at hc
  obtain ⟨g, hg, ins, hins, rfl⟩ := hc
  unfold wpOpIn
  simp only [ho]
  have undefR : Rel φ I w (.tup []) undef := .tup rfl (fun i v h => by simp at h)
  have hd0 : (WF ro).depth.isSome = true → 1 ≤ 0 := fun h => by simp [WF, Fence.wide] at h
  have callK : ∀ (k : FuncId) (vs : List V) (cs : Array Value), (∀ g as, ins ≠ .defer g as) → RelA φ I w vs cs → CCalls P k vs σ (fun o' σ' => match o' with
      | .ret v => K (f.put o.dst v) σ'
      | .panic v => Q (.panic v) f σ') → (execOp a.eval o).run P w = .ok (.enter k cs) w → o.wpIn (WF ro) 0 P a w K' (Lift nt lo Q φ0 I0 σ0 w0) := fun k vs cs hnd hr hcall hex => by
    refine ⟨fun _ _ => trivial, ?_⟩
    rw [Oper.semAt_eq _ _ _ (noDefer hins hnd), hex, Oper.uponIn_enter]
    refine ⟨hd0, callsIn_wf ((hcall φ I w cs hs hr).mono ?_)⟩
    rintro e w' ⟨o', σ', φ', I', hR, hO, hE, hS⟩
    cases hO with
    | ret hv => exact hK _ _ _ _ _ _ hR hE hS ((hf.evo hs hE).put hv o.dst)
    | panic hv => exact ⟨_, _, _, _, _, hR, .panic hv, hb.trans hE, hS, hf.evo hs hE⟩
  unfold rwp1 at h
  split at h
  · exact h.elim
  · rename_i hw
    rw [want_ok hg hf hw]
    exact ⟨fun _ _ => trivial, hK _ _ _ _ _ _ h (Evo.refl _ _ _ _) hs (hf.put undefR o.dst)⟩
  · rename_i hw
    rw [want_ok hg hf hw]
    simp only [if_true]
    simp only at h
    split at h
    · rename_i k as
      obtain ⟨c, hop, hcal, has, hbd⟩ := comp_call hins
      have hr := rels_of hf.env has
      refine callK k _ _ (fun _ _ h => by simp at h) hr h ?_
      obtain ⟨dst, op', ty, pos, after, guard⟩ := o
      simp only at hop; subst hop
      obtain ⟨cal, args, ts⟩ := c
      simp only at hcal; subst hcal
      simp only [execOp, resolve, Act.eval, Deferred.ofValue, Sem.run_bind, Sem.run_pure, Result.andThen_ok, invoke, Array.append_empty]
      rw [show (#[] : Array Value) ++ Array.map a.eval args = Array.map a.eval args by simp]
      exact run_hasBody hbd _
    · rename_i g2 as
      obtain ⟨c, x, hop, hcal, hx, has⟩ := comp_callv hins
      have hnd : ∀ g bs, Ins.callv g2 as ≠ .defer g bs := fun _ _ h => by simp at h
      split at h
      · rename_i k first cap hg2
        obtain ⟨hbd, h⟩ := h
        have hr := rels_of hf.env has
        have hgr := cOpd_rel hf.env hx
        rw [hg2] at hgr
        generalize hq : a.eval x = q at hgr
        cases hgr with
        | func _ h1 r1 h2 r2 =>
          rename_i fs cs
          have hr2 := RelA.append (RelA.append ⟨h1, r1⟩ hr) ⟨h2, r2⟩
          refine callK k _ _ hnd hr2 h ?_
          obtain ⟨dst, op', ty, pos, after, guard⟩ := o
          simp only at hop; subst hop
          obtain ⟨cal, args, ts⟩ := c
          simp only at hcal; subst hcal
          simp only [execOp, resolve, hq, Deferred.ofValue, Sem.run_bind, Sem.run_pure, Result.andThen_ok, invoke]
          exact run_hasBody hbd _
      · rename_i l hg2
        have hr := rels_of hf.env has
        have hgr := cOpd_rel hf.env hx
        rw [hg2] at hgr
        generalize hq : a.eval x = q at hgr
        cases hgr with
        | func _ h1 r1 h2 r2 =>
          rename_i fs cs
          obtain rfl : fs = #[] := Array.eq_empty_of_size_eq_zero h1
          obtain rfl : cs = #[] := Array.eq_empty_of_size_eq_zero h2
          obtain ⟨fn, tmps, asg, body, hyr, hrd⟩ := Y.ok l _ σ _ h φ I w _ hs hy hr
          refine ⟨fun _ _ => trivial, ?_⟩
          have hex : (execOp a.eval o).run P w = .ok (.round l fn tmps asg body) w := by
            obtain ⟨dst, op', ty, pos, after, guard⟩ := o
            simp only at hop; subst hop
            obtain ⟨cal, args, ts⟩ := c
            simp only at hcal; subst hcal
            simp only [execOp, resolve, hq, Deferred.ofValue, Sem.run_bind, Sem.run_pure, Result.andThen_ok, invoke]
            rw [show (#[] : Array Value) ++ Array.map a.eval args = Array.map a.eval args by simp]
            simpa using hyr
          rw [Oper.semAt_eq _ _ _ (noDefer hins hnd), hex, Oper.uponIn_round]
          refine ⟨hd0, RoundIn.mono (show RoundIn (WF ro) (0 - 1) P l fn tmps asg body w _ from hrd) ?_⟩
          rintro e w' ⟨o', σ', φ', I', hR, hO, hE, hS⟩
          cases hO with
          | ret hv => exact hK _ _ _ _ _ _ hR hE hS ((hf.evo hs hE).put hv o.dst)
          | panic hv => exact ⟨_, _, _, _, _, hR, .panic hv, hb.trans hE, hS, hf.evo hs hE⟩
      · exact h.elim
    · rename_i g2 as
      obtain ⟨c, x, hop, hcal, hx, has⟩ := comp_defer hins
      obtain ⟨rfl, h⟩ := h
      split at h
      · rename_i fn first cap hg2
        have hr := rels_of hf.env has
        have hgr := cOpd_rel hf.env hx
        rw [hg2] at hgr
        generalize hq : a.eval x = q at hgr
        cases hgr with
        | func _ h1 r1 h2 r2 =>
          rename_i fs cs
          refine ⟨fun _ _ => trivial, ?_⟩
          have hex : (execOp a.eval o).run P w = .ok (.defer { target := .fn fn cs, args := fs ++ Array.map a.eval c.args }) w := by
            obtain ⟨dst, op', ty, pos, after, guard⟩ := o
            simp only at hop; subst hop
            obtain ⟨cal, args, ts⟩ := c
            simp only at hcal; subst hcal
            simp only [execOp, resolve, hq, Deferred.ofValue, Sem.run_bind, Sem.run_pure, Result.andThen_ok]
          rw [show (WF none).round = none from rfl, Oper.semAt_none, hex, Oper.uponIn_defer]
          refine hK _ _ _ _ _ _ h (Evo.refl _ _ _ _) hs (RelF.put ?_ undefR o.dst)
          exact ⟨hf.size, hf.env, ⟨⟨⟨_, rfl, h2, r2⟩, RelA.append ⟨h1, r1⟩ hr⟩, hf.ds⟩, hf.lo⟩
      · exact h.elim
    · rename_i x
      obtain ⟨x', hop, hx⟩ := comp_panic hins
      split at h
      · rename_i t v hg2
        have hgr := cOpd_rel hf.env hx
        rw [hg2] at hgr
        generalize hq : a.eval x' = q at hgr
        have hgr' := hgr
        cases hgr with
        | iface _ hv =>
          rename_i c
          refine ⟨fun _ _ => trivial, ?_⟩
          have hex : (execOp a.eval o).run P w = .halt (.panic (.iface t c)) w := by
            obtain ⟨dst, op', ty, pos, after, guard⟩ := o
            simp only at hop; subst hop
            simp only [execOp, hq, Instr.panic, Sem.run_bind, run_goPanic, Result.andThen_halt]
          rw [Oper.semAt_eq _ _ _ (noDefer hins (fun _ _ h => by simp at h)), hex, Oper.uponIn_panic]
          exact ⟨_, _, _, _, _, h, .panic hgr', hb, hs, hf⟩
      · exact h.elim
    · exact h.elim
    · rename_i hn1 hn2 hn3 hn4 hn5
      split at h
      · rename_i v σ' he
        obtain ⟨⟨c, w', φ', I', hex, hv, hE, hS⟩, _⟩ := op_ok hins hs hf.env he
        refine ⟨fun _ _ => trivial, ?_⟩
        rw [Oper.semAt_eq _ _ _ (noDefer hins hn3)]
        rcases hex with hex | ⟨hex, rfl⟩
        · rw [hex, Oper.uponIn_value]
          exact hK _ _ _ _ _ _ h hE hS ((hf.evo hs hE).put hv o.dst)
        · rw [hex, Oper.uponIn_skip]
          exact hK _ _ _ _ _ _ h hE hS ((hf.evo hs hE).put hv o.dst)
      · exact h.elim
end
end Go.Proofs.Yticpkoakbneefaa.Ab
namespace Go.Proofs.Yticpkoakbneefaa.Ab
open Go.RowKit
set_option linter.unusedVariables false
set_option linter.unusedSimpArgs false
inductive Plan where
  | done
  | q (r : RI) (p : Plan)
  | alt (r : RI) (again : List RI) (p more : Plan)
  | stop
inductive C where
  | skip
  | reg (rs : List RI)
  | drw (p : Plan)
  | seq (a b : C)
  | cond (c : Opd) (a b : C)
  | block (id : Nat) (b : C)
  | loop (b : C)
  | rng (g : Opd) (ps : List Nat) (asg body : C)
  | exit (id : Nat)
  | ret
section
variable {P : Program} {φ φ' : Phi} {I I' : Nat → Prop} {σ σ' : St} {w w' : World} {nt : Nat} {f : Fr} {a : Act}
theorem cRI_some {ops : Array Oper} {rs : List RI} (h : ops.toList.mapM (cRI P nt ops) = some rs) : rs.length = ops.size ∧ ∀ (i : Nat) (r : RI), rs[i]? = some r → ∃ o, ops[i]? = some o ∧ cRI P nt ops o = some r := by
  obtain ⟨h1, h2⟩ := mapM_some h
  exact ⟨by simpa using h1, fun i r hr => by obtain ⟨o, ho, hc⟩ := h2 i r hr; exact ⟨o, by simpa using ho, hc⟩⟩
theorem rwp_ok {lo : Nat} {ro : Option Nat} {Y : YS P} {ops : Array Oper} {rs : List RI} (hc : ops.toList.mapM (cRI P nt ops) = some rs) {Q : AX → Fr → St → Prop} {φ0 : Phi} {I0 : Nat → Prop} {σ0 : St} {w0 : World} :
    ∀ (m i : Nat), i + m = rs.length → ∀ (f : Fr) (σ : St) (φ : Phi) (I : Nat → Prop) (w : World) (a : Act), Sim φ I σ w → RelF nt lo φ I w f a → Y.R φ I w → Evo φ0 I0 σ0 w0 φ I σ w → rwp P ro Y Q (rs.drop i) f σ →
      wpOpsIn (WF ro) 0 P ops (Lift nt lo Q φ0 I0 σ0 w0) (List.range' i m) a w := by
  obtain ⟨h1, h2⟩ := cRI_some hc
  intro m
  induction m with
  | zero =>
    intro i hi f σ φ I w a hs hf hy hb h
    rw [List.drop_eq_nil_of_le (by omega)] at h
    simp only [List.range'_zero, wpOpsIn]
    exact ⟨_, _, _, _, _, h, .normal, hb, hs, hf⟩
  | succ m ih =>
    intro i hi f σ φ I w a hs hf hy hb h
    have hlt : i < rs.length := by omega
    rw [List.drop_eq_getElem_cons hlt] at h
    obtain ⟨o, ho, hco⟩ := h2 i _ (List.getElem?_eq_getElem hlt)
    rw [List.range'_succ, wpOpsIn_cons]
    exact rwp1_ok ho hco hs hf hy hb h fun f' σ' φ' I' w' a' hk he hs' hf' => ih (i + 1) (by omega) f' σ' φ' I' w' a' hs' hf' (Y.st _ _ _ _ _ _ _ _ hs he hy) (hb.trans he) hk
end
/-- The program's code, told with all that its types say; 'pl' makes the plan of a region that draws its order. -/
def compC (pl : Program → Nat → Array Oper → Option Plan) (P : Program) (nt : Nat) : Code → Option C
  | .skip => some .skip
  | .region _ ops false => (ops.toList.mapM (cRI P nt ops)).map .reg
  | .region _ ops true => (pl P nt ops).map .drw
  | .seq a b => (compC pl P nt a).bind fun a => (compC pl P nt b).map fun b => .seq a b
  | .cond c a b => (cOpd nt c).bind fun c => (compC pl P nt a).bind fun a => (compC pl P nt b).map fun b => .cond c a b
  | .block id b => (compC pl P nt b).map (.block id)
  | .loop b => (compC pl P nt b).map .loop
  | .rangeFunc g ps asg b => (cOpd nt g).bind fun g => (if ps.toList.all (fun t => decide (t < nt)) = true then some () else none).bind fun _ => (compC pl P nt asg).bind fun a => (compC pl P nt b).map fun b => .rng g ps.toList a b
  | .exit id => some (.exit id)
  | .ret => some .ret
  | _ => none
/-- What a piece of code brings about, whatever the draws. -/
def CWof (pl : Program → Nat → Array Oper → Option Plan) (P : Program) (ro : Option Nat) (Y : YS P) (nt : Nat) (c : C) (f : Fr) (σ : St) (Q : AX → Fr → St → Prop) : Prop :=
  ∀ code, compC pl P nt code = some c → ∀ lo φ I w a, Sim φ I σ w → RelF nt lo φ I w f a → Y.R φ I w → code.wpIn (WF ro) 0 P (Lift nt lo Q φ I σ w) a w
section
variable {pl : Program → Nat → Array Oper → Option Plan} {P : Program} {ro : Option Nat} {Y : YS P} {φ φ' : Phi} {I I' : Nat → Prop} {σ σ' : St} {w w' : World} {nt : Nat} {f : Fr} {a : Act} {Q : AX → Fr → St → Prop}
theorem Lift.mono {lo : Nat} {Q' : AX → Fr → St → Prop} (hq : ∀ x f σ, Q x f σ → Q' x f σ) {e : Exit} {a' : Act} {w' : World} (h : Lift nt lo Q φ I σ w e a' w') : Lift nt lo Q' φ I σ w e a' w' := by
  obtain ⟨x, f', σ', φ', I', h1, h2⟩ := h
  exact ⟨x, f', σ', φ', I', hq _ _ _ h1, h2⟩
theorem Lift.base {lo : Nat} {φ0 : Phi} {I0 : Nat → Prop} {σ0 : St} {w0 : World} (hb : Evo φ0 I0 σ0 w0 φ I σ w) {e : Exit} {a' : Act} {w' : World} (h : Lift nt lo Q φ I σ w e a' w') : Lift nt lo Q φ0 I0 σ0 w0 e a' w' := by
  obtain ⟨x, f', σ', φ', I', h1, h2, h3, h4⟩ := h
  exact ⟨x, f', σ', φ', I', h1, h2, hb.trans h3, h4⟩
theorem CWof.mono {c : C} {Q' : AX → Fr → St → Prop} (h : CWof pl P ro Y nt c f σ Q) (hq : ∀ x f σ, Q x f σ → Q' x f σ) : CWof pl P ro Y nt c f σ Q' :=
  fun code hc lo φ I w a hs hf hy => wpIn_mono (h code hc lo φ I w a hs hf hy) fun _ _ _ => Lift.mono hq
theorem cw_skip (h : Q .normal f σ) : CWof pl P ro Y nt .skip f σ Q := fun code hc lo φ I w a hs hf hy => by
  cases code <;> (try simp only [compC, Option.some.injEq, reduceCtorEq, Option.map_eq_some_iff, Option.bind_eq_some_iff, and_false, exists_false] at hc)
  case skip => exact wpIn_skip ⟨_, _, _, _, _, h, .normal, Evo.refl _ _ _ _, hs, hf⟩
  case region id ops d => cases d <;> simp [compC] at hc
theorem cw_ret (h : Q .ret f σ) : CWof pl P ro Y nt .ret f σ Q := fun code hc lo φ I w a hs hf hy => by
  cases code <;> (try simp only [compC, Option.some.injEq, reduceCtorEq, Option.map_eq_some_iff, Option.bind_eq_some_iff, and_false, exists_false] at hc)
  case ret => exact wpIn_ret ⟨_, _, _, _, _, h, .ret, Evo.refl _ _ _ _, hs, hf⟩
  case region id ops d => cases d <;> simp [compC] at hc
theorem cw_exit {id : Nat} (h : Q (.exit id) f σ) : CWof pl P ro Y nt (.exit id) f σ Q := fun code hc lo φ I w a hs hf hy => by
  cases code <;> (try simp only [compC, Option.some.injEq, reduceCtorEq, Option.map_eq_some_iff, Option.bind_eq_some_iff, and_false, exists_false, C.exit.injEq] at hc)
  case exit => subst hc; exact wpIn_exit ⟨_, _, _, _, _, h, .exit _, Evo.refl _ _ _ _, hs, hf⟩
  case region id ops d => cases d <;> simp [compC] at hc
theorem cw_reg {rs : List RI} (h : rwp P ro Y Q rs f σ) : CWof pl P ro Y nt (.reg rs) f σ Q := fun code hc lo φ I w a hs hf hy => by
  cases code <;> (try simp only [compC, Option.some.injEq, reduceCtorEq, Option.map_eq_some_iff, Option.bind_eq_some_iff, and_false, exists_false] at hc)
  case region id ops d =>
    cases d
    · simp only [compC, Option.map_eq_some_iff, C.reg.injEq] at hc
      obtain ⟨rs', hrs, rfl⟩ := hc
      refine wpIn_region ?_
      rw [List.range_eq_range', ← (cRI_some hrs).1]
      exact rwp_ok hrs _ 0 (by omega) f σ φ I w a hs hf hy (Evo.refl _ _ _ _) (by simpa using h)
    · simp [compC] at hc
theorem cw_seq {x y : C} (h : CWof pl P ro Y nt x f σ (fun e f' σ' => match e with | .normal => CWof pl P ro Y nt y f' σ' Q | e => Q e f' σ')) : CWof pl P ro Y nt (.seq x y) f σ Q := fun code hc lo φ I w a hs hf hy => by
  cases code <;> (try simp only [compC, Option.some.injEq, reduceCtorEq, Option.map_eq_some_iff, Option.bind_eq_some_iff, and_false, exists_false, C.seq.injEq] at hc)
  case seq cx cy =>
    obtain ⟨x', hx, y', hcy, rfl, rfl⟩ := hc
    refine wpIn_seq (wpIn_mono (h cx hx lo φ I w a hs hf hy) fun e a' w' hl => ?_)
    obtain ⟨xe, f', σ', φ', I', h1, h2, h3, h4, h5⟩ := hl
    cases h2 with
    | normal => exact wpIn_mono (h1 cy hcy lo φ' I' w' a' h4 h5 (Y.st _ _ _ _ _ _ _ _ hs h3 hy)) fun _ _ _ => Lift.base h3
    | exit id => exact ⟨_, _, _, _, _, h1, .exit id, h3, h4, h5⟩
    | ret => exact ⟨_, _, _, _, _, h1, .ret, h3, h4, h5⟩
    | panic hv => exact ⟨_, _, _, _, _, h1, .panic hv, h3, h4, h5⟩
  case region id ops d => cases d <;> simp [compC] at hc
theorem cw_cond {c : Opd} {x y : C} {t : Bool} (hc : c.ev f.env = .bool t) (h : CWof pl P ro Y nt (if t then x else y) f σ Q) : CWof pl P ro Y nt (.cond c x y) f σ Q := fun code hcc lo φ I w a hs hf hy => by
  cases code <;> (try simp only [compC, Option.some.injEq, reduceCtorEq, Option.map_eq_some_iff, Option.bind_eq_some_iff, and_false, exists_false, C.cond.injEq] at hcc)
  case cond co cx cy =>
    obtain ⟨c', hc', x', hx, y', hcy, rfl, rfl, rfl⟩ := hcc
    have hr := cOpd_rel hf.env hc'
    rw [hc] at hr
    refine wpIn_cond hr.bool_inv ?_
    cases t
    · exact h cy (by simpa using hcy) lo φ I w a hs hf hy
    · exact h cx (by simpa using hx) lo φ I w a hs hf hy
  case region id ops d => cases d <;> simp [compC] at hcc
theorem cw_block {id : Nat} {x : C} (h : CWof pl P ro Y nt x f σ (fun e f' σ' => match e with | .exit id' => if id' = id then Q .normal f' σ' else Q (.exit id') f' σ' | e => Q e f' σ')) : CWof pl P ro Y nt (.block id x) f σ Q := fun code hc lo φ I w a hs hf hy => by
  cases code <;> (try simp only [compC, Option.some.injEq, reduceCtorEq, Option.map_eq_some_iff, Option.bind_eq_some_iff, and_false, exists_false, C.block.injEq] at hc)
  case block id' cx =>
    obtain ⟨x', hx, rfl, rfl⟩ := hc
    refine wpIn_block (wpIn_mono (h cx hx lo φ I w a hs hf hy) fun e a' w' hl => ?_)
    obtain ⟨xe, f', σ', φ', I', h1, h2, h3, h4, h5⟩ := hl
    cases h2 with
    | normal => exact ⟨_, _, _, _, _, h1, .normal, h3, h4, h5⟩
    | exit id2 =>
      simp only [Exit.inBlock]
      simp only at h1
      split
      · rename_i e; rw [if_pos e] at h1; exact ⟨_, _, _, _, _, h1, .normal, h3, h4, h5⟩
      · rename_i e; rw [if_neg e] at h1; exact ⟨_, _, _, _, _, h1, .exit _, h3, h4, h5⟩
    | ret => exact ⟨_, _, _, _, _, h1, .ret, h3, h4, h5⟩
    | panic hv => exact ⟨_, _, _, _, _, h1, .panic hv, h3, h4, h5⟩
  case region id ops d => cases d <;> simp [compC] at hc
/-- So many rounds. -/
def LoopN (pl : Program → Nat → Array Oper → Option Plan) (P : Program) (ro : Option Nat) (Y : YS P) (nt : Nat) (b : C) (Q : AX → Fr → St → Prop) : Nat → Fr → St → Prop
  | 0, _, _ => False
  | n + 1, f, σ => CWof pl P ro Y nt b f σ (fun e f' σ' => match e with | .normal => LoopN pl P ro Y nt b Q n f' σ' | e => Q e f' σ')
theorem loop_key {lo : Nat} {c : Code} {b : C} (hc : compC pl P nt c = some b) {φ0 : Phi} {I0 : Nat → Prop} {σ0 : St} {w0 : World} : ∀ (n : Nat) (f : Fr) (σ : St) (φ : Phi) (I : Nat → Prop) (w : World) (a : Act),
    LoopN pl P ro Y nt b Q n f σ → Sim φ I σ w → RelF nt lo φ I w f a → Y.R φ I w → Evo φ0 I0 σ0 w0 φ I σ w → Code.roundsIn (WF ro) 0 P c (Lift nt lo Q φ0 I0 σ0 w0) n a w
  | 0, _, _, _, _, _, _, h, _, _, _, _ => h.elim
  | n + 1, f, σ, φ, I, w, a, h, hs, hf, hy, hb => by
    rw [roundsIn_succ]
    refine wpIn_mono (h c hc lo φ I w a hs hf hy) fun e a₁ w₁ hq => ?_
    obtain ⟨xe, f', σ', φ', I', h1, h2, h3, h4, h5⟩ := hq
    cases h2 with
    | normal => exact loop_key hc n f' σ' φ' I' w₁ a₁ h1 h4 h5 (Y.st _ _ _ _ _ _ _ _ hs h3 hy) (hb.trans h3)
    | exit id => exact ⟨_, _, _, _, _, h1, .exit id, hb.trans h3, h4, h5⟩
    | ret => exact ⟨_, _, _, _, _, h1, .ret, hb.trans h3, h4, h5⟩
    | panic hv => exact ⟨_, _, _, _, _, h1, .panic hv, hb.trans h3, h4, h5⟩
theorem cw_loopN {b : C} (n : Nat) (h : LoopN pl P ro Y nt b Q n f σ) : CWof pl P ro Y nt (.loop b) f σ Q := fun code hc lo φ I w a hs hf hy => by
  cases code <;> (try simp only [compC, Option.some.injEq, reduceCtorEq, Option.map_eq_some_iff, Option.bind_eq_some_iff, and_false, exists_false, C.loop.injEq] at hc)
  case loop cb =>
    obtain ⟨b', hb, rfl⟩ := hc
    exact wpIn_loop_rounds n (loop_key hb n f σ φ I w a h hs hf hy (Evo.refl _ _ _ _))
  case region id ops d => cases d <;> simp [compC] at hc
theorem loopN_of {b : C} (J : Nat → Fr → St → Prop) (step : ∀ n f σ, J n f σ → CWof pl P ro Y nt b f σ (fun e f' σ' => match e with | .normal => ∃ m, m < n ∧ J m f' σ' | e => Q e f' σ')) :
    ∀ N n f σ, n < N → J n f σ → LoopN pl P ro Y nt b Q N f σ
  | 0, _, _, _, h, _ => by omega
  | N + 1, n, f, σ, h, hj => (step n f σ hj).mono fun x f' σ' hq => by
    cases x with
    | normal => obtain ⟨m, hm, hj'⟩ := hq; exact loopN_of J step N m f' σ' (by omega) hj'
    | exit id => exact hq
    | ret => exact hq
    | panic v => exact hq
/-- A loop: what holds at each round's head, with a number that falls. -/
theorem cw_loop {b : C} (J : Nat → Fr → St → Prop) (n : Nat) (h0 : J n f σ) (step : ∀ n f σ, J n f σ → CWof pl P ro Y nt b f σ (fun e f' σ' => match e with | .normal => ∃ m, m < n ∧ J m f' σ' | e => Q e f' σ')) : CWof pl P ro Y nt (.loop b) f σ Q :=
  cw_loopN (n + 1) (loopN_of J step (n + 1) n f σ (by omega) h0)
end
end Go.Proofs.Yticpkoakbneefaa.Ab
namespace Go.Proofs.Yticpkoakbneefaa.Ab
open Go.RowKit
set_option linter.unusedVariables false
set_option linter.unusedSimpArgs false
/-- Where a result lies: in a temporary, or in a variable. -/
inductive RC where
  | t (n : Nat)
  | c (n : Nat) (k : Option Nat)
structure CF where
  nt : Nat
  res : List RC
  body : C
def cRes (P : Program) (nt : Nat) : ResultVar → Option RC
  | .tmp t => if t < nt then some (.t t) else none
  | .cell a t => if a < nt then (P.underlying t).bind fun d => if isAggD d = true then (sizeD P t).map fun n => .c a (some n) else some (.c a none) else none
def compF (pl : Program → Nat → Array Oper → Option Plan) (P : Program) (k : FuncId) : Option CF :=
  (P.funcs[k]?).bind fun fn => fn.body.bind fun b => (compC pl P fn.ntmps b).bind fun c => (fn.results.toList.mapM (cRes P fn.ntmps)).map fun rs => ⟨fn.ntmps, rs, c⟩
def resV (env : Env) (σ : St) : RC → Option V
  | .t n => some (env n)
  | .c n none => (evI env σ (.ld (.t n))).map (·.1)
  | .c n (some k) => (evI env σ (.lda k (.t n))).map (·.1)
def resL (env : Env) (σ : St) : List RC → Option (List V)
  | [] => some []
  | r :: rs => (resV env σ r).bind fun v => (resL env σ rs).map (v :: ·)
def one : List V → V
  | [v] => v
  | vs => .tup vs
def retV (rs : List RC) (env : Env) (σ : St) : Option V := (resL env σ rs).map one
def envOf (vs : List V) : Env := fun t => vs.getD t (.tup [])
/-- What a frame is about while its deferred calls run: it returns; it panics; the panic was recovered. -/
inductive Md where
  | ret
  | pan (v : V)
  | rcv (v : V)
def settleM : Md → Md
  | .rcv _ => .ret
  | m => m
inductive ModeR (φ : Phi) (I : Nat → Prop) (w : World) : Md → FrameMode → Prop where
  | ret : ModeR φ I w .ret .returning
  | pan {v : V} {c : Value} (h : Rel φ I w v c) : ModeR φ I w (.pan v) (.panicking [{ v := c, recovered := false }])
  | rcv {v : V} {c : Value} (h : Rel φ I w v c) : ModeR φ I w (.rcv v) (.panicking [{ v := c, recovered := true }])
/-- A deferred call's contract. -/
def DCalls (P : Program) (k : FuncId) (vs : List V) (m : Md) (σ : St) (R : CO → Md → St → Prop) : Prop :=
  ∀ φ I w cs u, Sim φ I σ w → RelA φ I w vs cs → ModeR φ I w m u → CallsDIn Fence.wide 0 P k cs u w fun e u' w' =>
    ∃ o m' σ' φ' I', R o m' σ' ∧ RelO φ' I' w' o e ∧ ModeR φ' I' w' m' u' ∧ Evo φ I σ w φ' I' σ' w' ∧ Sim φ' I' σ' w'
/-- How a frame leaves. -/
def DLv (P : Program) (rs : List RC) (env : Env) (R : CO → St → Prop) : List AD → Md → St → Prop
  | [], .ret, σ => ∃ v, retV rs env σ = some v ∧ R (.ret v) σ
  | [], .pan v, σ => R (.panic v) σ
  | [], .rcv _, σ => False
  | .coll :: ds, m, σ => DLv P rs env R ds m σ
  | .call fn cap args :: ds, m, σ => ∃ k, fn = .func k ∧ hasBody P k = true ∧ DCalls P k (args ++ cap) m σ fun o m' σ' => match o with
    | .ret _ => DLv P rs env R ds (settleM m') σ'
    | .panic v => m' = .ret ∧ DLv P rs env R ds (.pan v) σ'
def Post (P : Program) (rs : List RC) (R : CO → St → Prop) (x : AX) (f : Fr) (σ : St) : Prop :=
  match x with
  | .normal | .ret => DLv P rs f.env R f.ds .ret σ
  | .panic v => DLv P rs f.env R f.ds (.pan v) σ
  | .exit _ => False
section
variable {pl : Program → Nat → Array Oper → Option Plan} {P : Program} {φ φ' : Phi} {I I' : Nat → Prop} {σ σ' : St} {w w' : World} {nt : Nat} {f : Fr} {a : Act} {Q : AX → Fr → St → Prop}
theorem res_run (hs : Sim φ I σ w) (hf : EnvR φ I w nt f.env a) {r : ResultVar} {rc : RC} (hc : cRes P nt r = some rc) {v : V} (h : resV f.env σ rc = some v) :
    ∃ c, (match r with | .tmp t => (pure (a.tmps.getD t undef) : Sem Value) | .cell x t => do loadVar t (← asAddr (a.tmps.getD x undef))).run P w = .ok c w ∧ Rel φ I w v c := by
  have ld : ∀ (t : TypeId) (n : Nat), n < nt → ∀ (o : Oper), o = ⟨none, .load t (.tmp n), 0, "", #[], none⟩ → Quiet P φ I w a o v → ∃ c, (do loadVar t (← asAddr (a.tmps.getD n undef)) : Sem Value).run P w = .ok c w ∧ Rel φ I w v c := fun t n _ o ho hq => by
    subst ho
    obtain ⟨c, h1, h2⟩ := hq
    refine ⟨c, ?_, h2⟩
    simp only [execOp, Instr.loadAt, Act.eval] at h1
    rw [Sem.run_bind] at h1 ⊢
    rw [Sem.run_bind] at h1
    generalize a.tmps.getD n undef = x at h1 ⊢
    cases x <;> simp [Instr.sureAddr, asAddr] at h1 ⊢
    rename_i p
    cases p
    · simp [Instr.sureAddr] at h1
    · simp [Instr.sureAddr] at h1 ⊢
      generalize (loadVar t _).run P w = R at h1 ⊢
      cases R <;> simp at h1 ⊢
      exact h1
  cases r with
  | tmp t =>
    simp only [cRes] at hc
    split at hc <;> simp at hc
    rename_i hlt
    subst hc
    simp only [resV, Option.some.injEq] at h
    subst h
    exact ⟨_, rfl, hf t hlt⟩
  | cell x t =>
    simp only [cRes] at hc
    split at hc <;> simp only [Option.bind_eq_some_iff, reduceCtorEq] at hc
    rename_i hlt
    obtain ⟨d, hd, hc⟩ := hc
    split at hc
    · rename_i hag
      simp only [Option.map_eq_some_iff] at hc
      obtain ⟨n, hn, rfl⟩ := hc
      simp only [resV, Option.map_eq_some_iff] at h
      obtain ⟨⟨v', σ'⟩, he, rfl⟩ := h
      exact ld t x hlt _ rfl (quiet_lda (o := ⟨none, .load t (.tmp x), 0, "", #[], none⟩) rfl hd hag hn hs hf (x := .tmp x) (by simp [cOpd, hlt]) he).2
    · rename_i hag
      simp only [Option.some.injEq] at hc
      subst hc
      simp only [resV, Option.map_eq_some_iff] at h
      obtain ⟨⟨v', σ'⟩, he, rfl⟩ := h
      exact ld t x hlt _ rfl (quiet_ld (o := ⟨none, .load t (.tmp x), 0, "", #[], none⟩) rfl hd (by simpa using hag) hs hf (x := .tmp x) (by simp [cOpd, hlt]) he).2
theorem resL_run (hs : Sim φ I σ w) (hf : EnvR φ I w nt f.env a) : ∀ (l : List ResultVar) (rs : List RC) (vs : List V), l.mapM (cRes P nt) = some rs → resL f.env σ rs = some vs →
    ∃ cs : List Value, (l.mapM (m := Sem) fun | .tmp t => (pure (a.tmps.getD t undef) : Sem Value) | .cell x t => do loadVar t (← asAddr (a.tmps.getD x undef))).run P w = .ok cs w ∧ cs.length = vs.length ∧ ∀ i v, vs[i]? = some v → Rel φ I w v (cs.getD i undef)
  | [], rs, vs, hc, h => by
    simp at hc; subst hc
    simp only [resL, Option.some.injEq] at h; subst h
    exact ⟨[], by simp, rfl, fun i v h => by simp at h⟩
  | r :: l, rs, vs, hc, h => by
    rw [List.mapM_cons] at hc
    simp only [Option.bind_eq_bind, Option.bind_eq_some_iff, Option.pure_def, Option.some.injEq] at hc
    obtain ⟨rc, hrc, rs', hrs, rfl⟩ := hc
    simp only [resL, Option.bind_eq_some_iff, Option.map_eq_some_iff] at h
    obtain ⟨v, hv, vs', hvs, rfl⟩ := h
    obtain ⟨c, h1, h2⟩ := res_run hs hf hrc hv
    obtain ⟨cs, h3, h4, h5⟩ := resL_run hs hf l rs' vs' hrs hvs
    refine ⟨c :: cs, ?_, by simp [h4], fun i u hu => ?_⟩
    · rw [List.mapM_cons, Sem.run_bind]
      have h1' := h1
      erw [h1']
      simp only [Result.andThen_ok, Sem.run_bind]
      erw [h3]
      rfl
    · cases i with
      | zero => simp at hu; subst hu; simpa using h2
      | succ i => simpa using h5 i u (by simpa using hu)
theorem ret_run {fn : Func} {rs : List RC} (hs : Sim φ I σ w) (hf : EnvR φ I w nt f.env a) (hc : fn.results.toList.mapM (cRes P nt) = some rs) {v : V} (h : retV rs f.env σ = some v) :
    ∃ c, (results fn a.tmps).run P w = .ok c w ∧ Rel φ I w v c := by
  simp only [retV, Option.map_eq_some_iff] at h
  obtain ⟨vs, hvs, rfl⟩ := h
  obtain ⟨cs, h1, h2, h3⟩ := resL_run hs hf _ rs vs hc hvs
  have hm : (fn.results.mapM (m := Sem) fun | .tmp t => (pure (a.tmps.getD t undef) : Sem Value) | .cell x t => do loadVar t (← asAddr (a.tmps.getD x undef))).run P w = .ok cs.toArray w := by
    rw [Array.mapM_eq_mapM_toList]
    simp only [Functor.map]
    rw [show ∀ (x : Sem (List Value)), (Sem.bind x (Sem.pure ∘ List.toArray)).run P w = _ from fun x => Sem.run_bind' P x _ w]
    erw [h1]
    rfl
  unfold results
  rw [Sem.run_bind]
  erw [hm]
  simp only [Result.andThen_ok, Sem.run_pure]
  refine ⟨_, rfl, ?_⟩
  match vs, cs, h2, h3 with
  | [], [], _, h3 => exact .tup rfl (fun i v h => by simp at h)
  | [v], [c], _, h3 => simpa [one] using h3 0 v rfl
  | v :: v2 :: vs, c :: c2 :: cs, h2, h3 =>
    simp only [one]
    rw [dif_neg (by simp)]
    exact .tup (by simpa using h2) (fun i u hu => by simpa using h3 i u hu)
theorem enter_rel {vs : List V} {cs : Array Value} (h : RelA φ I w vs cs) (hl : vs.length ≤ nt) : RelF nt w.heap.size φ I w ⟨envOf vs, []⟩ { tmps := cs ++ Array.replicate (nt - cs.size) undef, defers := [] } := by
  refine ⟨by simp [h.1]; omega, fun t ht => ?_, trivial, Nat.le_refl _⟩
  simp only [envOf, Array.getD_eq_getD_getElem?]
  by_cases hi : t < vs.length
  · rw [Array.getElem?_append_left (by rw [h.1]; exact hi)]
    have := h.2 t vs[t] (List.getElem?_eq_getElem hi)
    simpa [hi] using this
  · rw [Array.getElem?_append_right (by rw [h.1]; omega)]
    have : t - cs.size < nt - cs.size := by rw [h.1]; omega
    simp [hi, this]
    exact .tup rfl (fun i v h => by simp at h)
theorem ModeR.evo {m : Md} {u : FrameMode} (h : ModeR φ I w m u) (hs : Sim φ I σ w) (he : Evo φ I σ w φ' I' σ' w') : ModeR φ' I' w' m u := by
  cases h with
  | ret => exact .ret
  | pan h => exact .pan (h.evo hs he)
  | rcv h => exact .rcv (h.evo hs he)
theorem ModeR.settle {m : Md} {u : FrameMode} (h : ModeR φ I w m u) : ModeR φ I w (settleM m) (settle u) := by
  cases h with
  | ret => exact .ret
  | pan h => exact .pan h
  | rcv h => exact .ret
/-- The block of a mark, shut. -/
theorem sim_shut (hs : Sim φ I σ w) {D : Nat} (hD : w.heap[D]? = some (.deferred (some []))) (hW : σ.W.heap.size ≤ D) :
    Sim φ I σ (w.putObj D (.deferred none)) ∧ ∀ v c, Rel φ I w v c → Rel φ I (w.putObj D (.deferred none)) v c := by
  have hlt : D < w.heap.size := (Array.getElem?_eq_some_iff.1 hD).1
  have hoth : ∀ k, k ≠ D → (w.putObj D (.deferred none)).heap[k]? = w.heap[k]? := fun k hk => World.putObj_heap_other hk
  have hsame := World.putObj_heap_same (w := w) (o := Obj.deferred none) hlt
  have hcel : ∀ (a : Addr) c, w.cell? a = some c → (w.putObj D (.deferred none)).cell? a = some c := fun a c h => by
    have hne : a.block ≠ D := fun e => by
      unfold World.cell? at h
      rw [e, hD] at h
      simp at h
    rw [cell?_of_heap (hoth _ hne)]; exact h
  have hN : ∀ b, cellsOf (w.putObj D (.deferred none)) b = cellsOf w b := fun b => by
    unfold cellsOf
    by_cases e : b = D
    · subst e; rw [hsame, hD]
    · rw [hoth b e]
  have hrel : ∀ v c, Rel φ I w v c → Rel φ I (w.putObj D (.deferred none)) v c := fun v c h => by
    induction h with
    | bool b => exact .bool b
    | int k n => exact .int k n
    | str h => exact .str h
    | nilp => exact .nilp
    | ptr i j h => exact .ptr i j h
    | iptr j hb hcs ho hp hr ih => exact .iptr j hb (fun k hk => hcel _ _ (hcs k hk)) ho hp (fun k v hk => ih k v hk)
    | nils => exact .nils
    | slc h hl hn ha => exact .slc h hl (hn.trans (hN _).symm) ha
    | islc hl ha hz hcs ho hp hr ih => exact .islc hl ha hz (fun i j hi hj => hcel _ _ (hcs i j hi hj)) ho hp (fun i j e v h1 h2 => ih i j e v h1 h2)
    | mapn => exact .mapn
    | map h => exact .map h
    | func fn h1 r1 h2 r2 ih1 ih2 => exact .func fn h1 ih1 h2 ih2
    | nilf => exact .nilf
    | iface t h ih => exact .iface t ih
    | nili => exact .nili
    | agg h r ih => exact .agg h ih
    | tup h r ih => exact .tup h ih
    | any c => exact .any c
  refine ⟨⟨hs.dom, fun l x h => by have := hs.blk l x h; simpa using this, fun l b h => ?_, hs.notI, hs.inj, fun b h => by have := hs.imm b h; simpa using this, fun b h => ⟨(hs.base b h).1, (hoth b (by omega)).trans (hs.base b h).2⟩⟩, hrel⟩
  obtain ⟨x, h1, h2⟩ := hs.live l b h
  refine ⟨x, h1, ?_⟩
  cases h2 with
  | row hh hfz hpos hz hsz ho hr => exact .row ((hoth _ (fun e => by rw [e, hD] at hh; simp at hh)).trans hh) hfz hpos hz hsz ho fun i j e v h1 h2 => hrel _ _ (hr i j e v h1 h2)
  | map hh hn hr => exact .map ((hoth _ (fun e => by rw [e, hD] at hh; simp at hh)).trans hh) hn fun i kv e h1 h2 => ⟨hrel _ _ (hr i kv e h1 h2).1, hrel _ _ (hr i kv e h1 h2).2⟩
  | lp hh hr => exact .lp ((hoth _ (fun e => by rw [e, hD] at hh; simp at hh)).trans hh) hr
theorem RelA.any {vs : List V} {cs : Array Value} (h : RelA φ I w vs cs) (hr : ∀ v c, Rel φ I w v c → Rel φ I w' v c) : RelA φ I w' vs cs := ⟨h.1, fun i v hv => hr _ _ (h.2 i v hv)⟩
theorem RelDs.shut {lo D : Nat} (hr : ∀ v c, Rel φ I w v c → Rel φ I w' v c) (hoth : ∀ k, k < D → w'.heap[k]? = w.heap[k]?) : ∀ {hi : Nat} {ds : List AD} {cs : List Deferred}, hi ≤ D → RelDs lo φ I w hi ds cs → RelDs lo φ I w' hi ds cs
  | _, [], [], _, h => trivial
  | hi, .call fn cap args :: ds, c :: cs, hh, h => by
    obtain ⟨⟨⟨x, h1, h2⟩, h3⟩, h4⟩ := h
    exact ⟨⟨⟨x, h1, h2.any hr⟩, h3.any hr⟩, RelDs.shut hr hoth hh h4⟩
  | hi, .coll :: ds, c :: cs, hh, h => by
    obtain ⟨D', h1, h0, h5, h2, h3, h4⟩ := h
    exact ⟨D', h1, h0, h5, h2, (hoth D' (by omega)).trans h3, RelDs.shut hr hoth (by omega) h4⟩
  | _, [], _ :: _, _, h => h.elim
  | _, d :: _, [], _, h => by cases d <;> exact h.elim
theorem leaves_ok {fn : Func} {rs : List RC} {env : Env} {tmps : Array Value} {R : CO → St → Prop} (hrs : fn.results.toList.mapM (cRes P nt) = some rs) {lo : Nat} {φ0 : Phi} {I0 : Nat → Prop} {σ0 : St} {w0 : World} (hs0 : Sim φ0 I0 σ0 w0) (hlo : w0.heap.size ≤ lo) :
    ∀ (ds : List AD) (m : Md) (hi : Nat) (σ : St) (φ : Phi) (I : Nat → Prop) (w : World) (cds : List Deferred) (u : FrameMode), RelDs lo φ I w hi ds cds → ModeR φ I w m u → Sim φ I σ w → EnvR φ I w nt env { tmps := tmps, defers := [] } → DLv P rs env R ds m σ → Evo φ0 I0 σ0 w0 φ I σ w →
      LeavesInM Fence.wide 0 P fn tmps (fun e w' => ∃ o σ' φ' I', R o σ' ∧ RelO φ' I' w' o e ∧ Evo φ0 I0 σ0 w0 φ' I' σ' w' ∧ Sim φ' I' σ' w') cds u w
  | [], m, hi, σ, φ, I, w, [], u, hd, hm, hs, hf, h, he => by
    cases hm with
    | ret =>
      obtain ⟨v, hv, hR⟩ := h
      obtain ⟨c, hc1, hc2⟩ := ret_run (f := ⟨env, []⟩) hs hf hrs hv
      exact ⟨c, hc1, _, _, _, _, hR, .ret hc2, he, hs⟩
    | pan hv => exact ⟨_, _, _, _, h, .panic hv, he, hs⟩
    | rcv hv => exact h.elim
  | .coll :: ds, m, hi, σ, φ, I, w, c :: cds, u, hd, hm, hs, hf, h, he => by
    obtain ⟨D, h1, h0, h5, h2, h3, h4⟩ := hd
    have hDW : σ.W.heap.size ≤ D := by
      have hb : ∀ b, b < σ0.W.heap.size → b < w0.heap.size := fun b hb => hs0.imm b (hs0.base b hb).1
      rw [he.base]
      rcases Nat.lt_or_ge D σ0.W.heap.size with hlt | hge
      · have := hb D hlt; omega
      · exact hge
    obtain ⟨s1, r1⟩ := sim_shut hs h3 hDW
    have hlt : D < w.heap.size := (Array.getElem?_eq_some_iff.1 h3).1
    have hoth : ∀ k, k ≠ D → (w.putObj D (.deferred none)).heap[k]? = w.heap[k]? := fun k hk => World.putObj_heap_other hk
    have hsame := World.putObj_heap_same (w := w) (o := Obj.deferred none) hlt
    refine ⟨by cases hm <;> simp, .inl ⟨D, _, h1, run_takeDeferred h3, ?_⟩⟩
    refine leaves_ok hrs hs0 hlo ds m D σ φ I _ cds u (h4.shut r1 (fun k hk => hoth k (by omega)) (Nat.le_refl _)) ?_ s1 (fun t ht => r1 _ _ (hf t ht)) h ?_
    · cases hm with
      | ret => exact .ret
      | pan hv => exact .pan (r1 _ _ hv)
      | rcv hv => exact .rcv (r1 _ _ hv)
    · refine ⟨he.phi, he.imm, he.immNew, he.liveNew, by have := he.size; simpa using this, fun b hb => ?_, fun b hb hn => (hoth b (by omega)).trans (he.frame b hb hn), he.os, he.tape, he.output, he.base, fun b r hr => ?_⟩
      · rw [← he.shape b hb]
        unfold cellsOf
        rw [hoth b (by omega)]
      · obtain ⟨st, pe, hh⟩ := he.loops b r hr
        have := (Array.getElem?_eq_some_iff.1 hr).1
        exact ⟨st, pe, (hoth b (by omega)).trans hh⟩
  | .call fv cap args :: ds, m, hi, σ, φ, I, w, c :: cds, u, hd, hm, hs, hf, h, he => by
    obtain ⟨⟨⟨x, h1, h2⟩, h3⟩, h4⟩ := hd
    obtain ⟨k, rfl, hb, hcall⟩ := h
    have hrun : u ≠ .run := by cases hm <;> simp
    refine ⟨hrun, Or.inr ⟨fun h => by simp [Fence.wide] at h, .func k, x, k, c.args ++ x, h1, ?_, fun _ _ => trivial, ?_⟩⟩
    · rw [h1]; simp only [invoke]; exact run_hasBody hb _
    · refine (hcall φ I w _ u hs (h3.append h2) hm).mono ?_
      rintro e u' w' ⟨o, m', σ', φ', I', hR, hO, hM, hE, hS⟩
      cases hO with
      | ret hv => exact leaves_ok hrs hs0 hlo ds _ hi σ' φ' I' w' cds _ (h4.evo hs hE) hM.settle hS (fun t ht => (hf t ht).evo hs hE) hR (he.trans hE)
      | panic hv =>
        obtain ⟨rfl, hR⟩ := hR
        cases hM
        exact leaves_ok hrs hs0 hlo ds (.pan _) hi σ' φ' I' w' cds _ (h4.evo hs hE) (.pan hv) hS (fun t ht => (hf t ht).evo hs hE) hR (he.trans hE)
  | [], _, _, _, _, _, _, _ :: _, _, hd, _, _, _, _, _ => hd.elim
  | d :: _, _, _, _, _, _, _, [], _, hd, _, _, _, _, _ => by cases d <;> exact hd.elim
/-- A function's contract, by its code. -/
theorem ccallsY_of {Y : YS P} {k : FuncId} {cf : CF} {vs : List V} {R : CO → St → Prop} (hcf : compF pl P k = some cf) (hl : vs.length ≤ cf.nt) (h : CWof pl P none Y cf.nt cf.body ⟨envOf vs, []⟩ σ (Post P cf.res R)) : CCallsY P Y k vs σ R := by
  intro φ I w cs hs ha hy
  simp only [compF, Option.bind_eq_some_iff, Option.map_eq_some_iff] at hcf
  obtain ⟨fn, hfn, b, hb, c, hc, rs, hrs, rfl⟩ := hcf
  refine callsIn_wide.1 (callsIn_of_wp_marks (n := 0) (F := Fence.wide) hfn hb trivial (wpIn_mono (h b hc w.heap.size φ I w _ hs (enter_rel ha hl) hy) fun e a' w' hl => ?_))
  obtain ⟨x, f', σ', φ', I', h1, h2, h3, h4, h5⟩ := hl
  have hret : ∀ m u, ModeR φ' I' w' m u → DLv P rs f'.env R f'.ds m σ' → LeavesInM Fence.wide 0 P fn a'.tmps (fun e w' => ∃ o σ' φ' I', R o σ' ∧ RelO φ' I' w' o e ∧ Evo φ I σ w φ' I' σ' w' ∧ Sim φ' I' σ' w') a'.defers u w' := fun m u hm hd =>
    leaves_ok hrs hs (Nat.le_refl _) f'.ds m _ σ' φ' I' w' a'.defers u h5.ds hm h4 h5.env hd h3
  cases h2 with
  | normal => exact hret _ _ .ret h1
  | ret => exact hret _ _ .ret h1
  | exit id => exact h1.elim
  | panic hv => exact hret _ _ (.pan hv) h1
theorem ccalls_of {k : FuncId} {cf : CF} {vs : List V} {R : CO → St → Prop} (hcf : compF pl P k = some cf) (hl : vs.length ≤ cf.nt) (h : CWof pl P none (noY P) cf.nt cf.body ⟨envOf vs, []⟩ σ (Post P cf.res R)) : CCalls P k vs σ R :=
  fun φ I w cs hs ha => ccallsY_of hcf hl h φ I w cs hs ha trivial
/-- A deferred call of a function that looks at no panic. -/
theorem dcalls_of {k : FuncId} {cf : CF} {vs : List V} {R : CO → St → Prop} {m : Md} (hcf : compF pl P k = some cf) (hl : vs.length ≤ cf.nt)
    (h : CWof pl P none (noY P) cf.nt cf.body ⟨envOf vs, []⟩ σ fun x f σ' => match x with
      | .normal | .ret => f.ds = [] ∧ ∃ v, retV cf.res f.env σ' = some v ∧ R (.ret v) σ'
      | .panic v => f.ds = [] ∧ R (.panic v) σ'
      | .exit _ => False) : DCalls P k vs m σ fun o m' σ' => m' = m ∧ R o σ' := by
  intro φ I w cs u hs ha hm
  simp only [compF, Option.bind_eq_some_iff, Option.map_eq_some_iff] at hcf
  obtain ⟨fn, hfn, b, hb, c, hc, rs, hrs, rfl⟩ := hcf
  refine (callsDIn_of_wp (n := 0) (F := Fence.wide) (R := fun e w' => ∃ o σ' φ' I', R o σ' ∧ RelO φ' I' w' o e ∧ Evo φ I σ w φ' I' σ' w' ∧ Sim φ' I' σ' w') hfn hb trivial (wpIn_mono (h b hc w.heap.size φ I w _ hs (enter_rel ha hl) trivial) fun e a' w' hl => ?_)).mono ?_
  · obtain ⟨x, f', σ', φ', I', h1, h2, h3, h4, h5⟩ := hl
    have hd : f'.ds = [] → a'.defers = [] := fun e => by
      have := h5.ds
      rw [e] at this
      cases hh : a'.defers with
      | nil => rfl
      | cons d ds => rw [hh] at this; exact this.elim
    have hret : (f'.ds = [] ∧ ∃ v, retV rs f'.env σ' = some v ∧ R (.ret v) σ') → a'.defers = [] ∧ ∃ v, (results fn a'.tmps).run P w' = .ok v w' ∧ ∃ o σ'' φ' I', R o σ'' ∧ RelO φ' I' w' o (.returned v) ∧ Evo φ I σ w φ' I' σ'' w' ∧ Sim φ' I' σ'' w' := fun ⟨e, v, hv, hR⟩ => by
      obtain ⟨c, hc1, hc2⟩ := ret_run h4 h5.env hrs hv
      exact ⟨hd e, c, hc1, _, _, _, _, hR, .ret hc2, h3, h4⟩
    cases h2 with
    | normal => exact hret h1
    | ret => exact hret h1
    | exit id => exact h1.elim
    | panic hv => exact ⟨hd h1.1, _, _, _, _, h1.2, .panic hv, h3, h4⟩
  · rintro e u' w' ⟨rfl, o, σ', φ', I', h1, h2, h3, h4⟩
    exact ⟨o, m, σ', φ', I', ⟨rfl, h1⟩, h2, hm.evo hs h3, h3, h4⟩
end
end Go.Proofs.Yticpkoakbneefaa.Ab
namespace Go.Proofs.Yticpkoakbneefaa.Ab
open Go.RowKit
set_option linter.unusedVariables false
set_option linter.unusedSimpArgs false
/-- All rows that it names are of these. -/
inductive Lt (n : Nat → Bool) : V → Prop where
  | bool (b : Bool) : Lt n (.bool b)
  | int (k : IntKind) (i : Int) : Lt n (.int k i)
  | str (s : List UInt8) : Lt n (.str s)
  | nilp : Lt n .nilp
  | ptr (l i j : Nat) (h : n l = true) : Lt n (.ptr l i j)
  | iptr (e : List V) (j : Nat) : Lt n (.iptr e j)
  | nils : Lt n .nils
  | slc (l o k : Nat) (h : n l = true) : Lt n (.slc l o k)
  | islc (z : Nat) (es : List (List V)) : Lt n (.islc z es)
  | mapn : Lt n .mapn
  | map (l : Nat) (h : n l = true) : Lt n (.map l)
  | func (fn : Fn) (a b : List V) (ha : ∀ v ∈ a, Lt n v) (hb : ∀ v ∈ b, Lt n v) : Lt n (.func fn a b)
  | nilf : Lt n .nilf
  | iface (t : TypeId) (v : V) (h : Lt n v) : Lt n (.iface t v)
  | nili : Lt n .nili
  | agg (vs : List V) (h : ∀ v ∈ vs, Lt n v) : Lt n (.agg vs)
  | tup (vs : List V) (h : ∀ v ∈ vs, Lt n v) : Lt n (.tup vs)
  | any : Lt n .any
def BLt (n : Nat → Bool) : Blk → Prop
  | .row _ es => ∀ e ∈ es, ∀ v ∈ e, Lt n v
  | .map es => ∀ p ∈ es, Lt n p.1 ∧ Lt n p.2
  | .lp _ => True
section
variable {P : Program} {φ φ' : Phi} {I I' : Nat → Prop} {σ σ' : St} {w w' : World}
theorem mem_get {α : Type} {l : List α} {x : α} (h : x ∈ l) : ∃ i : Nat, l[i]? = some x := List.mem_iff_getElem?.1 h
theorem Rel.lt {n : Nat → Bool} (hd : ∀ l x, φ l = some x → n l = true) {v : V} {c : Value} (h : Rel φ I w v c) : Lt n v := by
  induction h with
  | bool b => exact .bool b
  | int k n => exact .int k n
  | str h => exact .str _
  | nilp => exact .nilp
  | ptr i j h => exact .ptr _ _ _ (hd _ _ h)
  | iptr j => exact .iptr _ _
  | nils => exact .nils
  | slc h => exact .slc _ _ _ (hd _ _ h)
  | islc => exact .islc _ _
  | mapn => exact .mapn
  | map h => exact .map _ (hd _ _ h)
  | func fn h1 r1 h2 r2 ih1 ih2 =>
    exact .func _ _ _ (fun v hv => by obtain ⟨i, hi⟩ := mem_get hv; exact ih1 i v hi) (fun v hv => by obtain ⟨i, hi⟩ := mem_get hv; exact ih2 i v hi)
  | nilf => exact .nilf
  | iface t h ih => exact .iface _ _ ih
  | nili => exact .nili
  | agg h r ih => exact .agg _ (fun v hv => by obtain ⟨i, hi⟩ := mem_get hv; exact ih i v hi)
  | tup h r ih => exact .tup _ (fun v hv => by obtain ⟨i, hi⟩ := mem_get hv; exact ih i v hi)
  | any c => exact .any
theorem pure_lt {n : Nat → Bool} : ∀ {v : V}, v.pure = true → Lt n v
  | .bool b, _ => .bool b
  | .int k i, _ => .int k i
  | .str s, _ => .str s
  | .nilp, _ => .nilp
  | .ptr _ _ _, h => by simp [V.pure] at h
  | .iptr e j, _ => .iptr e j
  | .nils, _ => .nils
  | .slc _ _ _, h => by simp [V.pure] at h
  | .islc z es, _ => .islc z es
  | .mapn, _ => .mapn
  | .map _, h => by simp [V.pure] at h
  | .func fn a b, h => by
    simp only [V.pure, Bool.and_eq_true, List.isEmpty_iff] at h
    obtain ⟨rfl, rfl⟩ := h
    exact .func fn [] [] (fun v h => by simp at h) (fun v h => by simp at h)
  | .nilf, _ => .nilf
  | .iface t v, h => .iface t v (pure_lt (by cases v <;> simp_all [V.pure]))
  | .nili, _ => .nili
  | .agg _, h => by simp [V.pure] at h
  | .tup _, h => by simp [V.pure] at h
  | .any, _ => .any
/-- What names rows below n alone is told by what is known of these. -/
theorem Rel.cut {n : Nat → Bool} (hφ : ∀ l x, n l = true → φ l = some x → φ' l = some x) (hI : ∀ b, I b → I' b) {v : V} {c : Value} (h : Rel φ I w v c) (hl : Lt n v) : Rel φ' I' w v c := by
  induction h with
  | bool b => exact .bool b
  | int k n => exact .int k n
  | str h => exact .str h
  | nilp => exact .nilp
  | ptr i j h => cases hl with | ptr _ _ _ hh => exact .ptr i j (hφ _ _ hh h)
  | iptr j hb hcs ho hp hr ih => exact .iptr j (hI _ hb) hcs ho hp (fun k v hk => ih k v hk (pure_lt (List.all_eq_true.1 hp v (List.mem_of_getElem? hk))))
  | nils => exact .nils
  | slc h hl' hn ha => cases hl with | slc _ _ _ hh => exact .slc (hφ _ _ hh h) hl' hn ha
  | islc hl' ha hz hcs ho hp hr ih =>
    exact .islc hl' (fun e => ⟨(ha e).1, hI _ (ha e).2⟩) hz hcs ho hp (fun i j e v h1 h2 => ih i j e v h1 h2 (pure_lt (List.all_eq_true.1 (List.all_eq_true.1 hp e (List.mem_of_getElem? h1)) v (List.mem_of_getElem? h2))))
  | mapn => exact .mapn
  | map h => cases hl with | map _ hh => exact .map (hφ _ _ hh h)
  | func fn h1 r1 h2 r2 ih1 ih2 =>
    cases hl with
    | func _ _ _ ha hb => exact .func fn h1 (fun i v hv => ih1 i v hv (ha v (List.mem_of_getElem? hv))) h2 (fun i v hv => ih2 i v hv (hb v (List.mem_of_getElem? hv)))
  | nilf => exact .nilf
  | iface t h ih => cases hl with | iface _ _ hh => exact .iface t (ih hh)
  | nili => exact .nili
  | agg h r ih => cases hl with | agg _ hh => exact .agg h (fun i v hv => ih i v hv (hh v (List.mem_of_getElem? hv)))
  | tup h r ih => cases hl with | tup _ hh => exact .tup h (fun i v hv => ih i v hv (hh v (List.mem_of_getElem? hv)))
  | any c => exact .any c
/-! Rows that nobody writes any more are told whole; what is named from n on is forgotten. -/
def frzS (H : Nat → Option Blk) (n : Nat → Bool) (g : V → V) : V → V
  | .slc l off len => if n l = true then .slc l off len else match H l with
    | some (.row z es) => if off + len ≤ es.length ∧ (((es.drop off).take len).map (·.map g)).all (·.all V.pure) = true then .islc z (((es.drop off).take len).map (·.map g)) else .any
    | _ => .any
  | .ptr l i j => if n l = true then .ptr l i j else match H l with
    | some (.row z es) => match es[i]? with
      | some e => if (e.map g).all V.pure = true then .iptr (e.map g) j else .any
      | none => .any
    | _ => .any
  | .map l => if n l = true then .map l else .any
  | .func fn a b => .func fn (a.map g) (b.map g)
  | .iface t v => .iface t (match v with | .agg cs => .agg (cs.map g) | v => g v)
  | .agg _ => .any
  | .tup _ => .any
  | v => v
def frzC (H : Nat → Option Blk) (n : Nat → Bool) : Nat → V → V
  | 0 => fun v => if v.pure then v else .any
  | k + 1 => frzS H n (frzC H n k)
def frzA (H : Nat → Option Blk) (n : Nat → Bool) : V → V
  | .agg cs => .agg (cs.map (frzC H n 4))
  | v => frzC H n 4 v
def frzV (H : Nat → Option Blk) (n : Nat → Bool) : V → V
  | .agg cs => .agg (cs.map (frzC H n 4))
  | .tup vs => .tup (vs.map (frzA H n))
  | v => frzC H n 4 v
def frzO (H : Nat → Option Blk) (n : Nat → Bool) : CO → CO
  | .ret v => .ret (frzV H n v)
  | .panic v => .panic (frzV H n v)
def cutPhi (φ : Phi) (n : Nat → Bool) : Phi := fun l => if n l = true then φ l else none
def frzI (φ : Phi) (I : Nat → Prop) (σ : St) (n : Nat → Bool) : Nat → Prop := fun b => I b ∨ ∃ l x, n l = false ∧ (σ.H l).isSome = true ∧ φ l = some x ∧ x.1 = b
def frzB (H : Nat → Option Blk) (n : Nat → Bool) : Blk → Blk
  | .row z es => .row z (es.map (·.map (frzC H n 4)))
  | .map es => .map (es.map fun p => (frzC H n 4 p.1, frzC H n 4 p.2))
  | .lp s => .lp s
open Classical in
/-- What a call has left, told anew: the rows 'n' are kept, what they name else is told whole. -/
noncomputable def St.frz (σ σ' : St) (n : Nat → Bool) (m : Nat) : St :=
  ⟨fun l => if n l = true then (if σ'.H l = σ.H l then σ.H l else (σ'.H l).map (frzB σ'.H n)) else σ.H l, m, σ'.W⟩
theorem frz_map {n : Nat → Bool} {vs : List V} {cs : Array Value} {g : V → V} (h : RelA φ I w vs cs) (hg : ∀ v c, Rel φ I w v c → Rel (cutPhi φ n) (frzI φ I σ n) w (g v) c) : RelA (cutPhi φ n) (frzI φ I σ n) w (vs.map g) cs :=
  ⟨by simpa using h.1, fun i v hv => by
    simp only [List.getElem?_map, Option.map_eq_some_iff] at hv
    obtain ⟨u, hu, rfl⟩ := hv
    exact hg _ _ (h.2 i u hu)⟩
theorem frzS_rel (hs : Sim φ I σ w) (n : Nat → Bool) {g : V → V} (ih : ∀ v c, Rel φ I w v c → Rel (cutPhi φ n) (frzI φ I σ n) w (g v) c) (v : V) (c : Value) (h : Rel φ I w v c) : Rel (cutPhi φ n) (frzI φ I σ n) w (frzS σ.H n g v) c := by
  have hcut : ∀ l x, n l = true → φ l = some x → cutPhi φ n l = some x := fun l x h e => by simp [cutPhi, h, e]
  have hI : ∀ b, I b → frzI φ I σ n b := fun b h => .inl h
  unfold frzS
  split
  · rename_i l off len
    split
    · rename_i hl; exact h.cut hcut hI (.slc _ _ _ hl)
    · rename_i hl
      split
      · rename_i z es hH
        split
        · rename_i hc
          cases h with
          | slc hφ hlc hN ha =>
            rename_i b base z' cap ad
            obtain ⟨b', base', arr, t', fz, e1, hhp, hfz, hpos, hzz, hsz, ho, hr⟩ := hs.row hH
            rw [hφ] at e1
            simp only [Option.some.injEq, Prod.mk.injEq] at e1
            obtain ⟨rfl, rfl, rfl⟩ := e1
            have hlen : (((es.drop off).take len).map (·.map g)).length = len := by simp; omega
            have hidx : ∀ i j, i < len → j < z' → base + off * z' + i * z' + j = base + (off + i) * z' + j := fun i j _ _ => by rw [Nat.add_mul]; omega
            have hlt : ∀ i j, i < len → j < z' → base + (off + i) * z' + j < arr.size := fun i j hi hj => by have := mul_lt_of (z := z') (show off + i < es.length by omega) hj; omega
            refine cast (by rw [hlen]) (Rel.islc (φ := cutPhi φ n) (I := frzI φ I σ n) (w := w) (z := z') (es := ((es.drop off).take len).map (·.map g)) (b := b) (o := base + off * z') (cap := cap) (a := ad)
              (cs := fun i j => arr.getD (base + (off + i) * z' + j) undef) (by omega) (fun hne => ⟨ha (fun e0 => ?_), .inr ⟨l, _, by simpa using hl, by rw [hH]; rfl, hφ, rfl⟩⟩) (fun e he => ?_) (fun i j hi hj => ?_) (fun i j hi hj => ho _ _ (by rw [hlen] at hi; omega) hj) hc.2 (fun i j e v h1 h2 => ?_))
            · have : len = 0 := by omega
              exact hne (List.length_eq_zero_iff.1 (by rw [hlen]; exact this))
            · simp only [List.mem_map] at he
              obtain ⟨e', he', rfl⟩ := he
              rw [List.length_map]
              exact hzz _ (List.mem_of_mem_drop (List.mem_of_mem_take he'))
            · rw [hlen] at hi
              rw [hidx i j hi hj]
              have := hlt i j hi hj
              simp [World.cell?, hhp, this]
            · simp only [List.getElem?_map, Option.map_eq_some_iff] at h1
              obtain ⟨e', he', rfl⟩ := h1
              simp only [List.getElem?_map, Option.map_eq_some_iff] at h2
              obtain ⟨v', hv', rfl⟩ := h2
              simp only [List.getElem?_take] at he'
              split at he'
              · rw [List.getElem?_drop] at he'
                exact ih _ _ (hr _ _ _ _ he' hv')
              · simp at he'
        · exact .any _
      · exact .any _
  · rename_i l i j
    split
    · rename_i hl; exact h.cut hcut hI (.ptr _ _ _ hl)
    · rename_i hl
      split
      · rename_i z es hH
        split
        · rename_i e he
          split
          · rename_i hc
            cases h with
            | ptr i j hφ =>
              rename_i b base z'
              obtain ⟨b', base', arr, t', fz, e1, hhp, hfz, hpos, hzz, hsz, ho, hr⟩ := hs.row hH
              rw [hφ] at e1
              simp only [Option.some.injEq, Prod.mk.injEq] at e1
              obtain ⟨rfl, rfl, rfl⟩ := e1
              have hil := (List.getElem?_eq_some_iff.1 he).1
              have hel := hzz e (List.mem_of_getElem? he)
              refine .iptr (o := base + i * z') (cs := fun k => arr.getD (base + i * z' + k) undef) j (.inr ⟨l, _, by simpa using hl, by rw [hH]; rfl, hφ, rfl⟩) (fun q hq => ?_) (fun q hq => ho _ _ hil (by simpa [hel] using hq)) hc (fun q v hv => ?_)
              · rw [List.length_map, hel] at hq
                have := mul_lt_of hil hq
                simp [World.cell?, hhp, show base + i * z' + q < arr.size by omega]
              · simp only [List.getElem?_map, Option.map_eq_some_iff] at hv
                obtain ⟨v', hv', rfl⟩ := hv
                exact ih _ _ (hr _ _ _ _ he hv')
          · exact .any _
        · exact .any _
      · exact .any _
  · rename_i l
    split
    · rename_i hl; exact h.cut hcut hI (.map _ hl)
    · exact .any _
  · cases h with
    | func fn h1 r1 h2 r2 =>
      obtain ⟨a1, a2⟩ := frz_map (σ := σ) (n := n) ⟨h1, r1⟩ ih
      obtain ⟨b1, b2⟩ := frz_map (σ := σ) (n := n) ⟨h2, r2⟩ ih
      exact .func _ a1 a2 b1 b2
  · rename_i t v
    cases h with
    | iface _ hv =>
      refine .iface t ?_
      split
      · cases hv with
        | agg h1 r1 =>
          obtain ⟨a1, a2⟩ := frz_map (σ := σ) (n := n) ⟨h1, r1⟩ ih
          exact .agg a1 a2
      · exact ih _ _ hv
  · exact .any _
  · exact .any _
  · rename_i h1 h2 h3 h4 h5 h6 h7
    cases h with
    | bool b => exact .bool b
    | int k n => exact .int k n
    | str h => exact .str h
    | nilp => exact .nilp
    | ptr i j h => exact (h2 _ _ _ rfl).elim
    | iptr j hb hcs ho hp hr => exact (Rel.iptr j hb hcs ho hp hr).cut hcut hI (.iptr _ _)
    | nils => exact .nils
    | slc => exact (h1 _ _ _ rfl).elim
    | islc hl' ha hz hcs ho hp hr => exact (Rel.islc hl' ha hz hcs ho hp hr).cut hcut hI (.islc _ _)
    | mapn => exact .mapn
    | map h => exact (h3 _ rfl).elim
    | func => exact (h4 _ _ _ rfl).elim
    | nilf => exact .nilf
    | iface => exact (h5 _ _ rfl).elim
    | nili => exact .nili
    | agg => exact (h6 _ rfl).elim
    | tup => exact (h7 _ rfl).elim
    | any c => exact .any c
theorem frzC_rel (hs : Sim φ I σ w) (n : Nat → Bool) : ∀ (k : Nat) (v : V) (c : Value), Rel φ I w v c → Rel (cutPhi φ n) (frzI φ I σ n) w (frzC σ.H n k v) c
  | 0, v, c, h => by
    unfold frzC
    split
    · rename_i hp; exact h.cut (fun l x (h : n l = true) e => by simp [cutPhi, h, e]) (fun b h => .inl h) (pure_lt hp)
    · exact .any _
  | k + 1, v, c, h => frzS_rel hs n (frzC_rel hs n k) v c h
theorem frzA_rel (hs : Sim φ I σ w) (n : Nat → Bool) {v : V} {c : Value} (h : Rel φ I w v c) : Rel (cutPhi φ n) (frzI φ I σ n) w (frzA σ.H n v) c := by
  unfold frzA
  split
  · cases h with
    | agg h1 r1 =>
      obtain ⟨a1, a2⟩ := frz_map (σ := σ) (n := n) ⟨h1, r1⟩ (frzC_rel hs n 4)
      exact .agg a1 a2
  · exact frzC_rel hs n 4 _ _ h
theorem frzV_rel (hs : Sim φ I σ w) (n : Nat → Bool) {v : V} {c : Value} (h : Rel φ I w v c) : Rel (cutPhi φ n) (frzI φ I σ n) w (frzV σ.H n v) c := by
  unfold frzV
  split
  · cases h with
    | agg h1 r1 =>
      obtain ⟨a1, a2⟩ := frz_map (σ := σ) (n := n) ⟨h1, r1⟩ (frzC_rel hs n 4)
      exact .agg a1 a2
  · cases h with
    | tup h1 r1 =>
      obtain ⟨a1, a2⟩ := frz_map (σ := σ) (n := n) ⟨h1, r1⟩ (fun v c h => frzA_rel hs n h)
      exact .tup a1 a2
  · exact frzC_rel hs n 4 _ _ h
theorem BlkRel.cut {n : Nat → Bool} (hφ : ∀ l x, n l = true → φ l = some x → φ' l = some x) (hI : ∀ b, I b → I' b) {b : Blk} {x : Nat × Nat × Nat} (h : BlkRel φ I w b x) (hl : BLt n b) : BlkRel φ' I' w b x := by
  cases h with
  | row hh hfz hpos hz hsz ho hr => exact .row hh hfz hpos hz hsz ho (fun i j e v h1 h2 => (hr i j e v h1 h2).cut hφ hI (hl e (List.mem_of_getElem? h1) v (List.mem_of_getElem? h2)))
  | map hh hn hr => exact .map hh hn (fun i kv e h1 h2 => ⟨(hr i kv e h1 h2).1.cut hφ hI (hl kv (List.mem_of_getElem? h1)).1, (hr i kv e h1 h2).2.cut hφ hI (hl kv (List.mem_of_getElem? h1)).2⟩)
  | lp hh hr => exact .lp hh hr
theorem Sim.blt (hs : Sim φ I σ w) {n : Nat → Bool} (hn : ∀ l, l < σ.n → n l = true) {l : Nat} {b : Blk} (h : σ.H l = some b) : BLt n b := by
  obtain ⟨x, _, hb⟩ := hs.live _ _ h
  have hd : ∀ l x, φ l = some x → n l = true := fun l x h => hn l (hs.dom l x h)
  cases hb with
  | row hh hfz hpos hz hsz ho hr => exact fun e he v hv => by obtain ⟨i, hi⟩ := mem_get he; obtain ⟨j, hj⟩ := mem_get hv; exact (hr i j e v hi hj).lt hd
  | map hh hn hr =>
    intro kv hkv
    obtain ⟨i, hi⟩ := mem_get hkv
    obtain ⟨hlt, _⟩ := List.getElem?_eq_some_iff.1 hi
    rw [← hn] at hlt
    have := hr i kv _ hi (Array.getElem?_eq_getElem hlt)
    exact ⟨this.1.lt hd, this.2.lt hd⟩
  | lp hh hr => trivial
theorem BlkRel.frz {n : Nat → Bool} (hs : Sim φ I σ w) {b : Blk} {x : Nat × Nat × Nat} (h : BlkRel φ I w b x) : BlkRel (cutPhi φ n) (frzI φ I σ n) w (frzB σ.H n b) x := by
  cases h with
  | row hh hfz hpos hz hsz ho hr =>
    refine .row hh hfz hpos (fun e he => ?_) (by simpa using hsz) (fun i j hi hj => ho i j (by simpa using hi) hj) (fun i j e v h1 h2 => ?_)
    · obtain ⟨e', he', rfl⟩ := List.mem_map.1 he
      simpa using hz e' he'
    · simp only [List.getElem?_map, Option.map_eq_some_iff] at h1
      obtain ⟨e', he', rfl⟩ := h1
      simp only [List.getElem?_map, Option.map_eq_some_iff] at h2
      obtain ⟨v', hv', rfl⟩ := h2
      exact frzC_rel hs n 4 _ _ (hr _ _ _ _ he' hv')
  | map hh hn hr =>
    refine .map hh (by simpa using hn) fun i kv e h1 h2 => ?_
    simp only [List.getElem?_map, Option.map_eq_some_iff] at h1
    obtain ⟨kv', hk', rfl⟩ := h1
    exact ⟨frzC_rel hs n 4 _ _ (hr i kv' e hk' h2).1, frzC_rel hs n 4 _ _ (hr i kv' e hk' h2).2⟩
  | lp hh hr => exact .lp hh hr
theorem ccalls_base {k : FuncId} {vs : List V} {R : CO → St → Prop} (h : CCalls P k vs σ R) : CCalls P k vs σ fun o σ' => R o σ' ∧ σ'.W = σ.W := fun φ I w cs hs ha =>
  (h φ I w cs hs ha).mono fun e w' ⟨o, σ', φ', I', h1, h2, h3, h4⟩ => ⟨o, σ', φ', I', ⟨h1, h3.base⟩, h2, h3, h4⟩
/-- What a call left behind is told anew. -/
theorem ccalls_frz {k : FuncId} {vs : List V} {R : CO → St → Prop} (h : CCalls P k vs σ fun o σ' => ∃ n m, (∀ l, l < σ.n → n l = true) ∧ (∀ l, n l = true → l < m) ∧ R (frzO σ'.H n o) (σ.frz σ' n m)) : CCalls P k vs σ R := by
  intro φ I w cs hs ha
  refine (h φ I w cs hs ha).mono fun e w' ⟨o, σ', φ', I', ⟨n, m, h1, h2, hR⟩, h3, h4, h5⟩ => ?_
  have hcut : ∀ l x, n l = true → φ' l = some x → cutPhi φ' n l = some x := fun l x h e => by simp [cutPhi, h, e]
  have hph : ∀ l x, cutPhi φ' n l = some x → n l = true ∧ φ' l = some x := fun l x h => by
    simp only [cutPhi] at h
    split at h
    · rename_i hl; exact ⟨hl, h⟩
    · simp at h
  have hnone : ∀ l, ¬ n l = true → σ.H l = none := fun l hl => by
    cases hb : σ.H l with
    | none => rfl
    | some b => obtain ⟨x, hx, _⟩ := hs.live l b hb; exact absurd (h1 l (hs.dom l x hx)) hl
  have hH : ∀ l, ((σ.frz σ' n m).H l).isSome = true → n l = true ∧ (σ'.H l).isSome = true := fun l h => by
    simp only [St.frz] at h
    split at h
    · rename_i hl
      split at h
      · rename_i he; exact ⟨hl, by rw [he]; exact h⟩
      · exact ⟨hl, by simpa using h⟩
    · rename_i hl; rw [hnone l hl] at h; simp at h
  have hlive : ∀ b, Live (cutPhi φ' n) (σ.frz σ' n m) b → Live φ' σ' b := fun b ⟨l, x, h6, h7, h8⟩ => ⟨l, x, (hH l h6).2, (hph l x h7).2, h8⟩
  refine ⟨_, _, cutPhi φ' n, frzI φ' I' σ' n, hR, ?_, ⟨fun l x hx => hcut l x (h1 l (hs.dom l x hx)) (h4.phi l x hx), fun b hb => .inl (h4.imm b hb), fun b hb => ?_, fun b hb => h4.liveNew b (hlive b hb), h4.size, h4.shape, h4.frame, h4.os, h4.tape, h4.output, h4.base, h4.loops⟩,
    ⟨fun l x h => h2 l (hph l x h).1, fun l x h => h5.blk l x (hph l x h).2, fun l b hl => ?_, fun b hl hi => ?_, fun l l' x x' g1 g2 g3 g4 he => h5.inj l l' x x' (hH l g1).2 (hH l' g2).2 (hph l x g3).2 (hph l' x' g4).2 he, fun b h => ?_, fun b h => ⟨.inl (h5.base b h).1, (h5.base b h).2⟩⟩⟩
  · cases h3 with
    | ret hv => exact .ret (frzV_rel h5 _ hv)
    | panic hv => exact .panic (frzV_rel h5 _ hv)
  · rcases hb with hb | ⟨l, x, _, h6, h7, rfl⟩
    · exact h4.immNew b hb
    · exact .inr (h4.liveNew _ ⟨l, x, h6, h7, rfl⟩)
  · obtain ⟨hl1, hl2⟩ := hH l (by rw [hl]; rfl)
    simp only [St.frz, if_pos hl1] at hl
    split at hl
    · rename_i heq
      obtain ⟨x, hx, hbr⟩ := h5.live l b (by rw [heq]; exact hl)
      exact ⟨x, hcut l x hl1 hx, hbr.cut hcut (fun b h => .inl h) (hs.blt h1 hl)⟩
    · obtain ⟨b', hb', rfl⟩ := Option.map_eq_some_iff.1 hl
      obtain ⟨x, hx, hbr⟩ := h5.live l b' hb'
      exact ⟨x, hcut l x hl1 hx, hbr.frz h5⟩
  · obtain ⟨l, x, g1, g2, rfl⟩ := hl
    rcases hi with hi | ⟨l', x', h6, h7, h8, h9⟩
    · exact h5.notI _ ⟨l, x, (hH l g1).2, (hph l x g2).2, rfl⟩ hi
    · have := h5.inj l l' x x' (hH l g1).2 h7 (hph l x g2).2 h8 h9.symm
      subst this
      rw [(hH l g1).1] at h6
      simp at h6
  · rcases h with h | ⟨l, x, _, _, h, rfl⟩
    · exact h5.imm b h
    · exact h5.blk l x h
theorem frz_same {σ σ' : St} (hH : ∀ l, l < σ.n → σ'.H l = σ.H l) (hW : σ'.W = σ.W) : σ.frz σ' (fun l => decide (l < σ.n)) σ.n = σ := by
  cases σ with
  | mk H n W =>
    simp only [St.frz, St.mk.injEq, true_and]
    refine ⟨?_, hW⟩
    funext l
    by_cases hl : l < n
    · simp [hl, hH l hl]
    · simp [hl]
/-- A row that was there is turned; the new ones are told whole. -/
theorem frz_set {σ σ' : St} {p : Nat} {b : Blk} (hp : p < σ.n) (hb : (σ'.H p).map (frzB σ'.H fun l => decide (l < σ.n)) = some b) (hH : ∀ l, l < σ.n → l ≠ p → σ'.H l = σ.H l) (hW : σ'.W = σ.W) (hb' : σ'.H p = σ.H p → σ.H p = some b) :
    σ.frz σ' (fun l => decide (l < σ.n)) σ.n = σ.set p b := by
  cases σ with
  | mk H n W =>
    simp only [St.frz, St.set, St.mk.injEq, true_and]
    refine ⟨?_, hW⟩
    funext l
    by_cases e : l = p
    · subst e
      simp only [upd, if_pos rfl]
      simp only [show l < n from hp, decide_true, if_true]
      split
      · rename_i h; exact hb' h
      · exact hb
    · simp only [upd, if_neg e]
      by_cases hl : l < n
      · simp [hl, hH l hl e]
      · simp [hl]
end
end Go.Proofs.Yticpkoakbneefaa.Ab
