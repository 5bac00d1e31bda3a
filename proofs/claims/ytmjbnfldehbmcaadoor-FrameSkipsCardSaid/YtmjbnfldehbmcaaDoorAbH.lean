/-
The walk over the program's texts, told with what its values say: a part of it. No further condition.
-/
import Derived.Test.YtmjbnfldehbmcaaDoorAbG
namespace Go.Proofs.YtmjbnfldehbmcaaDoor.Ab
open Go.RowKit
set_option linter.unusedVariables false
set_option linter.unusedSimpArgs false
/-- How a call ends. -/
inductive CO where
  | ret (v : V)
  | panic (v : V)
/-- How a piece of code ends. -/
inductive AX where
  | normal
  | exit (id : Nat)
  | ret
  | panic (v : V)
/-- A call put off. -/
structure AD where
  fn : Fn
  cap : List V
  args : List V
structure Fr where
  env : Env
  ds : List AD
def Fr.put (f : Fr) (d : Option Nat) (v : V) : Fr := { f with env := f.env.put d v }
inductive RelO (φ : Phi) (I : Nat → Prop) (w : World) : CO → Ending → Prop where
  | ret {v : V} {c : Value} (h : Rel φ I w v c) : RelO φ I w (.ret v) (.returned c)
  | panic {v : V} {c : Value} (h : Rel φ I w v c) : RelO φ I w (.panic v) (.panicked [{ v := c, recovered := false }])
inductive RelX (φ : Phi) (I : Nat → Prop) (w : World) : AX → Exit → Prop where
  | normal : RelX φ I w .normal .normal
  | exit (id : Nat) : RelX φ I w (.exit id) (.exit id)
  | ret : RelX φ I w .ret .ret
  | panic {v : V} {c : Value} (h : Rel φ I w v c) : RelX φ I w (.panic v) (.panic [{ v := c, recovered := false }])
structure RelD (φ : Phi) (I : Nat → Prop) (w : World) (d : AD) (c : Deferred) : Prop where
  tar : ∃ cs, c.target = .fn d.fn cs ∧ RelA φ I w d.cap cs
  args : RelA φ I w d.args c.args
def RelDs (φ : Phi) (I : Nat → Prop) (w : World) : List AD → List Deferred → Prop
  | [], [] => True
  | d :: ds, c :: cs => RelD φ I w d c ∧ RelDs φ I w ds cs
  | _, _ => False
structure RelF (nt : Nat) (φ : Phi) (I : Nat → Prop) (w : World) (f : Fr) (a : Act) : Prop where
  size : a.tmps.size = nt
  env : EnvR φ I w nt f.env a
  ds : RelDs φ I w f.ds a.defers
/-- A call's contract. -/
def CCalls (P : Program) (k : FuncId) (vs : List V) (σ : St) (R : CO → St → Prop) : Prop :=
  ∀ (φ : Phi) (I : Nat → Prop) (w : World) (cs : Array Value), Sim φ I σ w → RelA φ I w vs cs →
    Calls P k cs w fun e w' => ∃ o σ' φ' I', R o σ' ∧ RelO φ' I' w' o e ∧ Evo φ I σ w φ' I' σ' w' ∧ Sim φ' I' σ' w'
theorem CCalls.mono {P : Program} {k : FuncId} {vs : List V} {σ : St} {R R' : CO → St → Prop} (h : CCalls P k vs σ R) (hr : ∀ o σ', R o σ' → R' o σ') : CCalls P k vs σ R' :=
  fun φ I w cs hs ha => (h φ I w cs hs ha).mono fun e w' ⟨o, σ', φ', I', h1, h2⟩ => ⟨o, σ', φ', I', hr _ _ h1, h2⟩
/-- What a piece of code brings about. -/
def Lift (nt : Nat) (Q : AX → Fr → St → Prop) (φ : Phi) (I : Nat → Prop) (σ : St) (w : World) : Exit → Act → World → Prop := fun e a' w' =>
  ∃ x f' σ' φ' I', Q x f' σ' ∧ RelX φ' I' w' x e ∧ Evo φ I σ w φ' I' σ' w' ∧ Sim φ' I' σ' w' ∧ RelF nt φ' I' w' f' a'
structure RI where
  dst : Option Nat
  guard : Option (Nat × Bool)
  ins : Ins
def wantG (env : Env) : Option (Nat × Bool) → Option Bool
  | none => some true
  | some (d, b) => match env d with
    | .bool t => some (t == b)
    | .tup [] => some false
    | _ => none
def evs (env : Env) (as : List Opd) : List V := as.map (·.ev env)
/-- An operation, in the text's order. -/
def rwp1 (P : Program) (Q : AX → Fr → St → Prop) (K : Fr → St → Prop) (r : RI) (f : Fr) (σ : St) : Prop :=
  match wantG f.env r.guard with
  | none => False
  | some false => K (f.put r.dst (.tup [])) σ
  | some true => match r.ins with
    | .call k as => CCalls P k (evs f.env as) σ fun o σ' => match o with
      | .ret v => K (f.put r.dst v) σ'
      | .panic v => Q (.panic v) f σ'
    | .callv g as => match g.ev f.env with
      | .func (.func k) first cap => hasBody P k = true ∧ CCalls P k (first ++ evs f.env as ++ cap) σ fun o σ' => match o with
        | .ret v => K (f.put r.dst v) σ'
        | .panic v => Q (.panic v) f σ'
      | _ => False
    | .defer g as => match g.ev f.env with
      | .func fn first cap => K ({ f with ds := ⟨fn, cap, first ++ evs f.env as⟩ :: f.ds }.put r.dst (.tup [])) σ
      | _ => False
    | .panic x => match x.ev f.env with
      | .iface t v => Q (.panic (.iface t v)) f σ
      | _ => False
    | .recover => False
    | ins => match evI f.env σ ins with
      | some (v, σ') => K (f.put r.dst v) σ'
      | none => False
def rwp (P : Program) (Q : AX → Fr → St → Prop) : List RI → Fr → St → Prop
  | [], f, σ => Q .normal f σ
  | r :: rs, f, σ => rwp1 P Q (rwp P Q rs) r f σ
def cGuard (nt : Nat) (ops : Array Oper) : Option (Nat × Bool) → Option (Option (Nat × Bool))
  | none => some none
  | some (j, b) => ((ops[j]?).bind (·.dst)).bind fun d => if d < nt then some (some (d, b)) else none
def cRI (P : Program) (nt : Nat) (ops : Array Oper) (o : Oper) : Option RI :=
  (cGuard nt ops o.guard).bind fun g => (compOp P nt o).map fun i => ⟨o.dst, g, i⟩
section
variable {P : Program} {φ φ' : Phi} {I I' : Nat → Prop} {σ σ' : St} {w w' : World} {nt : Nat} {f : Fr} {a : Act}
theorem RelA.evo {vs : List V} {cs : Array Value} (h : RelA φ I w vs cs) (hs : Sim φ I σ w) (he : Evo φ I σ w φ' I' σ' w') : RelA φ' I' w' vs cs := ⟨h.1, fun i v hv => (h.2 i v hv).evo hs he⟩
theorem RelDs.evo (hs : Sim φ I σ w) (he : Evo φ I σ w φ' I' σ' w') : ∀ {ds : List AD} {cs : List Deferred}, RelDs φ I w ds cs → RelDs φ' I' w' ds cs
  | [], [], _ => trivial
  | d :: ds, c :: cs, h => by
    obtain ⟨⟨x, h1, h2⟩, h3⟩ := h.1
    exact ⟨⟨⟨x, h1, h2.evo hs he⟩, h3.evo hs he⟩, RelDs.evo hs he h.2⟩
theorem RelF.evo (h : RelF nt φ I w f a) (hs : Sim φ I σ w) (he : Evo φ I σ w φ' I' σ' w') : RelF nt φ' I' w' f a := ⟨h.size, fun t ht => (h.env t ht).evo hs he, h.ds.evo hs he⟩
theorem RelF.put (h : RelF nt φ I w f a) {v : V} {c : Value} (hv : Rel φ I w v c) (d : Option Nat) : RelF nt φ I w (f.put d v) (a.put d c) := by
  cases d with
  | none => exact h
  | some d =>
    refine ⟨by simp [Act.put, h.size], fun t ht => ?_, h.ds⟩
    simp only [Fr.put, Env.put, Act.put]
    by_cases e : t = d
    · subst e
      rw [if_pos rfl]
      have : t < a.tmps.size := by rw [h.size]; exact ht
      simp [this, hv]
    · rw [if_neg e]
      have := h.env t ht
      simpa [Array.getElem?_setIfInBounds, Ne.symm e] using this
theorem want_ok {ops : Array Oper} {o : Oper} {g : Option (Nat × Bool)} (hg : cGuard nt ops o.guard = some g) (hf : RelF nt φ I w f a) {b : Bool} (h : wantG f.env g = some b) : Region.wanted o (yielded ops a.tmps) = b := by
  unfold Region.wanted
  cases hog : o.guard with
  | none =>
    rw [hog] at hg
    simp only [cGuard, Option.some.injEq] at hg
    subst hg
    simp only [wantG, Option.some.injEq] at h
    exact h
  | some jb =>
    obtain ⟨j, want⟩ := jb
    rw [hog] at hg
    simp only [cGuard, Option.bind_eq_some_iff] at hg
    obtain ⟨d, hd, hg⟩ := hg
    split at hg <;> simp at hg
    rename_i hlt
    subst hg
    have hr := hf.env d hlt
    have hsz : d < a.tmps.size := by rw [hf.size]; exact hlt
    have hget : a.tmps[d]? = some (a.tmps.getD d undef) := by simp [hsz]
    have hd' : (ops[j]?).bind (·.dst) = some d := by rw [Option.bind_eq_some_iff]; exact hd
    simp only [yielded, hd', Option.bind_some, hget]
    simp only [wantG] at h
    split at h
    · rename_i t ht
      rw [ht] at hr
      rw [hr.bool_inv]
      simp at h ⊢
      exact h
    · rename_i ht
      rw [ht] at hr
      generalize a.tmps.getD d undef = c at hr
      cases hr
      simp at h ⊢
      exact h
    · simp at h
theorem rels_of (hf : EnvR φ I w nt f.env a) {xs : Array Operand} {xs' : List Opd} (h : cOpds nt xs.toList = some xs') : RelA φ I w (evs f.env xs') (xs.map a.eval) := rels_map hf h
theorem RelA.append {vs us : List V} {cs ds : Array Value} (h : RelA φ I w vs cs) (k : RelA φ I w us ds) : RelA φ I w (vs ++ us) (cs ++ ds) := by
  refine ⟨by simp [h.1, k.1], fun i v hv => ?_⟩
  simp only [Array.getD_eq_getD_getElem?]
  by_cases hi : i < vs.length
  · rw [List.getElem?_append_left hi] at hv
    rw [Array.getElem?_append_left (by rw [h.1]; exact hi)]
    have := h.2 i v hv
    simpa only [Array.getD_eq_getD_getElem?] using this
  · rw [List.getElem?_append_right (by omega)] at hv
    rw [Array.getElem?_append_right (by rw [h.1]; omega), h.1]
    have := k.2 _ v hv
    simpa only [Array.getD_eq_getD_getElem?] using this
theorem run_callFunc {k : FuncId} {fn : Func} (hfn : P.funcs[k]? = some fn) (hb : fn.body.isSome = true) (hnm : fn.name ≠ "runtime.NumGoroutine") (args : Array Value) : (callFunc k args).run P w = .ok (.enter k args) w := by
  have h1 : fn.body.isNone = false := by cases h : fn.body <;> simp_all
  have h2 : (fn.name == "runtime.NumGoroutine") = false := by simpa using hnm
  unfold callFunc
  rw [Sem.run_bind, run_program]
  simp only [Result.andThen_ok, hfn, h2, Bool.false_eq_true, if_false, h1, Sem.run_pure]
theorem run_hasBody {k : FuncId} (h : hasBody P k = true) (args : Array Value) : (callFunc k args).run P w = .ok (.enter k args) w := by
  unfold hasBody at h
  cases hf : P.funcs[k]? with
  | none => rw [hf] at h; simp at h
  | some fn =>
    rw [hf] at h
    simp only [Option.any_some, Bool.and_eq_true, bne_iff_ne, ne_eq] at h
    exact run_callFunc hf h.1 h.2 args
theorem comp_call {o : Oper} {k : FuncId} {as : List Opd} (hc : compOp P nt o = some (.call k as)) :
    ∃ c, o.op = .call c ∧ c.callee = .value (.func k) ∧ cOpds nt c.args.toList = some as ∧ hasBody P k = true := by
  unfold compOp at hc
  split at hc
  · rename_i c ho
    split at hc
    · rename_i f hcal
      split at hc
      · rename_i hb
        obtain ⟨xs, hxs, e⟩ := Option.map_eq_some_iff.1 hc
        simp only [Ins.call.injEq] at e
        obtain ⟨rfl, rfl⟩ := e
        exact ⟨c, ho, hcal, hxs, hb⟩
      · simp at hc
    · obtain ⟨_, _, hc⟩ := Option.bind_eq_some_iff.1 hc
      obtain ⟨_, _, e⟩ := Option.map_eq_some_iff.1 hc
      simp at e
    · simp at hc
    · have := (plain_of hc).2; simp [Ins.plain] at this
  · split at hc
    · obtain ⟨_, _, hc⟩ := Option.bind_eq_some_iff.1 hc
      obtain ⟨_, _, e⟩ := Option.map_eq_some_iff.1 hc
      simp at e
    · simp at hc
  · obtain ⟨_, _, e⟩ := Option.map_eq_some_iff.1 hc
    simp at e
  · have := (plain_of hc).2; simp [Ins.plain] at this
theorem comp_callv {o : Oper} {g : Opd} {as : List Opd} (hc : compOp P nt o = some (.callv g as)) :
    ∃ c x, o.op = .call c ∧ c.callee = .value x ∧ cOpd nt x = some g ∧ cOpds nt c.args.toList = some as := by
  unfold compOp at hc
  split at hc
  · rename_i c ho
    split at hc
    · split at hc
      · obtain ⟨_, _, e⟩ := Option.map_eq_some_iff.1 hc
        simp at e
      · simp at hc
    · rename_i x _ hcal
      obtain ⟨x', hx, hc⟩ := Option.bind_eq_some_iff.1 hc
      obtain ⟨as', has, e⟩ := Option.map_eq_some_iff.1 hc
      simp only [Ins.callv.injEq] at e
      obtain ⟨rfl, rfl⟩ := e
      exact ⟨c, x, ho, hcal, hx, has⟩
    · simp at hc
    · have := (plain_of hc).2; simp [Ins.plain] at this
  · split at hc
    · obtain ⟨_, _, hc⟩ := Option.bind_eq_some_iff.1 hc
      obtain ⟨_, _, e⟩ := Option.map_eq_some_iff.1 hc
      simp at e
    · simp at hc
  · obtain ⟨_, _, e⟩ := Option.map_eq_some_iff.1 hc
    simp at e
  · have := (plain_of hc).2; simp [Ins.plain] at this
theorem comp_defer {o : Oper} {g : Opd} {as : List Opd} (hc : compOp P nt o = some (.defer g as)) :
    ∃ c x, o.op = .defer c ∧ c.callee = .value x ∧ cOpd nt x = some g ∧ cOpds nt c.args.toList = some as := by
  unfold compOp at hc
  split at hc
  · split at hc
    · split at hc
      · obtain ⟨_, _, e⟩ := Option.map_eq_some_iff.1 hc
        simp at e
      · simp at hc
    · obtain ⟨_, _, hc⟩ := Option.bind_eq_some_iff.1 hc
      obtain ⟨_, _, e⟩ := Option.map_eq_some_iff.1 hc
      simp at e
    · simp at hc
    · have := (plain_of hc).2; simp [Ins.plain] at this
  · rename_i c ho
    split at hc
    · rename_i x hcal
      obtain ⟨x', hx, hc⟩ := Option.bind_eq_some_iff.1 hc
      obtain ⟨as', has, e⟩ := Option.map_eq_some_iff.1 hc
      simp only [Ins.defer.injEq] at e
      obtain ⟨rfl, rfl⟩ := e
      exact ⟨c, x, ho, hcal, hx, has⟩
    · simp at hc
  · obtain ⟨_, _, e⟩ := Option.map_eq_some_iff.1 hc
    simp at e
  · have := (plain_of hc).2; simp [Ins.plain] at this
theorem comp_panic {o : Oper} {g : Opd} (hc : compOp P nt o = some (.panic g)) : ∃ x, o.op = .panic x ∧ cOpd nt x = some g := by
  unfold compOp at hc
  split at hc
  · split at hc
    · split at hc
      · obtain ⟨_, _, e⟩ := Option.map_eq_some_iff.1 hc
        simp at e
      · simp at hc
    · obtain ⟨_, _, hc⟩ := Option.bind_eq_some_iff.1 hc
      obtain ⟨_, _, e⟩ := Option.map_eq_some_iff.1 hc
      simp at e
    · simp at hc
    · have := (plain_of hc).2; simp [Ins.plain] at this
  · split at hc
    · obtain ⟨_, _, hc⟩ := Option.bind_eq_some_iff.1 hc
      obtain ⟨_, _, e⟩ := Option.map_eq_some_iff.1 hc
      simp at e
    · simp at hc
  · rename_i x ho
    obtain ⟨x', hx, e⟩ := Option.map_eq_some_iff.1 hc
    simp only [Ins.panic.injEq] at e
    subst e
    exact ⟨x, ho, hx⟩
  · have := (plain_of hc).2; simp [Ins.plain] at this
/-- An operation of the program does what its telling says. -/
theorem rwp1_ok {ops : Array Oper} {i : Nat} {o : Oper} {r : RI} {Q : AX → Fr → St → Prop} {K : Fr → St → Prop} {K' : Act → World → Prop} {φ0 : Phi} {I0 : Nat → Prop} {σ0 : St} {w0 : World}
    (ho : ops[i]? = some o) (hc : cRI P nt ops o = some r) (hs : Sim φ I σ w) (hf : RelF nt φ I w f a) (hb : Evo φ0 I0 σ0 w0 φ I σ w) (h : rwp1 P Q K r f σ)
    (hK : ∀ f' σ' φ' I' w' a', K f' σ' → Evo φ I σ w φ' I' σ' w' → Sim φ' I' σ' w' → RelF nt φ' I' w' f' a' → K' a' w') : wpOp P ops (Lift nt Q φ0 I0 σ0 w0) i K' a w := by
  simp only [cRI, Option.bind_eq_some_iff, Option.map_eq_some_iff] at hc
  obtain ⟨g, hg, ins, hins, rfl⟩ := hc
  unfold wpOp
  simp only [ho]
  have undefR : Rel φ I w (.tup []) undef := .tup rfl (fun i v h => by simp at h)
  have callK : ∀ (k : FuncId) (vs : List V) (cs : Array Value), RelA φ I w vs cs → CCalls P k vs σ (fun o' σ' => match o' with
      | .ret v => K (f.put o.dst v) σ'
      | .panic v => Q (.panic v) f σ') → (callFunc k cs).run P w = .ok (.enter k cs) w → (execOp a.eval o).run P w = .ok (.enter k cs) w → o.wp P a w K' (Lift nt Q φ0 I0 σ0 w0) := fun k vs cs hr hcall _ hex => by
    unfold Oper.wp
    rw [hex, Oper.upon_enter]
    refine (hcall φ I w cs hs hr).mono ?_
    rintro e w' ⟨o', σ', φ', I', hR, hO, hE, hS⟩
    cases hO with
    | ret hv => exact hK _ _ _ _ _ _ hR hE hS ((hf.evo hs hE).put hv o.dst)
    | panic hv => exact ⟨_, _, _, _, _, hR, .panic hv, hb.trans hE, hS, hf.evo hs hE⟩
  unfold rwp1 at h
  split at h
  · exact h.elim
  · rename_i hw
    rw [want_ok hg hf hw]
    exact hK _ _ _ _ _ _ h (Evo.refl _ _ _ _) hs (hf.put undefR o.dst)
  · rename_i hw
    rw [want_ok hg hf hw]
    simp only [if_true]
    refine .inl ?_
    simp only at h
    split at h
    · rename_i k as
      obtain ⟨c, hop, hcal, has, hbd⟩ := comp_call hins
      have hr := rels_of hf.env has
      refine callK k _ _ hr h (run_hasBody hbd _) ?_
      obtain ⟨dst, op', ty, pos, after, guard⟩ := o
      simp only at hop; subst hop
      obtain ⟨cal, args, ts⟩ := c
      simp only at hcal; subst hcal
      simp only [execOp, resolve, Act.eval, Deferred.ofValue, Sem.run_bind, Sem.run_pure, Result.andThen_ok, invoke, Array.append_empty]
      rw [show (#[] : Array Value) ++ Array.map a.eval args = Array.map a.eval args by simp]
      exact run_hasBody hbd _
    · rename_i g2 as
      obtain ⟨c, x, hop, hcal, hx, has⟩ := comp_callv hins
      split at h
      · rename_i k first cap hg2
        obtain ⟨hbd, h⟩ := h
        have hr := rels_of hf.env has
        have hgr := cOpd_rel hf.env hx
        rw [hg2] at hgr
        generalize hq : a.eval x = q at hgr
        cases hgr with
        | func _ h1 r1 h2 r2 =>
          rename_i fs cs
          have hr2 := RelA.append (RelA.append ⟨h1, r1⟩ hr) ⟨h2, r2⟩
          refine callK k _ _ hr2 h (run_hasBody hbd _) ?_
          obtain ⟨dst, op', ty, pos, after, guard⟩ := o
          simp only at hop; subst hop
          obtain ⟨cal, args, ts⟩ := c
          simp only at hcal; subst hcal
          simp only [execOp, resolve, hq, Deferred.ofValue, Sem.run_bind, Sem.run_pure, Result.andThen_ok, invoke]
          exact run_hasBody hbd _
      · exact h.elim
    · rename_i g2 as
      obtain ⟨c, x, hop, hcal, hx, has⟩ := comp_defer hins
      split at h
      · rename_i fn first cap hg2
        have hr := rels_of hf.env has
        have hgr := cOpd_rel hf.env hx
        rw [hg2] at hgr
        generalize hq : a.eval x = q at hgr
        cases hgr with
        | func _ h1 r1 h2 r2 =>
          rename_i fs cs
          unfold Oper.wp
          have hex : (execOp a.eval o).run P w = .ok (.defer { target := .fn fn cs, args := fs ++ Array.map a.eval c.args }) w := by
            obtain ⟨dst, op', ty, pos, after, guard⟩ := o
            simp only at hop; subst hop
            obtain ⟨cal, args, ts⟩ := c
            simp only at hcal; subst hcal
            simp only [execOp, resolve, hq, Deferred.ofValue, Sem.run_bind, Sem.run_pure, Result.andThen_ok]
          rw [hex, Oper.upon_defer]
          refine hK _ _ _ _ _ _ h (Evo.refl _ _ _ _) hs (RelF.put ?_ undefR o.dst)
          exact ⟨hf.size, hf.env, ⟨⟨⟨_, rfl, h2, r2⟩, RelA.append ⟨h1, r1⟩ hr⟩, hf.ds⟩⟩
      · exact h.elim
    · rename_i x
      obtain ⟨x', hop, hx⟩ := comp_panic hins
      split at h
      · rename_i t v hg2
        have hgr := cOpd_rel hf.env hx
        rw [hg2] at hgr
        generalize hq : a.eval x' = q at hgr
        have hgr' := hgr
        cases hgr with
        | iface _ hv =>
          rename_i c
          unfold Oper.wp
          have hex : (execOp a.eval o).run P w = .halt (.panic (.iface t c)) w := by
            obtain ⟨dst, op', ty, pos, after, guard⟩ := o
            simp only at hop; subst hop
            simp only [execOp, hq, Instr.panic, Sem.run_bind, run_goPanic, Result.andThen_halt]
          rw [hex, Oper.upon_panic]
          exact ⟨_, _, _, _, _, h, .panic hgr', hb, hs, hf⟩
      · exact h.elim
    · exact h.elim
    · split at h
      · rename_i v σ' he
        obtain ⟨⟨c, w', φ', I', hex, hv, hE, hS⟩, _⟩ := op_ok hins hs hf.env he
        unfold Oper.wp
        rcases hex with hex | ⟨hex, rfl⟩
        · rw [hex, Oper.upon_value]
          exact hK _ _ _ _ _ _ h hE hS ((hf.evo hs hE).put hv o.dst)
        · rw [hex, Oper.upon_skip]
          exact hK _ _ _ _ _ _ h hE hS ((hf.evo hs hE).put hv o.dst)
      · exact h.elim
end
end Go.Proofs.YtmjbnfldehbmcaaDoor.Ab
