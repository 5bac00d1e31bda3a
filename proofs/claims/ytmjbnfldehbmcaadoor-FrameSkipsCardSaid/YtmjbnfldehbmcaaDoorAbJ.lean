/-
The walk over the program's texts, told with what its values say: a part of it. No further condition.
-/
import Derived.Test.YtmjbnfldehbmcaaDoorAbI
namespace Go.Proofs.YtmjbnfldehbmcaaDoor.Ab
open Go.RowKit
set_option linter.unusedVariables false
set_option linter.unusedSimpArgs false
/-- Where a result lies: in a temporary, or in a variable. -/
inductive RC where
  | t (n : Nat)
  | c (n : Nat) (k : Option Nat)
structure CF where
  nt : Nat
  res : List RC
  body : C
def cRes (P : Program) (nt : Nat) : ResultVar → Option RC
  | .tmp t => if t < nt then some (.t t) else none
  | .cell a t => if a < nt then (P.underlying t).bind fun d => if isAggD d = true then (sizeD P t).map fun n => .c a (some n) else some (.c a none) else none
def compF (pl : Program → Nat → Array Oper → Option Plan) (P : Program) (k : FuncId) : Option CF :=
  (P.funcs[k]?).bind fun fn => fn.body.bind fun b => (compC pl P fn.ntmps b).bind fun c => (fn.results.toList.mapM (cRes P fn.ntmps)).map fun rs => ⟨fn.ntmps, rs, c⟩
def resV (env : Env) (σ : St) : RC → Option V
  | .t n => some (env n)
  | .c n none => (evI env σ (.ld (.t n))).map (·.1)
  | .c n (some k) => (evI env σ (.lda k (.t n))).map (·.1)
def resL (env : Env) (σ : St) : List RC → Option (List V)
  | [] => some []
  | r :: rs => (resV env σ r).bind fun v => (resL env σ rs).map (v :: ·)
def one : List V → V
  | [v] => v
  | vs => .tup vs
def retV (rs : List RC) (env : Env) (σ : St) : Option V := (resL env σ rs).map one
def envOf (vs : List V) : Env := fun t => vs.getD t (.tup [])
def Post (rs : List RC) (R : CO → St → Prop) (x : AX) (f : Fr) (σ : St) : Prop :=
  match x with
  | .normal | .ret => f.ds = [] ∧ ∃ v, retV rs f.env σ = some v ∧ R (.ret v) σ
  | .panic v => f.ds = [] ∧ R (.panic v) σ
  | .exit _ => False
section
variable {pl : Program → Nat → Array Oper → Option Plan} {P : Program} {φ φ' : Phi} {I I' : Nat → Prop} {σ σ' : St} {w w' : World} {nt : Nat} {f : Fr} {a : Act} {Q : AX → Fr → St → Prop}
theorem res_run (hs : Sim φ I σ w) (hf : EnvR φ I w nt f.env a) {r : ResultVar} {rc : RC} (hc : cRes P nt r = some rc) {v : V} (h : resV f.env σ rc = some v) :
    ∃ c, (match r with | .tmp t => (pure (a.tmps.getD t undef) : Sem Value) | .cell x t => do loadVar t (← asAddr (a.tmps.getD x undef))).run P w = .ok c w ∧ Rel φ I w v c := by
  have ld : ∀ (t : TypeId) (n : Nat), n < nt → ∀ (o : Oper), o = ⟨none, .load t (.tmp n), 0, "", #[], none⟩ → Quiet P φ I w a o v → ∃ c, (do loadVar t (← asAddr (a.tmps.getD n undef)) : Sem Value).run P w = .ok c w ∧ Rel φ I w v c := fun t n _ o ho hq => by
    subst ho
    obtain ⟨c, h1, h2⟩ := hq
    refine ⟨c, ?_, h2⟩
    simp only [execOp, Instr.loadAt, Act.eval] at h1
    rw [Sem.run_bind] at h1 ⊢
    rw [Sem.run_bind] at h1
    generalize a.tmps.getD n undef = x at h1 ⊢
    cases x <;> simp [Instr.sureAddr, asAddr] at h1 ⊢
    rename_i p
    cases p
    · simp [Instr.sureAddr] at h1
    · simp [Instr.sureAddr] at h1 ⊢
      generalize (loadVar t _).run P w = R at h1 ⊢
      cases R <;> simp at h1 ⊢
      exact h1
  cases r with
  | tmp t =>
    simp only [cRes] at hc
    split at hc <;> simp at hc
    rename_i hlt
    subst hc
    simp only [resV, Option.some.injEq] at h
    subst h
    exact ⟨_, rfl, hf t hlt⟩
  | cell x t =>
    simp only [cRes] at hc
    split at hc <;> simp only [Option.bind_eq_some_iff, reduceCtorEq] at hc
    rename_i hlt
    obtain ⟨d, hd, hc⟩ := hc
    split at hc
    · rename_i hag
      simp only [Option.map_eq_some_iff] at hc
      obtain ⟨n, hn, rfl⟩ := hc
      simp only [resV, Option.map_eq_some_iff] at h
      obtain ⟨⟨v', σ'⟩, he, rfl⟩ := h
      exact ld t x hlt _ rfl (quiet_lda (o := ⟨none, .load t (.tmp x), 0, "", #[], none⟩) rfl hd hag hn hs hf (x := .tmp x) (by simp [cOpd, hlt]) he).2
    · rename_i hag
      simp only [Option.some.injEq] at hc
      subst hc
      simp only [resV, Option.map_eq_some_iff] at h
      obtain ⟨⟨v', σ'⟩, he, rfl⟩ := h
      exact ld t x hlt _ rfl (quiet_ld (o := ⟨none, .load t (.tmp x), 0, "", #[], none⟩) rfl hd (by simpa using hag) hs hf (x := .tmp x) (by simp [cOpd, hlt]) he).2
theorem resL_run (hs : Sim φ I σ w) (hf : EnvR φ I w nt f.env a) : ∀ (l : List ResultVar) (rs : List RC) (vs : List V), l.mapM (cRes P nt) = some rs → resL f.env σ rs = some vs →
    ∃ cs : List Value, (l.mapM (m := Sem) fun | .tmp t => (pure (a.tmps.getD t undef) : Sem Value) | .cell x t => do loadVar t (← asAddr (a.tmps.getD x undef))).run P w = .ok cs w ∧ cs.length = vs.length ∧ ∀ i v, vs[i]? = some v → Rel φ I w v (cs.getD i undef)
  | [], rs, vs, hc, h => by
    simp at hc; subst hc
    simp only [resL, Option.some.injEq] at h; subst h
    exact ⟨[], by simp, rfl, fun i v h => by simp at h⟩
  | r :: l, rs, vs, hc, h => by
    rw [List.mapM_cons] at hc
    simp only [Option.bind_eq_bind, Option.bind_eq_some_iff, Option.pure_def, Option.some.injEq] at hc
    obtain ⟨rc, hrc, rs', hrs, rfl⟩ := hc
    simp only [resL, Option.bind_eq_some_iff, Option.map_eq_some_iff] at h
    obtain ⟨v, hv, vs', hvs, rfl⟩ := h
    obtain ⟨c, h1, h2⟩ := res_run hs hf hrc hv
    obtain ⟨cs, h3, h4, h5⟩ := resL_run hs hf l rs' vs' hrs hvs
    refine ⟨c :: cs, ?_, by simp [h4], fun i u hu => ?_⟩
    · rw [List.mapM_cons, Sem.run_bind]
      have h1' := h1
      erw [h1']
      simp only [Result.andThen_ok, Sem.run_bind]
      erw [h3]
      rfl
    · cases i with
      | zero => simp at hu; subst hu; simpa using h2
      | succ i => simpa using h5 i u (by simpa using hu)
theorem ret_run {fn : Func} {rs : List RC} (hs : Sim φ I σ w) (hf : EnvR φ I w nt f.env a) (hc : fn.results.toList.mapM (cRes P nt) = some rs) {v : V} (h : retV rs f.env σ = some v) :
    ∃ c, (results fn a.tmps).run P w = .ok c w ∧ Rel φ I w v c := by
  simp only [retV, Option.map_eq_some_iff] at h
  obtain ⟨vs, hvs, rfl⟩ := h
  obtain ⟨cs, h1, h2, h3⟩ := resL_run hs hf _ rs vs hc hvs
  have hm : (fn.results.mapM (m := Sem) fun | .tmp t => (pure (a.tmps.getD t undef) : Sem Value) | .cell x t => do loadVar t (← asAddr (a.tmps.getD x undef))).run P w = .ok cs.toArray w := by
    rw [Array.mapM_eq_mapM_toList]
    simp only [Functor.map]
    rw [show ∀ (x : Sem (List Value)), (Sem.bind x (Sem.pure ∘ List.toArray)).run P w = _ from fun x => Sem.run_bind' P x _ w]
    erw [h1]
    rfl
  unfold results
  rw [Sem.run_bind]
  erw [hm]
  simp only [Result.andThen_ok, Sem.run_pure]
  refine ⟨_, rfl, ?_⟩
  match vs, cs, h2, h3 with
  | [], [], _, h3 => exact .tup rfl (fun i v h => by simp at h)
  | [v], [c], _, h3 => simpa [one] using h3 0 v rfl
  | v :: v2 :: vs, c :: c2 :: cs, h2, h3 =>
    simp only [one]
    rw [dif_neg (by simp)]
    exact .tup (by simpa using h2) (fun i u hu => by simpa using h3 i u hu)
theorem enter_rel {vs : List V} {cs : Array Value} (h : RelA φ I w vs cs) (hl : vs.length ≤ nt) : RelF nt φ I w ⟨envOf vs, []⟩ { tmps := cs ++ Array.replicate (nt - cs.size) undef, defers := [] } := by
  refine ⟨by simp [h.1]; omega, fun t ht => ?_, trivial⟩
  simp only [envOf, Array.getD_eq_getD_getElem?]
  by_cases hi : t < vs.length
  · rw [Array.getElem?_append_left (by rw [h.1]; exact hi)]
    have := h.2 t vs[t] (List.getElem?_eq_getElem hi)
    simpa [hi] using this
  · rw [Array.getElem?_append_right (by rw [h.1]; omega)]
    have : t - cs.size < nt - cs.size := by rw [h.1]; omega
    simp [hi, this]
    exact .tup rfl (fun i v h => by simp at h)
/-- A function's contract, by its code. -/
theorem ccalls_of {k : FuncId} {cf : CF} {vs : List V} {R : CO → St → Prop} (hcf : compF pl P k = some cf) (hl : vs.length ≤ cf.nt) (h : CWof pl P cf.nt cf.body ⟨envOf vs, []⟩ σ (Post cf.res R)) : CCalls P k vs σ R := by
  intro φ I w cs hs ha
  simp only [compF, Option.bind_eq_some_iff, Option.map_eq_some_iff] at hcf
  obtain ⟨fn, hfn, b, hb, c, hc, rs, hrs, rfl⟩ := hcf
  refine calls_of_wp hfn hb (wp_mono (h b hc φ I w _ hs (enter_rel ha hl)) fun e a' w' hl => ?_)
  obtain ⟨x, f', σ', φ', I', h1, h2, h3, h4, h5⟩ := hl
  have hd : f'.ds = [] → a'.defers = [] := fun e => by
    have := h5.ds
    rw [e] at this
    cases hh : a'.defers with
    | nil => rfl
    | cons d ds => rw [hh] at this; exact this.elim
  have hret : (f'.ds = [] ∧ ∃ v, retV rs f'.env σ' = some v ∧ R (.ret v) σ') → a'.defers = [] ∧ ∃ v, (results fn a'.tmps).run P w' = .ok v w' ∧ ∃ o σ'' φ' I', R o σ'' ∧ RelO φ' I' w' o (.returned v) ∧ Evo φ I σ w φ' I' σ'' w' ∧ Sim φ' I' σ'' w' := fun ⟨e, v, hv, hR⟩ => by
    obtain ⟨c, hc1, hc2⟩ := ret_run h4 h5.env hrs hv
    exact ⟨hd e, c, hc1, _, _, _, _, hR, .ret hc2, h3, h4⟩
  cases h2 with
  | normal => exact hret h1
  | ret => exact hret h1
  | exit id => exact h1.elim
  | panic hv => exact ⟨hd h1.1, _, _, _, _, h1.2, .panic hv, h3, h4⟩
end
end Go.Proofs.YtmjbnfldehbmcaaDoor.Ab
