/-
The walk over the program's texts, told with what its values say: a part of it. No further condition.
-/
import Derived.Test.YtmjbnfldehbmcaaDoorAbK
namespace Go.Proofs.YtmjbnfldehbmcaaDoor.Ab
open Go.RowKit
set_option linter.unusedVariables false
set_option linter.unusedSimpArgs false
/-! What an operation reads of the temporaries. -/
def Opd.ts : Opd → List Nat
  | .t i => [i]
  | .c _ => []
def oTs : Option Opd → List Nat
  | some x => x.ts
  | none => []
def lTs (xs : List Opd) : List Nat := xs.flatMap Opd.ts
def Ins.ts : Ins → List Nat
  | .mv x | .box x | .ld x | .lda _ x | .nilck x | .un _ x | .cvi _ x | .cvs x | .s2b x | .b2s x | .b2b x | .mki _ x | .fa _ x | .fld _ _ x | .tas _ _ _ x | .ext x _ | .slen x | .llen x | .panic x => x.ts
  | .pick c a b => c.ts ++ (a.ts ++ b.ts)
  | .new _ | .mkmap | .recover => []
  | .build _ ps => ps.flatMap fun p => p.2.2.ts
  | .bslice _ _ ps => ps.flatMap fun p => p.2.ts
  | .st _ a x | .bin _ a x | .beq _ a x | .nq _ _ a x | .eqa _ _ a x | .mksl _ _ a x | .ia _ a x | .aa _ _ a x | .sx a x | .app _ _ a x => a.ts ++ x.ts
  | .ssl x lo hi | .lsl _ x lo hi => x.ts ++ (oTs lo ++ oTs hi)
  | .mkf _ a b => lTs a ++ lTs b
  | .mm _ xs | .call _ xs => lTs xs
  | .callv f xs | .defer f xs => f.ts ++ lTs xs
def RI.ts (r : RI) : List Nat := (match r.guard with | some (t, _) => [t] | none => []) ++ r.ins.ts
section
variable {env env' : Env} {σ : St}
theorem ev_congr {x : Opd} (h : ∀ t ∈ x.ts, env t = env' t) : x.ev env = x.ev env' := by
  cases x with
  | t i => exact h i (by simp [Opd.ts])
  | c v => rfl
theorem evs_congr {xs : List Opd} (h : ∀ t ∈ lTs xs, env t = env' t) : xs.map (·.ev env) = xs.map (·.ev env') :=
  List.map_congr_left fun x hx => ev_congr fun t ht => h t (List.mem_flatMap.2 ⟨x, hx, ht⟩)
theorem bound_congr {d : Nat} {x : Option Opd} (h : ∀ t ∈ oTs x, env t = env' t) : bound env d x = bound env' d x := by
  cases x with
  | none => rfl
  | some x => simp only [bound, ev_congr (x := x) h]
theorem buildV_congr : ∀ {ps : List (Nat × Nat × Opd)} {z : List V}, (∀ t ∈ ps.flatMap (fun p => p.2.2.ts), env t = env' t) → buildV env z ps = buildV env' z ps
  | [], _, _ => rfl
  | (o, s, x) :: ps, z, h => by
    have h1 : x.ev env = x.ev env' := ev_congr fun t ht => h t (by simp [ht])
    simp only [buildV, h1]
    split
    · exact buildV_congr fun t ht => h t (by simp only [List.flatMap_cons, List.mem_append]; exact .inr ht)
    · rfl
theorem bsliceV_congr {z : Nat} : ∀ {ps : List (Nat × Opd)} {es : List (List V)}, (∀ t ∈ ps.flatMap (fun p => p.2.ts), env t = env' t) → bsliceV env z es ps = bsliceV env' z es ps
  | [], _, _ => rfl
  | (i, x) :: ps, es, h => by
    have h1 : x.ev env = x.ev env' := ev_congr fun t ht => h t (by simp [ht])
    simp only [bsliceV, h1]
    split
    · exact bsliceV_congr fun t ht => h t (by simp only [List.flatMap_cons, List.mem_append]; exact .inr ht)
    · rfl
theorem evI_congr {ins : Ins} (h : ∀ t ∈ ins.ts, env t = env' t) : evI env σ ins = evI env' σ ins := by
  have one : ∀ x : Opd, (∀ t ∈ x.ts, t ∈ ins.ts) → x.ev env = x.ev env' := fun x hx => ev_congr fun t ht => h t (hx t ht)
  have bd : ∀ (x : Option Opd) d, (∀ t ∈ oTs x, t ∈ ins.ts) → bound env d x = bound env' d x := fun x d hx => bound_congr fun t ht => h t (hx t ht)
  have ls : ∀ xs : List Opd, (∀ t ∈ lTs xs, t ∈ ins.ts) → xs.map (·.ev env) = xs.map (·.ev env') := fun xs hx => evs_congr fun t ht => h t (hx t ht)
  cases ins with
  | build z ps => simp only [evI, buildV_congr (env := env) (env' := env') (ps := ps) (z := z) h]
  | bslice z n ps => simp only [evI, bsliceV_congr (env := env) (env' := env') (ps := ps) (z := z.length) h]
  | mkf fn a b => simp only [evI]; rw [ls a (by simp +contextual [Ins.ts]), ls b (by simp +contextual [Ins.ts])]
  | mm m xs => simp only [evI]; rw [ls xs (by simp +contextual [Ins.ts])]
  | ssl x lo hi => simp only [evI]; rw [one x (by simp +contextual [Ins.ts])]; simp only [fun d => bd lo d (by simp +contextual [Ins.ts]), fun d => bd hi d (by simp +contextual [Ins.ts])]
  | lsl z x lo hi => simp only [evI]; rw [one x (by simp +contextual [Ins.ts])]; simp only [fun d => bd lo d (by simp +contextual [Ins.ts]), fun d => bd hi d (by simp +contextual [Ins.ts])]
  | pick c a b => simp only [evI]; rw [one c (by simp +contextual [Ins.ts]), one a (by simp +contextual [Ins.ts]), one b (by simp +contextual [Ins.ts])]
  | _ => first
    | rfl
    | (rename_i x; simp only [evI]; rw [one x (by simp +contextual [Ins.ts])]; done)
    | (rename_i x y; simp only [evI]; rw [one x (by simp +contextual [Ins.ts]), one y (by simp +contextual [Ins.ts])]; done)
    | (rename_i x y; simp only [evI]; rw [one x (by simp +contextual [Ins.ts])]; done)
/-- It looks at the store. -/
def Ins.reads : Ins → Bool
  | .ld _ | .lda _ _ | .ia _ _ _ | .lsl _ _ _ _ | .b2s _ => true
  | _ => false
theorem evI_keeps {ins : Ins} {σ σ' σ'' : St} {v : V} (hq : ins.quiet = true) (h : evI env σ ins = some (v, σ')) : σ' = σ := by
  cases ins <;> simp only [Ins.quiet, Bool.false_eq_true] at hq <;> simp only [evI] at h <;> (try simp only [Option.map_eq_some_iff, Option.bind_eq_some_iff, Option.some.injEq, Prod.mk.injEq] at h)
  all_goals first
    | exact h.2.symm
    | (obtain ⟨_, _, _, h⟩ := h; exact h.symm)
    | (obtain ⟨_, _, _, _, _, h⟩ := h; exact h.symm)
    | skip
  all_goals (repeat' split at h) <;> (try simp only [Option.map_eq_some_iff, Option.bind_eq_some_iff, Option.some.injEq, Prod.mk.injEq, reduceCtorEq] at h)
  all_goals first
    | exact h.2.symm
    | (obtain ⟨_, _, _, h⟩ := h; exact h.symm)
    | (obtain ⟨_, _, h⟩ := h; split at h <;> simp only [Option.some.injEq, Prod.mk.injEq, reduceCtorEq] at h; exact h.2.symm)
    | (obtain ⟨_, _, _, _, h⟩ := h; (repeat' split at h) <;> simp only [Option.some.injEq, Prod.mk.injEq, reduceCtorEq] at h; exact h.2.symm)
    | (obtain ⟨_, _, _, _, h⟩ := h; exact h.elim)
theorem evI_other {ins : Ins} {σ σ' : St} {v : V} (hq : ins.quiet = true) (hr : ins.reads = false) (h : evI env σ ins = some (v, σ)) : evI env σ' ins = some (v, σ') := by
  cases ins <;> simp only [Ins.quiet, Ins.reads, Bool.false_eq_true, Bool.true_eq_false] at hq hr <;> simp only [evI] at h ⊢ <;> (try simp only [Option.map_eq_some_iff, Option.some.injEq, Prod.mk.injEq, and_true] at h ⊢)
  all_goals first
    | exact h
    | skip
  all_goals (repeat' split at h) <;> (try simp only [Option.map_eq_some_iff, Option.bind_eq_some_iff, Option.some.injEq, Prod.mk.injEq, reduceCtorEq, and_true] at h ⊢)
  all_goals first
    | exact h
    | (simp_all; done)
    | (obtain ⟨a, h1, b, h2, h3⟩ := h; refine ⟨a, h1, b, h2, ?_⟩; split at h3 <;> simp_all)
end
end Go.Proofs.YtmjbnfldehbmcaaDoor.Ab
