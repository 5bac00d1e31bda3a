/-
The walk over the program's texts, told with what its values say: a part of it. No further condition.
-/
import Derived.Test.YticpkoakbneefaaAbK
namespace Go.Proofs.Yticpkoakbneefaa.Ab
open Go.RowKit
set_option linter.unusedVariables false
set_option linter.unusedSimpArgs false
/-! What an operation reads of the temporaries. -/
def Opd.ts : Opd → List Nat
  | .t i => [i]
  | .c _ => []
def oTs : Option Opd → List Nat
  | some x => x.ts
  | none => []
def lTs (xs : List Opd) : List Nat := xs.flatMap Opd.ts
def Ins.ts : Ins → List Nat
  | .mv x | .box x | .ld x | .lda _ x | .nilck x | .un _ x | .cvi _ x | .cvs x | .s2b x | .b2s x | .b2b x | .mki _ x | .fa _ x | .fld _ _ x | .tas _ _ _ x | .ext x _ | .slen x | .llen x | .panic x => x.ts
  | .pick c a b => c.ts ++ (a.ts ++ b.ts)
  | .new _ | .mkmap | .recover => []
  | .build _ ps => ps.flatMap fun p => p.2.2.ts
  | .bslice _ _ ps => ps.flatMap fun p => p.2.ts
  | .st _ a x | .bin _ a x | .beq _ a x | .nq _ _ a x | .eqa _ _ a x | .mksl _ _ a x | .ia _ a x | .aa _ _ a x | .sx a x | .app _ _ a x => a.ts ++ x.ts
  | .ssl x lo hi | .lsl _ x lo hi => x.ts ++ (oTs lo ++ oTs hi)
  | .mkf _ a b => lTs a ++ lTs b
  | .mm _ xs | .call _ xs => lTs xs
  | .callv f xs | .defer f xs => f.ts ++ lTs xs
def RI.ts (r : RI) : List Nat := (match r.guard with | some (t, _) => [t] | none => []) ++ r.ins.ts
section
variable {env env' : Env} {σ : St}
theorem ev_congr {x : Opd} (h : ∀ t ∈ x.ts, env t = env' t) : x.ev env = x.ev env' := by
  cases x with
  | t i => exact h i (by simp [Opd.ts])
  | c v => rfl
theorem evs_congr {xs : List Opd} (h : ∀ t ∈ lTs xs, env t = env' t) : xs.map (·.ev env) = xs.map (·.ev env') :=
  List.map_congr_left fun x hx => ev_congr fun t ht => h t (List.mem_flatMap.2 ⟨x, hx, ht⟩)
theorem bound_congr {d : Nat} {x : Option Opd} (h : ∀ t ∈ oTs x, env t = env' t) : bound env d x = bound env' d x := by
  cases x with
  | none => rfl
  | some x => simp only [bound, ev_congr (x := x) h]
theorem buildV_congr : ∀ {ps : List (Nat × Nat × Opd)} {z : List V}, (∀ t ∈ ps.flatMap (fun p => p.2.2.ts), env t = env' t) → buildV env z ps = buildV env' z ps
  | [], _, _ => rfl
  | (o, s, x) :: ps, z, h => by
    have h1 : x.ev env = x.ev env' := ev_congr fun t ht => h t (by simp [ht])
    simp only [buildV, h1]
    split
    · exact buildV_congr fun t ht => h t (by simp only [List.flatMap_cons, List.mem_append]; exact .inr ht)
    · rfl
theorem bsliceV_congr {z : Nat} : ∀ {ps : List (Nat × Opd)} {es : List (List V)}, (∀ t ∈ ps.flatMap (fun p => p.2.ts), env t = env' t) → bsliceV env z es ps = bsliceV env' z es ps
  | [], _, _ => rfl
  | (i, x) :: ps, es, h => by
    have h1 : x.ev env = x.ev env' := ev_congr fun t ht => h t (by simp [ht])
    simp only [bsliceV, h1]
    split
    · exact bsliceV_congr fun t ht => h t (by simp only [List.flatMap_cons, List.mem_append]; exact .inr ht)
    · rfl
theorem evI_congr {ins : Ins} (h : ∀ t ∈ ins.ts, env t = env' t) : evI env σ ins = evI env' σ ins := by
  have one : ∀ x : Opd, (∀ t ∈ x.ts, t ∈ ins.ts) → x.ev env = x.ev env' := fun x hx => ev_congr fun t ht => h t (hx t ht)
  have bd : ∀ (x : Option Opd) d, (∀ t ∈ oTs x, t ∈ ins.ts) → bound env d x = bound env' d x := fun x d hx => bound_congr fun t ht => h t (hx t ht)
  have ls : ∀ xs : List Opd, (∀ t ∈ lTs xs, t ∈ ins.ts) → xs.map (·.ev env) = xs.map (·.ev env') := fun xs hx => evs_congr fun t ht => h t (hx t ht)
  cases ins with
  | build z ps => simp only [evI, buildV_congr (env := env) (env' := env') (ps := ps) (z := z) h]
  | bslice z n ps => simp only [evI, bsliceV_congr (env := env) (env' := env') (ps := ps) (z := z.length) h]
  | mkf fn a b => simp only [evI]; rw [ls a (by simp +contextual [Ins.ts]), ls b (by simp +contextual [Ins.ts])]
  | mm m xs => simp only [evI]; rw [ls xs (by simp +contextual [Ins.ts])]
  | ssl x lo hi => simp only [evI]; rw [one x (by simp +contextual [Ins.ts])]; simp only [fun d => bd lo d (by simp +contextual [Ins.ts]), fun d => bd hi d (by simp +contextual [Ins.ts])]
  | lsl z x lo hi => simp only [evI]; rw [one x (by simp +contextual [Ins.ts])]; simp only [fun d => bd lo d (by simp +contextual [Ins.ts]), fun d => bd hi d (by simp +contextual [Ins.ts])]
  | pick c a b => simp only [evI]; rw [one c (by simp +contextual [Ins.ts]), one a (by simp +contextual [Ins.ts]), one b (by simp +contextual [Ins.ts])]
  | _ => first
    | rfl
    | (rename_i x; simp only [evI]; rw [one x (by simp +contextual [Ins.ts])]; done)
    | (rename_i x y; simp only [evI]; rw [one x (by simp +contextual [Ins.ts]), one y (by simp +contextual [Ins.ts])]; done)
    | (rename_i x y; simp only [evI]; rw [one x (by simp +contextual [Ins.ts])]; done)
/-- It looks at the store. -/
def Ins.reads : Ins → Bool
  | .ld _ | .lda _ _ | .ia _ _ _ | .lsl _ _ _ _ | .b2s _ => true
  | _ => false
theorem evI_keeps {ins : Ins} {σ σ' σ'' : St} {v : V} (hq : ins.quiet = true) (h : evI env σ ins = some (v, σ')) : σ' = σ := by
  cases ins <;> simp only [Ins.quiet, Bool.false_eq_true] at hq <;> simp only [evI] at h <;> (try simp only [Option.map_eq_some_iff, Option.bind_eq_some_iff, Option.some.injEq, Prod.mk.injEq] at h)
  all_goals first
    | exact h.2.symm
    | (obtain ⟨_, _, _, h⟩ := h; exact h.symm)
    | (obtain ⟨_, _, _, _, _, h⟩ := h; exact h.symm)
    | skip
  all_goals (repeat' split at h) <;> (try simp only [Option.map_eq_some_iff, Option.bind_eq_some_iff, Option.some.injEq, Prod.mk.injEq, reduceCtorEq] at h)
  all_goals first
    | exact h.2.symm
    | (obtain ⟨_, _, _, h⟩ := h; exact h.symm)
    | (obtain ⟨_, _, h⟩ := h; split at h <;> simp only [Option.some.injEq, Prod.mk.injEq, reduceCtorEq] at h; exact h.2.symm)
    | (obtain ⟨_, _, _, _, h⟩ := h; (repeat' split at h) <;> simp only [Option.some.injEq, Prod.mk.injEq, reduceCtorEq] at h; exact h.2.symm)
    | (obtain ⟨_, _, _, _, h⟩ := h; exact h.elim)
theorem evI_other {ins : Ins} {σ σ' : St} {v : V} (hq : ins.quiet = true) (hr : ins.reads = false) (h : evI env σ ins = some (v, σ)) : evI env σ' ins = some (v, σ') := by
  cases ins <;> simp only [Ins.quiet, Ins.reads, Bool.false_eq_true, Bool.true_eq_false] at hq hr <;> simp only [evI] at h ⊢ <;> (try simp only [Option.map_eq_some_iff, Option.some.injEq, Prod.mk.injEq, and_true] at h ⊢)
  all_goals first
    | exact h
    | skip
  all_goals (repeat' split at h) <;> (try simp only [Option.map_eq_some_iff, Option.bind_eq_some_iff, Option.some.injEq, Prod.mk.injEq, reduceCtorEq, and_true] at h ⊢)
  all_goals first
    | exact h
    | (simp_all; done)
    | (obtain ⟨a, h1, b, h2, h3⟩ := h; refine ⟨a, h1, b, h2, ?_⟩; split at h3 <;> simp_all)
end
end Go.Proofs.Yticpkoakbneefaa.Ab
namespace Go.Proofs.Yticpkoakbneefaa.Ab
open Go.RowKit
set_option linter.unusedVariables false
set_option linter.unusedSimpArgs false
/-! A region that draws its order: what only reads is done as soon as it may be; whatever else may come in any order that the edges leave, and then all is looked at again. -/
def aftL (ops : Array Oper) (i : Nat) : List Nat :=
  match ops[i]? with
  | some o => (o.after.toList.filter (Region.binds .any ·)).map (·.on)
  | none => []
/-- What must come before each. -/
def tblGo : List (List Nat) → List (List Nat) → List (List Nat)
  | [], T => T
  | a :: as, T => tblGo as (T ++ [a.foldl (fun acc j => (T.getD j []).foldl (fun acc k => if acc.contains k then acc else k :: acc) acc) a])
def inT (T : List (List Nat)) (i j : Nat) : Bool := (T.getD i []).contains j
def eagerB (T : List (List Nat)) (R : List RI) (i : Nat) (r : RI) : Bool :=
  match r.dst with
  | none => false
  | some d => r.ins.quiet && !r.ts.contains d && (List.range R.length).all fun j => j == i || match R[j]? with
    | none => true
    | some q => q.dst != some d && (!q.ts.contains d || inT T j i) && (match q.dst with
      | some d' => !r.ts.contains d' || inT T i j || inT T j i
      | none => true)
def rdy (n : Nat) (A : List (List Nat)) (L : List Nat) : List Nat := (List.range n).filter fun i => !L.contains i && (A.getD i []).all L.contains
def againL (T : List (List Nat)) (E : List Bool) (R : List RI) (L : List Nat) (i : Nat) : List RI :=
  L.filterMap fun j => if E.getD j false = true ∧ inT T i j = false then (match R[j]? with | some r => if r.ins.reads = true then some r else none | none => none) else none
def altsOf (T : List (List Nat)) (E : List Bool) (R : List RI) (L : List Nat) (go : Nat → Plan) : List Nat → Plan
  | [] => .stop
  | i :: is => match R[i]? with
    | some r => .alt r (againL T E R L i) (go i) (altsOf T E R L go is)
    | none => .q ⟨none, none, .recover⟩ .done
def build (A T : List (List Nat)) (E : List Bool) (R : List RI) : Nat → List Nat → Plan
  | 0, L => .q ⟨none, none, .recover⟩ .done
  | m + 1, L => match (rdy R.length A L).find? fun i => E.getD i false with
    | some i => match R[i]? with
      | some r => .q r (build A T E R m (i :: L))
      | none => .q ⟨none, none, .recover⟩ .done
    | none => match rdy R.length A L with
      | [] => .done
      | x :: xs => altsOf T E R L (fun i => build A T E R m (i :: L)) (x :: xs)
def eagL (T : List (List Nat)) (R : List RI) : List Bool := (List.range R.length).map fun i => match R[i]? with | some r => eagerB T R i r | none => false
def planOf (P : Program) (nt : Nat) (ops : Array Oper) : Option Plan :=
  if P.follows .mixedOrders = true then
    match ops.toList.mapM (cRI P nt ops) with
    | some R =>
      let A := (List.range ops.size).map (aftL ops)
      let T := tblGo A []
      some (build A T (eagL T R) R (ops.size + 1) [])
    | none => none
  else none
/-- It comes to what it came to. -/
def chk (r : RI) (f : Fr) (σ : St) : Prop :=
  match r.dst with
  | none => True
  | some d => match wantG f.env r.guard with
    | none => False
    | some false => f.env d = .tup []
    | some true => evI f.env σ r.ins = some (f.env d, σ)
def pwp (P : Program) (ro : Option Nat) (Y : YS P) (Q : AX → Fr → St → Prop) : Plan → Fr → St → Prop
  | .done, f, σ => Q .normal f σ
  | .q r p, f, σ => rwp1 P ro Y (fun _ _ _ => False) (pwp P ro Y Q p) r f σ
  | .alt r again p more, f, σ => rwp1 P ro Y (fun x f σ => match x with | .panic v => ∀ env, Q (.panic v) ⟨env, f.ds⟩ σ | _ => False) (fun f σ => (∀ q ∈ again, chk q f σ) ∧ pwp P ro Y Q p f σ) r f σ ∧ pwp P ro Y Q more f σ
  | .stop, f, σ => True
section
variable {P : Program} {ro : Option Nat} {Y : YS P} {φ φ' : Phi} {I I' : Nat → Prop} {σ σ' : St} {w w' : World} {nt : Nat} {f : Fr} {a : Act} {Q : AX → Fr → St → Prop} {ops : Array Oper} {R : List RI} {A T : List (List Nat)}
/-! The table. -/
def TOk (A T : List (List Nat)) : Prop := ∀ i x, x ∈ T.getD i [] → ∀ X : Nat → Prop, (∀ k, X k → ∀ y ∈ A.getD k [], X y) → (∀ y ∈ A.getD i [], X y) → X x
theorem foldl_in : ∀ (l : List Nat) (acc : List Nat) (x : Nat), x ∈ l.foldl (fun acc k => if acc.contains k then acc else k :: acc) acc → x ∈ acc ∨ x ∈ l
  | [], acc, x, h => .inl h
  | k :: l, acc, x, h => by
    rcases foldl_in l _ x h with h | h
    · dsimp only at h
      split at h
      · exact .inl h
      · rcases List.mem_cons.1 h with rfl | h
        · exact .inr (by simp)
        · exact .inl h
    · exact .inr (by simp [h])
theorem foldl_in2 (T : List (List Nat)) : ∀ (l : List Nat) (acc : List Nat) (x : Nat), x ∈ l.foldl (fun acc j => (T.getD j []).foldl (fun acc k => if acc.contains k then acc else k :: acc) acc) acc → x ∈ acc ∨ ∃ j ∈ l, x ∈ T.getD j []
  | [], acc, x, h => .inl h
  | j :: l, acc, x, h => by
    rcases foldl_in2 T l _ x h with h | ⟨k, hk, h⟩
    · rcases foldl_in _ _ _ h with h | h
      · exact .inl h
      · exact .inr ⟨j, by simp, h⟩
    · exact .inr ⟨k, by simp [hk], h⟩
theorem tblGo_ok (A : List (List Nat)) : ∀ (as T : List (List Nat)), A.drop T.length = as → TOk A T → TOk A (tblGo as T)
  | [], T, _, h => h
  | a :: as, T, hd, h => by
    have hlt : T.length < A.length := by
      rcases Nat.lt_or_ge T.length A.length with h | h
      · exact h
      · rw [List.drop_eq_nil_of_le h] at hd; simp at hd
    rw [List.drop_eq_getElem_cons hlt] at hd
    obtain ⟨ha, hd⟩ := List.cons.inj hd
    refine tblGo_ok A as _ (by simp [hd]) fun i x hx X hX hi => ?_
    simp only [List.getD_eq_getElem?_getD] at hx
    rcases Nat.lt_trichotomy i T.length with hi' | hi' | hi'
    · rw [List.getElem?_append_left hi'] at hx
      exact h i x (by simpa using hx) X hX hi
    · subst hi'
      have hA : A.getD T.length [] = a := by simp [hlt, ha]
      rw [hA] at hi
      simp only [List.getElem?_append_right (Nat.le_refl _), Nat.sub_self, List.getElem?_cons_zero, Option.getD_some] at hx
      rcases foldl_in2 T _ _ _ hx with hx | ⟨j, hj, hx⟩
      · exact hi x hx
      · exact h j x hx X hX (hX j (hi j hj))
    · rw [List.getElem?_eq_none (by simp; omega)] at hx
      simp at hx
theorem inT_ok (h : TOk A T) {i x : Nat} (hx : inT T i x = true) {X : Nat → Prop} (hX : ∀ k, X k → ∀ y ∈ A.getD k [], X y) (hi : ∀ y ∈ A.getD i [], X y) : X x :=
  h i x (by simpa [inT] using hx) X hX hi
structure EOk (T : List (List Nat)) (R : List RI) (i : Nat) (r : RI) (d : Nat) : Prop where
  dst : r.dst = some d
  quiet : r.ins.quiet = true
  self : d ∉ r.ts
  one : ∀ j q, R[j]? = some q → j ≠ i → q.dst ≠ some d
  read : ∀ j q, R[j]? = some q → j ≠ i → d ∈ q.ts → inT T j i = true
  write : ∀ j q d', R[j]? = some q → j ≠ i → q.dst = some d' → d' ∈ r.ts → inT T i j = true ∨ inT T j i = true
theorem eager_ok {i : Nat} (h : (eagL T R).getD i false = true) : ∃ r d, R[i]? = some r ∧ EOk T R i r d := by
  unfold eagL at h
  rcases Nat.lt_or_ge i R.length with hi | hi
  · simp only [List.getD_eq_getElem?_getD, List.getElem?_map, List.getElem?_range hi, Option.map_some, Option.getD_some, List.getElem?_eq_getElem hi] at h
    refine ⟨R[i], ?_⟩
    unfold eagerB at h
    cases hd : R[i].dst with
    | none => simp [hd] at h
    | some d =>
      simp only [hd, Bool.and_eq_true, Bool.not_eq_true', List.all_eq_true, List.mem_range, Bool.or_eq_true, beq_iff_eq] at h
      obtain ⟨⟨hq, hs⟩, hall⟩ := h
      have key : ∀ j q, R[j]? = some q → j ≠ i → (q.dst ≠ some d ∧ (q.ts.contains d = false ∨ inT T j i = true)) ∧ (match q.dst with | some d' => !R[i].ts.contains d' || inT T i j || inT T j i | none => true) = true := fun j q hj hne => by
        have hlt : j < R.length := (List.getElem?_eq_some_iff.1 hj).1
        have := (hall j hlt).resolve_left hne
        rw [hj] at this
        simpa [and_assoc] using this
      refine ⟨d, List.getElem?_eq_getElem hi, hd, hq, by simpa using hs, fun j q hj hne => (key j q hj hne).1.1, fun j q hj hne hm => (key j q hj hne).1.2.resolve_left (by simpa using hm), fun j q d' hj hne hd' hm => ?_⟩
      have := (key j q hj hne).2
      rw [hd'] at this
      simp only [Bool.or_eq_true, Bool.not_eq_true'] at this
      rcases this with (this | this) | this
      · simp at this; exact absurd hm this
      · exact .inl this
      · exact .inr this
  · simp [List.getElem?_eq_none, hi] at h
theorem wantG_congr {env env' : Env} {g : Option (Nat × Bool)} (h : ∀ t b, g = some (t, b) → env t = env' t) : wantG env g = wantG env' g := by
  cases g with
  | none => rfl
  | some g => obtain ⟨t, b⟩ := g; simp only [wantG, h t b rfl]
theorem rts {r : RI} {env env' : Env} (h : ∀ t ∈ r.ts, env t = env' t) : (∀ t b, r.guard = some (t, b) → env t = env' t) ∧ (∀ t ∈ r.ins.ts, env t = env' t) :=
  ⟨fun t b hg => h t (by simp [RI.ts, hg]), fun t ht => h t (by simp [RI.ts, ht])⟩
theorem evs_congr' {env env' : Env} {xs : List Opd} (h : ∀ t ∈ lTs xs, env t = env' t) : evs env xs = evs env' xs := evs_congr h
/-- An operation where the temporaries that it reads are the same. -/
theorem rwp1_congr {Q' : AX → Fr → St → Prop} {K K' : Fr → St → Prop} {r : RI} {f f' : Fr} (hds : f.ds = f'.ds) (ht : ∀ t ∈ r.ts, f.env t = f'.env t) (h : rwp1 P ro Y Q K r f σ) (hq : ∀ v σ, Q (.panic v) f σ → Q' (.panic v) f' σ)
    (hk : ∀ v σ ds, K { f.put r.dst v with ds := ds } σ → K' { f'.put r.dst v with ds := ds } σ) : rwp1 P ro Y Q' K' r f' σ := by
  obtain ⟨hg, hi⟩ := rts ht
  have hk0 : ∀ v σ, K (f.put r.dst v) σ → K' (f'.put r.dst v) σ := fun v σ h => by
    have := hk v σ f.ds (by exact h)
    rw [hds] at this
    exact this
  obtain ⟨dst, guard, ins⟩ := r
  unfold rwp1 at h ⊢
  rw [← wantG_congr hg]
  split
  · rename_i hw; rw [hw] at h; exact h
  · rename_i hw; rw [hw] at h; exact hk0 _ _ h
  · rename_i hw
    rw [hw] at h
    simp only at h
    cases ins
    case call k as =>
      simp only at h ⊢
      rw [← evs_congr' (env := f.env) (env' := f'.env) (xs := as) (fun t ht => hi t (by simpa [Ins.ts] using ht))]
      refine CCalls.mono h fun o σ' ho => ?_
      cases o with
      | ret v => exact hk0 _ _ ho
      | panic v => exact hq _ _ ho
    case callv g as =>
      simp only at h ⊢
      rw [← evs_congr' (env := f.env) (env' := f'.env) (xs := as) (fun t ht => hi t (by simp [Ins.ts, ht])), ← ev_congr (env := f.env) (env' := f'.env) (x := g) (fun t ht => hi t (by simp [Ins.ts, ht]))]
      split
      · rename_i hg2
        rw [hg2] at h
        refine ⟨h.1, CCalls.mono h.2 fun o σ' ho => ?_⟩
        cases o with
        | ret v => exact hk0 _ _ ho
        | panic v => exact hq _ _ ho
      · rename_i hg2
        rw [hg2] at h
        refine Y.mono _ _ _ _ _ (fun o σ' ho => ?_) h
        cases o with
        | ret v => exact hk0 _ _ ho
        | panic v => exact hq _ _ ho
      · rename_i hg2 hg2'
        split at h
        · rename_i hg3; exact absurd hg3 (hg2 _ _ _)
        · rename_i hg3; exact absurd hg3 (hg2' _)
        · exact h
    case defer g as =>
      simp only at h ⊢
      rw [← evs_congr' (env := f.env) (env' := f'.env) (xs := as) (fun t ht => hi t (by simp [Ins.ts, ht])), ← ev_congr (env := f.env) (env' := f'.env) (x := g) (fun t ht => hi t (by simp [Ins.ts, ht]))]
      obtain ⟨hro, h⟩ := h
      refine ⟨hro, ?_⟩
      split
      · rename_i hg2
        rw [hg2] at h
        rw [← hds]
        cases dst with
        | none => exact hk (.tup []) _ _ h
        | some d => exact hk (.tup []) _ _ h
      · rename_i hg2
        split at h
        · rename_i hg3; exact absurd hg3 (hg2 _ _ _)
        · exact h
    case panic x =>
      simp only at h ⊢
      rw [← ev_congr (env := f.env) (env' := f'.env) (x := x) (fun t ht => hi t (by simp [Ins.ts, ht]))]
      split
      · rename_i hg2; rw [hg2] at h; exact hq _ _ h
      · rename_i hg2
        split at h
        · rename_i hg3; exact absurd hg3 (hg2 _ _)
        · exact h
    case recover => exact h
    all_goals
      simp only at h ⊢
      rw [← evI_congr hi]
      split
      · rename_i he; rw [he] at h; exact hk0 _ _ h
      · rename_i he; rw [he] at h; exact h
/-- What was done already, done now. -/
theorem chk_rwp1 {K : Fr → St → Prop} {r : RI} {d : Nat} {f f' : Fr} (hd : r.dst = some d) (hq : r.ins.quiet = true) (hc : chk r f σ) (ht : ∀ t ∈ r.ts, f.env t = f'.env t) (h : K (f'.put r.dst (f.env d)) σ) : rwp1 P ro Y Q K r f' σ := by
  obtain ⟨hg, hi⟩ := rts ht
  unfold chk at hc
  rw [hd] at hc
  simp only at hc
  unfold rwp1
  rw [← wantG_congr hg]
  split at hc
  · exact hc.elim
  · rename_i hw; rw [hw]; rw [hc] at h; exact h
  · rename_i hw
    rw [hw]
    rw [evI_congr hi] at hc
    obtain ⟨dst, guard, ins⟩ := r
    cases ins <;> simp only [Ins.quiet, Bool.false_eq_true] at hq <;> simp only [hc] <;> exact h
theorem rwp1_quiet {K : Fr → St → Prop} {r : RI} {d : Nat} (hd : r.dst = some d) (hq : r.ins.quiet = true) (hs : d ∉ r.ts) (h : rwp1 P ro Y Q K r f σ) : ∃ v, K (f.put r.dst v) σ ∧ chk r (f.put r.dst v) σ := by
  have same : ∀ v, ∀ t ∈ r.ts, (f.put r.dst v).env t = f.env t := fun v t ht => by
    rw [hd]
    simp only [Fr.put, Env.put]
    rw [if_neg (fun e : t = d => hs (e ▸ ht))]
  unfold chk
  have at_d : ∀ v, (f.put r.dst v).env d = v := fun v => by rw [hd]; simp [Fr.put, Env.put]
  simp only [hd] at at_d same ⊢
  unfold rwp1 at h
  split at h
  · exact h.elim
  · rename_i hw
    refine ⟨_, by rw [hd] at h; exact h, ?_⟩
    rw [wantG_congr (rts (same _)).1, hw]
    exact at_d _
  · rename_i hw
    have : ∃ v σ', evI f.env σ r.ins = some (v, σ') ∧ K (f.put r.dst v) σ' := by
      obtain ⟨dst, guard, ins⟩ := r
      cases ins <;> simp only [Ins.quiet, Bool.false_eq_true] at hq <;> (simp only at h; split at h <;> first | exact ⟨_, _, by assumption, h⟩ | exact h.elim)
    obtain ⟨v, σ', he, hk⟩ := this
    have e := evI_keeps (σ'' := σ) hq he
    subst e
    refine ⟨v, by rw [hd] at hk; exact hk, ?_⟩
    rw [wantG_congr (rts (same _)).1, hw]
    simp only [at_d]
    rw [evI_congr (rts (same _)).2]
    exact he
end
end Go.Proofs.Yticpkoakbneefaa.Ab
namespace Go.Proofs.Yticpkoakbneefaa.Ab
open Go.RowKit
set_option linter.unusedVariables false
set_option linter.unusedSimpArgs false
section
variable {P : Program} {ro : Option Nat} {Y : YS P} {lo : Nat} {φ φ' : Phi} {I I' : Nat → Prop} {σ σ' : St} {w w' : World} {nt : Nat} {f : Fr} {a : Act} {Q : AX → Fr → St → Prop} {ops : Array Oper} {R : List RI} {A T : List (List Nat)}
/-- What the region's tables are. -/
structure Tab (P : Program) (nt : Nat) (ops : Array Oper) (R : List RI) (A T : List (List Nat)) : Prop where
  hR : ops.toList.mapM (cRI P nt ops) = some R
  hA : ∀ i, i < ops.size → A.getD i [] = aftL ops i
  hT : TOk A T
def okL (n : Nat) (A : List (List Nat)) : List Nat → Prop
  | [] => True
  | k :: L => (k < n ∧ k ∉ L ∧ ∀ y ∈ A.getD k [], y ∈ L) ∧ okL n A L
theorem okL_closed {n : Nat} : ∀ {L : List Nat}, okL n A L → ∀ k ∈ L, k < n ∧ ∀ y ∈ A.getD k [], y ∈ L
  | [], _, k, h => by simp at h
  | x :: L, h, k, hk => by
    rcases List.mem_cons.1 hk with rfl | hk
    · exact ⟨h.1.1, fun y hy => List.mem_cons_of_mem _ (h.1.2.2 y hy)⟩
    · exact ⟨(okL_closed h.2 k hk).1, fun y hy => List.mem_cons_of_mem _ ((okL_closed h.2 k hk).2 y hy)⟩
structure Inv (ops : Array Oper) (R : List RI) (A T : List (List Nat)) (L : List Nat) (S : Array Bool) (f : Fr) (e : Env) (σ : St) : Prop where
  size : S.size = ops.size
  ord : okL ops.size A L
  sub : ∀ k, S.getD k false = true → k ∈ L
  down : ∀ k, S.getD k false = true → ∀ x ∈ A.getD k [], S.getD x false = true
  del : ∀ k ∈ L, S.getD k false = false → ∃ r d, R[k]? = some r ∧ EOk T R k r d ∧ (eagL T R).getD k false = true ∧ chk r f σ
  agree : ∀ t, (∀ k ∈ L, S.getD k false = false → ∀ r, R[k]? = some r → r.dst ≠ some t) → e t = f.env t
theorem bind_edges {i : Nat} {o : Oper} (ho : ops[i]? = some o) (X : Nat → Prop) : (∀ y ∈ aftL ops i, X y) ↔ ∀ e ∈ o.after, Region.binds .any e = true → X e.on := by
  unfold aftL
  rw [ho]
  simp only [List.mem_map, List.mem_filter, Array.mem_toList_iff]
  constructor
  · exact fun h e he hb => h _ ⟨e, ⟨he, hb⟩, rfl⟩
  · rintro h y ⟨e, ⟨he, hb⟩, rfl⟩; exact h e he hb
theorem ready_iff (ht : Tab P nt ops R A T) {S : Array Bool} (hS : S.size = ops.size) {i : Nat} : i ∈ Region.ready .any ops S ↔ i < ops.size ∧ S.getD i false = false ∧ ∀ y ∈ A.getD i [], S.getD y false = true := by
  rw [mem_ready]
  constructor
  · rintro ⟨h0, o, ho, hall⟩
    have hlt : i < ops.size := (Array.getElem?_eq_some_iff.1 ho).1
    refine ⟨hlt, ?_, ?_⟩
    · have : i < S.size := by rw [hS]; exact hlt
      simpa [this] using h0
    · rw [ht.hA i hlt]
      exact (bind_edges ho fun y => S.getD y false = true).2 hall
  · rintro ⟨hlt, h0, hall⟩
    have ho : ops[i]? = some ops[i] := Array.getElem?_eq_getElem hlt
    refine ⟨?_, _, ho, ?_⟩
    · have : i < S.size := by rw [hS]; exact hlt
      simpa [this] using h0
    · rw [ht.hA i hlt] at hall
      exact (bind_edges ho fun y => S.getD y false = true).1 hall
theorem mem_rdy {n i : Nat} {L : List Nat} : i ∈ rdy n A L ↔ i < n ∧ i ∉ L ∧ ∀ y ∈ A.getD i [], y ∈ L := by
  simp [rdy, and_assoc]
theorem set_at {S : Array Bool} {i j : Nat} : (S.setIfInBounds i true).getD j false = true ↔ S.getD j false = true ∨ (i = j ∧ j < S.size) := by
  by_cases h : i = j
  · subst h
    by_cases hi : i < S.size
    · simp [hi]
    · simp [hi, Array.getElem?_eq_none (Nat.le_of_not_lt hi)]
  · simp [Array.getElem?_setIfInBounds_ne h, h]
theorem bfalse {b : Bool} : b = false ↔ ¬ b = true := by simp
/-- It is told, and does what its telling says. -/
theorem Tab.op (ht : Tab P nt ops R A T) {i : Nat} {r : RI} (hr : R[i]? = some r) : ∃ o, ops[i]? = some o ∧ cRI P nt ops o = some r := (cRI_some ht.hR).2 i r hr
theorem Tab.at (ht : Tab P nt ops R A T) {i : Nat} (h : i < ops.size) : ∃ r, R[i]? = some r := ⟨R[i]'(by rw [(cRI_some ht.hR).1]; exact h), List.getElem?_eq_getElem _⟩
/-- Nobody's delayed place is read. -/
theorem Inv.reads (ht : Tab P nt ops R A T) {L : List Nat} {S : Array Bool} {e : Env} (hv : Inv ops R A T L S f e σ) {i : Nat} {r : RI} (hr : R[i]? = some r) (hi : ∀ y ∈ A.getD i [], S.getD y false = true)
    (hself : ∀ k ∈ L, S.getD k false = false → k = i → ∀ d, r.dst = some d → d ∉ r.ts) : ∀ t ∈ r.ts, f.env t = e t := fun t hm => by
  refine (hv.agree t fun k hk hkS rk hrk hd => ?_).symm
  obtain ⟨r', d, hr', hE, _⟩ := hv.del k hk hkS
  rw [hrk] at hr'
  obtain rfl := Option.some.inj hr'
  have hdt : d = t := by have := hE.dst; rw [hd] at this; exact (Option.some.inj this).symm
  subst hdt
  by_cases hki : k = i
  · subst hki
    rw [hr] at hrk
    obtain rfl := Option.some.inj hrk
    exact hself k hk hkS rfl _ hd hm
  · have := inT_ok ht.hT (hE.read i r hr (Ne.symm hki) hm) (X := fun y => S.getD y false = true) hv.down hi
    rw [hkS] at this
    exact absurd this (by simp)
theorem pwp_alts {E : List Bool} {L : List Nat} {go : Nat → Plan} : ∀ {is : List Nat}, pwp P ro Y Q (altsOf T E R L go is) f σ → ∀ i ∈ is, ∃ r, R[i]? = some r ∧ rwp1 P ro Y (fun x f σ => match x with | .panic v => ∀ env, Q (.panic v) ⟨env, f.ds⟩ σ | _ => False) (fun f σ => (∀ q ∈ againL T E R L i, chk q f σ) ∧ pwp P ro Y Q (go i) f σ) r f σ
  | [], _, i, h => by simp at h
  | x :: is, h, i, hi => by
    unfold altsOf at h
    split at h
    · rename_i r hr
      rcases List.mem_cons.1 hi with rfl | hi
      · exact ⟨r, hr, h.1⟩
      · exact pwp_alts h.2 i hi
    · simp [pwp, rwp1, wantG] at h
theorem chk_put {r : RI} {d : Option Nat} {v : V} {ds : List AD} (h1 : ∀ t, d = some t → t ∉ r.ts) (h2 : ∀ t, d = some t → r.dst ≠ some t) (hr : r.ins.reads = false ∨ σ' = σ) (hq : r.ins.quiet = true) (h : chk r f σ) : chk r { f.put d v with ds := ds } σ' := by
  have same : ∀ t, d ≠ some t → ({ f.put d v with ds := ds } : Fr).env t = f.env t := fun t ht => by
    cases d with
    | none => rfl
    | some d => simp only [Fr.put, Env.put]; rw [if_neg (fun e : t = d => ht (by rw [e]))]
  have hts : ∀ t ∈ r.ts, ({ f.put d v with ds := ds } : Fr).env t = f.env t := fun t ht => same t fun e => h1 t e ht
  unfold chk at h ⊢
  split at h
  · trivial
  · rename_i d' hd'
    rw [wantG_congr (rts hts).1, same d' (fun e => h2 d' e hd')]
    split at h
    · exact h.elim
    · exact h
    · rw [evI_congr (rts hts).2]
      rcases hr with hr | rfl
      · exact evI_other hq hr h
      · exact h
theorem oldest {n : Nat} {S : Array Bool} : ∀ {L : List Nat}, okL n A L → (∃ k ∈ L, S.getD k false = false) → ∃ k ∈ L, S.getD k false = false ∧ ∀ y ∈ A.getD k [], S.getD y false = true
  | [], _, ⟨k, h, _⟩ => by simp at h
  | x :: L, h, hk => by
    by_cases ht : ∃ k ∈ L, S.getD k false = false
    · obtain ⟨k, h1, h2⟩ := oldest h.2 ht
      exact ⟨k, List.mem_cons_of_mem _ h1, h2⟩
    · have all : ∀ k ∈ L, S.getD k false = true := fun k hk => by
        cases hS : S.getD k false with
        | true => rfl
        | false => exact absurd ⟨k, hk, hS⟩ ht
      obtain ⟨k, h1, h2⟩ := hk
      rcases List.mem_cons.1 h1 with rfl | h1
      · exact ⟨k, by simp, h2, fun y hy => all y (h.1.2.2 y hy)⟩
      · rw [all k h1] at h2; simp at h2
theorem count_set {S : Array Bool} {i : Nat} (hi : i < S.size) (h : S.getD i false = false) : (S.setIfInBounds i true).toList.count false + 1 = S.toList.count false := by
  have hl : i < S.toList.length := by simpa using hi
  have hS : S.toList[i] = false := by simpa [hi] using h
  have : 0 < S.toList.count false := List.count_pos_iff.2 (hS ▸ List.getElem_mem hl)
  rw [Array.toList_setIfInBounds, List.count_set hl, hS]
  simp only [beq_self_eq_true, if_true]
  rw [if_neg (by decide)]
  omega
theorem any_ok (ht : Tab P nt ops R A T) {φ0 : Phi} {I0 : Nat → Prop} {σ0 : St} {w0 : World} : ∀ (fuel m : Nat) (L : List Nat) (S : Array Bool) (f : Fr) (e : Env) (σ : St) (φ : Phi) (I : Nat → Prop) (w : World) (a : Act),
    Inv ops R A T L S f e σ → S.toList.count false ≤ fuel → Sim φ I σ w → RelF nt lo φ I w ⟨e, f.ds⟩ a → Y.R φ I w → Evo φ0 I0 σ0 w0 φ I σ w → pwp P ro Y Q (build A T (eagL T R) R m L) f σ → wpAnyIn (WF ro) 0 P .any ops (Lift nt lo Q φ0 I0 σ0 w0) fuel S a w := by
  intro fuel
  induction fuel using Nat.strongRecOn with
  | ind fuel ih =>
  intro m
  induction m with
  | zero => intro L S f e σ φ I w a hv hc hs hf hy hb h; simp [build, pwp, rwp1, wantG, Fr.put] at h
  | succ m ihm =>
  intro L S f e σ φ I w a hv hc hs hf hy hb h
  have inL : ∀ i, (∀ y ∈ A.getD i [], S.getD y false = true) → i < ops.size → i ∉ L → i ∈ rdy R.length A L := fun i hi hlt hn =>
    mem_rdy.2 ⟨by rw [(cRI_some ht.hR).1]; exact hlt, hn, fun y hy => hv.sub y (hi y hy)⟩
  have notS : ∀ i, i ∉ L → S.getD i false = false := fun i hn => by
    cases hS : S.getD i false with
    | false => rfl
    | true => exact absurd (hv.sub i hS) hn
  have notT : ∀ k ∈ L, ∀ i, i ∉ L → inT T k i = true → False := fun k hk i hn hT =>
    hn (inT_ok ht.hT hT (X := fun y => y ∈ L) (fun k hk => (okL_closed hv.ord k hk).2) (okL_closed hv.ord k hk).2)
  have allS : Region.ready .any ops S = [] → ∀ k ∈ L, S.getD k false = true := fun hr => by
    intro k hk
    cases hS : S.getD k false with
    | true => rfl
    | false =>
      obtain ⟨k', hk', h1, h2⟩ := oldest hv.ord ⟨k, hk, hS⟩
      have := (ready_iff ht hv.size).2 ⟨(okL_closed hv.ord k' hk').1, h1, h2⟩
      rw [hr] at this
      simp at this
  have szS : ∀ i, i < ops.size → i < S.size := fun i hi => by rw [hv.size]; exact hi
  -- a reading that is put off, done now
  have late : ∀ fuel', fuel = fuel' + 1 → ∀ i ∈ Region.ready .any ops S, i ∈ L → wpOpIn (WF ro) 0 P ops (Lift nt lo Q φ0 I0 σ0 w0) i (wpAnyIn (WF ro) 0 P .any ops (Lift nt lo Q φ0 I0 σ0 w0) fuel' (S.setIfInBounds i true)) a w := by
    intro fuel' hfu i hi hiL
    obtain ⟨hlt, hS, hA⟩ := (ready_iff ht hv.size).1 hi
    obtain ⟨r, d, hr, hE, hEb, hch⟩ := hv.del i hiL hS
    obtain ⟨o, ho, hco⟩ := ht.op hr
    have hreads : ∀ t ∈ r.ts, f.env t = e t := hv.reads ht hr hA fun k hk hkS hki d' hd' => by
      have hdd := hE.dst; rw [hd'] at hdd
      obtain rfl := Option.some.inj hdd
      exact hE.self
    have hrw : rwp1 P ro Y Q (fun f' σ' => f' = (⟨e, f.ds⟩ : Fr).put r.dst (f.env d) ∧ σ' = σ) r ⟨e, f.ds⟩ σ := chk_rwp1 (f := f) hE.dst hE.quiet hch hreads ⟨rfl, rfl⟩
    refine rwp1_ok ho hco hs hf hy hb hrw ?_
    rintro f' σ' φ' I' w' a' ⟨rfl, rfl⟩ hev hs' hf'
    refine ih fuel' (by omega) (m + 1) L _ f (e.put r.dst (f.env d)) σ' φ' I' w' a' ?_ ?_ hs' hf' (Y.st _ _ _ _ _ _ _ _ hs hev hy) (hb.trans hev) h
    · refine ⟨by simp [hv.size], hv.ord, fun k hk => ?_, fun k hk x hx => ?_, fun k hk hkS => ?_, fun t hto => ?_⟩
      · rcases set_at.1 hk with hk | ⟨rfl, _⟩
        · exact hv.sub k hk
        · exact hiL
      · rcases set_at.1 hk with hk | ⟨rfl, _⟩
        · exact set_at.2 (.inl (hv.down k hk x hx))
        · exact set_at.2 (.inl (hA x hx))
      · exact hv.del k hk (bfalse.2 fun h => bfalse.1 hkS (set_at.2 (.inl h)))
      · rw [hE.dst]
        simp only [Env.put]
        split
        · rename_i heq; rw [heq]
        · rename_i hne
          refine hv.agree t fun k hk hkS rk hrk hdk => ?_
          by_cases hki : k = i
          · subst hki
            rw [hr] at hrk
            obtain rfl := Option.some.inj hrk
            rw [hE.dst] at hdk
            exact hne (Option.some.inj hdk).symm
          · refine hto k hk ?_ rk hrk hdk
            exact bfalse.2 fun h => by
              rcases set_at.1 h with h | ⟨h, _⟩
              · rw [hkS] at h; simp at h
              · exact hki h.symm
    · have := count_set (szS i hlt) hS
      omega
  have zero : fuel = 0 → Region.ready .any ops S = [] := fun h0 => by
    rw [List.eq_nil_iff_forall_not_mem]
    intro i hi
    obtain ⟨hlt, hS, hA⟩ := (ready_iff ht hv.size).1 hi
    have := count_set (szS i hlt) hS
    omega
  unfold build at h
  split at h
  · rename_i i hfi
    have hir := List.mem_of_find?_eq_some hfi
    have hiE := List.find?_some hfi
    obtain ⟨hlt, hn, hA⟩ := mem_rdy.1 hir
    obtain ⟨r, d, hr, hE⟩ := eager_ok hiE
    rw [hr] at h
    simp only [pwp] at h
    obtain ⟨v, hp, hch⟩ := rwp1_quiet hE.dst hE.quiet hE.self h
    rw [hE.dst] at hp hch
    refine ihm (i :: L) S (f.put (some d) v) e σ φ I w a ?_ hc hs hf hy hb hp
    refine ⟨hv.size, ⟨⟨by rw [← (cRI_some ht.hR).1]; exact hlt, hn, hA⟩, hv.ord⟩, fun k hk => List.mem_cons_of_mem _ (hv.sub k hk), hv.down, fun k hk hkS => ?_, fun t hto => ?_⟩
    · rcases List.mem_cons.1 hk with rfl | hk
      · exact ⟨r, d, hr, hE, hiE, hch⟩
      · obtain ⟨rk, dk, hrk, hEk, hEkb, hck⟩ := hv.del k hk hkS
        have hki : k ≠ i := fun e => hn (e ▸ hk)
        refine ⟨rk, dk, hrk, hEk, hEkb, chk_put (f := f) (d := some d) (v := v) (ds := f.ds) (fun t ht' htm => ?_) (fun t ht' htd => ?_) (.inr rfl) hEk.quiet hck⟩
        · obtain rfl := Option.some.inj ht'
          exact notT k hk i hn (hE.read k rk hrk hki htm)
        · obtain rfl := Option.some.inj ht'
          exact hE.one k rk hrk hki htd
    · have hne : t ≠ d := fun e => hto i (by simp) (notS i hn) r hr (by rw [hE.dst, e])
      simp only [Fr.put, Env.put]
      rw [if_neg hne]
      exact hv.agree t fun k hk hkS => hto k (List.mem_cons_of_mem _ hk) hkS
  · rename_i hnone
    have noE : ∀ i ∈ rdy R.length A L, ¬ (eagL T R).getD i false = true := fun i hi he => by
      have := List.find?_eq_none.1 hnone i hi
      exact this he
    split at h
    · rename_i hnil
      have hnorm : Region.ready .any ops S = [] → Lift nt lo Q φ0 I0 σ0 w0 .normal a w := fun hr => by
        have he : e = f.env := funext fun t => hv.agree t fun k hk hkS => by rw [allS hr k hk] at hkS; simp at hkS
        subst he
        exact ⟨_, _, _, _, _, h, .normal, hb, hs, hf⟩
      cases fuel with
      | zero => exact ⟨zero rfl, hnorm (zero rfl)⟩
      | succ fuel' =>
        refine ⟨hnorm, fun i hi => ?_⟩
        by_cases hiL : i ∈ L
        · exact late fuel' rfl i hi hiL
        · obtain ⟨hlt, hS, hA⟩ := (ready_iff ht hv.size).1 hi
          have := inL i hA hlt hiL
          rw [hnil] at this
          simp at this
    · rename_i x xs hcons
      have hnorm : Region.ready .any ops S = [] → False := fun hr => by
        have hx : x ∈ rdy R.length A L := by rw [hcons]; simp
        obtain ⟨hlt, hn, hA⟩ := mem_rdy.1 hx
        have := (ready_iff ht hv.size).2 ⟨by rw [← (cRI_some ht.hR).1]; exact hlt, notS x hn, fun y hy => allS hr y (hA y hy)⟩
        rw [hr] at this
        simp at this
      cases fuel with
      | zero => exact (hnorm (zero rfl)).elim
      | succ fuel' =>
        refine ⟨fun hr => (hnorm hr).elim, fun i hi => ?_⟩
        by_cases hiL : i ∈ L
        · exact late fuel' rfl i hi hiL
        obtain ⟨hlt, hS, hA⟩ := (ready_iff ht hv.size).1 hi
        have hir := inL i hA hlt hiL
        obtain ⟨r, hr, hrw⟩ := pwp_alts h i (hcons ▸ hir)
        obtain ⟨o, ho, hco⟩ := ht.op hr
        have hreads : ∀ t ∈ r.ts, f.env t = e t := hv.reads ht hr hA fun k hk _ hki => absurd (hki ▸ hk) hiL
        have hrw2 : rwp1 P ro Y Q (fun f2 σ2 => ∃ v ds, f2 = { (⟨e, f.ds⟩ : Fr).put r.dst v with ds := ds } ∧ ((∀ q ∈ againL T (eagL T R) R L i, chk q { f.put r.dst v with ds := ds } σ2) ∧ pwp P ro Y Q (build A T (eagL T R) R m (i :: L)) { f.put r.dst v with ds := ds } σ2)) r ⟨e, f.ds⟩ σ :=
          rwp1_congr (f := f) (f' := ⟨e, f.ds⟩) rfl hreads hrw (fun v σ h => h e) (fun v σ ds h => ⟨v, ds, rfl, h⟩)
        refine rwp1_ok ho hco hs hf hy hb hrw2 ?_
        rintro f' σ' φ' I' w' a' ⟨v, ds, rfl, hag, hp⟩ hev hs' hf'
        refine ih fuel' (by omega) m (i :: L) _ { f.put r.dst v with ds := ds } (e.put r.dst v) σ' φ' I' w' a' ?_ ?_ hs' hf' (Y.st _ _ _ _ _ _ _ _ hs hev hy) (hb.trans hev) hp
        · refine ⟨by simp [hv.size], ⟨⟨hlt, hiL, fun y hy => hv.sub y (hA y hy)⟩, hv.ord⟩, fun k hk => ?_, fun k hk y hy => ?_, fun k hk hkS => ?_, fun t hto => ?_⟩
          · rcases set_at.1 hk with hk | ⟨rfl, _⟩
            · exact List.mem_cons_of_mem _ (hv.sub k hk)
            · simp
          · rcases set_at.1 hk with hk | ⟨rfl, _⟩
            · exact set_at.2 (.inl (hv.down k hk y hy))
            · exact set_at.2 (.inl (hA y hy))
          · have hkS' : S.getD k false = false := bfalse.2 fun h => bfalse.1 hkS (set_at.2 (.inl h))
            have hki : k ≠ i := fun e => bfalse.1 hkS (set_at.2 (.inr ⟨e.symm, by rw [e]; exact szS i hlt⟩))
            have hkL := (List.mem_cons.1 hk).resolve_left hki
            obtain ⟨rk, dk, hrk, hEk, hEkb, hck⟩ := hv.del k hkL hkS'
            have notTi : inT T i k = true → False := fun hT => by
              have := inT_ok ht.hT hT (X := fun y => S.getD y false = true) hv.down hA
              rw [hkS'] at this; simp at this
            refine ⟨rk, dk, hrk, hEk, hEkb, ?_⟩
            cases hrd : rk.ins.reads with
            | true =>
              refine hag rk (List.mem_filterMap.2 ⟨k, hkL, ?_⟩)
              rw [if_pos ⟨hEkb, bfalse.2 notTi⟩, hrk]
              simp [hrd]
            | false =>
              refine chk_put (fun t ht' htm => ?_) (fun t ht' htd => ?_) (.inl hrd) hEk.quiet hck
              · rcases hEk.write i r t hr (Ne.symm hki) ht' htm with h | h
                · exact notT k hkL i hiL h
                · exact notTi h
              · rw [hEk.dst] at htd
                exact hEk.one i r hr (Ne.symm hki) (by rw [ht', ← htd])
          · cases hd : r.dst with
            | none =>
              simp only [hd, Fr.put, Env.put] at hto ⊢
              refine hv.agree t fun k hk hkS rk hrk => hto k (List.mem_cons_of_mem _ hk) (bfalse.2 fun h => ?_) rk hrk
              rcases set_at.1 h with h | ⟨rfl, _⟩
              · rw [hkS] at h; simp at h
              · exact hiL hk
            | some d' =>
              simp only [hd, Fr.put, Env.put] at hto ⊢
              split
              · rfl
              · refine hv.agree t fun k hk hkS rk hrk => hto k (List.mem_cons_of_mem _ hk) (bfalse.2 fun h => ?_) rk hrk
                rcases set_at.1 h with h | ⟨rfl, _⟩
                · rw [hkS] at h; simp at h
                · exact hiL hk
        · have := count_set (szS i hlt) hS
          omega
end
end Go.Proofs.Yticpkoakbneefaa.Ab
namespace Go.Proofs.Yticpkoakbneefaa.Ab
open Go.RowKit
set_option linter.unusedVariables false
set_option linter.unusedSimpArgs false
section
variable {P : Program} {φ φ' : Phi} {I I' : Nat → Prop} {σ σ' : St} {w w' : World} {nt : Nat} {f : Fr} {a : Act} {Q : AX → Fr → St → Prop} {ops : Array Oper} {R : List RI} {A T : List (List Nat)}
theorem Evo.drawn (n : Nat) : Evo φ I σ w φ I σ { w with drawn := n } :=
  ⟨fun _ _ h => h, fun _ h => h, fun _ h => .inl h, fun _ h => .inl h, Nat.le_refl _, fun _ _ => rfl, fun _ _ _ => rfl, rfl, rfl, rfl, rfl, .same fun _ _ => rfl⟩
theorem Sim.drawn (h : Sim φ I σ w) (n : Nat) : Sim φ I σ { w with drawn := n } := by
  have rel : ∀ v c, Rel φ I w v c → Rel φ I { w with drawn := n } v c := fun v c hr => hr.evo h (Evo.drawn n)
  refine ⟨h.dom, h.blk, fun l b hl => ?_, h.notI, h.inj, h.imm, h.base⟩
  obtain ⟨x, hx, hb⟩ := h.live l b hl
  refine ⟨x, hx, ?_⟩
  cases hb with
  | row hh hfz hpos hz hsz ho hr => exact .row hh hfz hpos hz hsz ho fun i j e v h1 h2 => rel _ _ (hr i j e v h1 h2)
  | map hh hn hr => exact .map hh hn fun i kv e h1 h2 => ⟨rel _ _ (hr i kv e h1 h2).1, rel _ _ (hr i kv e h1 h2).2⟩
  | lp hh hr => exact .lp hh hr
theorem count_all {n : Nat} : (Array.replicate n false).toList.count false ≤ n := by simp
theorem nofalse {n k : Nat} (h : (Array.replicate n false).getD k false = true) : False := by
  by_cases hk : k < n <;> simp [hk] at h
theorem cw_drw {ro : Option Nat} {Y : YS P} {p : Plan} (h : pwp P ro Y Q p f σ) : CWof planOf P ro Y nt (.drw p) f σ Q := fun code hc lo φ I w a hs hf hy => by
  cases code <;> (try simp only [compC, Option.some.injEq, reduceCtorEq, Option.map_eq_some_iff, Option.bind_eq_some_iff, and_false, exists_false] at hc)
  case region id ops d =>
    cases d
    · simp [compC] at hc
    · simp only [compC, Option.map_eq_some_iff, C.drw.injEq] at hc
      obtain ⟨p', hp', rfl⟩ := hc
      unfold planOf at hp'
      split at hp'
      · rename_i hm
        split at hp'
        · rename_i R hR
          simp only [Option.some.injEq] at hp'
          subst hp'
          have ht : Tab P nt ops R ((List.range ops.size).map (aftL ops)) (tblGo ((List.range ops.size).map (aftL ops)) []) :=
            ⟨hR, fun i hi => by simp [hi], tblGo_ok _ _ _ rfl fun i x hx => by simp at hx⟩
          refine wpIn_region_any hm (any_ok ht ops.size _ [] _ f f.env σ φ I _ a ?_ count_all (hs.drawn _) (hf.evo hs (Evo.drawn _)) (Y.st _ _ _ _ _ _ _ _ hs (Evo.drawn _) hy) (Evo.drawn _) h)
          refine ⟨by simp, trivial, fun k hk => ?_, fun k hk => ?_, fun k hk => by simp at hk, fun t _ => rfl⟩
          · exact (nofalse hk).elim
          · exact (nofalse hk).elim
        · simp at hp'
      · simp at hp'
end
end Go.Proofs.Yticpkoakbneefaa.Ab
