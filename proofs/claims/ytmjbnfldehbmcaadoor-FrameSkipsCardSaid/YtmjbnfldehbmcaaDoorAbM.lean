/-
The walk over the program's texts, told with what its values say: a part of it. No further condition.
-/
import Derived.Test.YtmjbnfldehbmcaaDoorAbL
namespace Go.Proofs.YtmjbnfldehbmcaaDoor.Ab
open Go.RowKit
set_option linter.unusedVariables false
set_option linter.unusedSimpArgs false
/-! A region that draws its order: what only reads is done as soon as it may be; whatever else may come in any order that the edges leave, and then all is looked at again. -/
def aftL (ops : Array Oper) (i : Nat) : List Nat :=
  match ops[i]? with
  | some o => (o.after.toList.filter (Region.binds .any ·)).map (·.on)
  | none => []
/-- What must come before each. -/
def tblGo : List (List Nat) → List (List Nat) → List (List Nat)
  | [], T => T
  | a :: as, T => tblGo as (T ++ [a.foldl (fun acc j => (T.getD j []).foldl (fun acc k => if acc.contains k then acc else k :: acc) acc) a])
def inT (T : List (List Nat)) (i j : Nat) : Bool := (T.getD i []).contains j
def eagerB (T : List (List Nat)) (R : List RI) (i : Nat) (r : RI) : Bool :=
  match r.dst with
  | none => false
  | some d => r.ins.quiet && !r.ts.contains d && (List.range R.length).all fun j => j == i || match R[j]? with
    | none => true
    | some q => q.dst != some d && (!q.ts.contains d || inT T j i) && (match q.dst with
      | some d' => !r.ts.contains d' || inT T i j || inT T j i
      | none => true)
def rdy (n : Nat) (A : List (List Nat)) (L : List Nat) : List Nat := (List.range n).filter fun i => !L.contains i && (A.getD i []).all L.contains
def againL (T : List (List Nat)) (E : List Bool) (R : List RI) (L : List Nat) (i : Nat) : List RI :=
  L.filterMap fun j => if E.getD j false = true ∧ inT T i j = false then (match R[j]? with | some r => if r.ins.reads = true then some r else none | none => none) else none
def altsOf (T : List (List Nat)) (E : List Bool) (R : List RI) (L : List Nat) (go : Nat → Plan) : List Nat → Plan
  | [] => .stop
  | i :: is => match R[i]? with
    | some r => .alt r (againL T E R L i) (go i) (altsOf T E R L go is)
    | none => .q ⟨none, none, .recover⟩ .done
def build (A T : List (List Nat)) (E : List Bool) (R : List RI) : Nat → List Nat → Plan
  | 0, L => .q ⟨none, none, .recover⟩ .done
  | m + 1, L => match (rdy R.length A L).find? fun i => E.getD i false with
    | some i => match R[i]? with
      | some r => .q r (build A T E R m (i :: L))
      | none => .q ⟨none, none, .recover⟩ .done
    | none => match rdy R.length A L with
      | [] => .done
      | x :: xs => altsOf T E R L (fun i => build A T E R m (i :: L)) (x :: xs)
def eagL (T : List (List Nat)) (R : List RI) : List Bool := (List.range R.length).map fun i => match R[i]? with | some r => eagerB T R i r | none => false
def planOf (P : Program) (nt : Nat) (ops : Array Oper) : Option Plan :=
  if P.follows .mixedOrders = true then
    match ops.toList.mapM (cRI P nt ops) with
    | some R =>
      let A := (List.range ops.size).map (aftL ops)
      let T := tblGo A []
      some (build A T (eagL T R) R (ops.size + 1) [])
    | none => none
  else none
/-- It comes to what it came to. -/
def chk (r : RI) (f : Fr) (σ : St) : Prop :=
  match r.dst with
  | none => True
  | some d => match wantG f.env r.guard with
    | none => False
    | some false => f.env d = .tup []
    | some true => evI f.env σ r.ins = some (f.env d, σ)
def pwp (P : Program) (Q : AX → Fr → St → Prop) : Plan → Fr → St → Prop
  | .done, f, σ => Q .normal f σ
  | .q r p, f, σ => rwp1 P (fun _ _ _ => False) (pwp P Q p) r f σ
  | .alt r again p more, f, σ => rwp1 P (fun x f σ => match x with | .panic v => ∀ env, Q (.panic v) ⟨env, f.ds⟩ σ | _ => False) (fun f σ => (∀ q ∈ again, chk q f σ) ∧ pwp P Q p f σ) r f σ ∧ pwp P Q more f σ
  | .stop, f, σ => True
section
variable {P : Program} {φ φ' : Phi} {I I' : Nat → Prop} {σ σ' : St} {w w' : World} {nt : Nat} {f : Fr} {a : Act} {Q : AX → Fr → St → Prop} {ops : Array Oper} {R : List RI} {A T : List (List Nat)}
/-! The table. -/
def TOk (A T : List (List Nat)) : Prop := ∀ i x, x ∈ T.getD i [] → ∀ X : Nat → Prop, (∀ k, X k → ∀ y ∈ A.getD k [], X y) → (∀ y ∈ A.getD i [], X y) → X x
theorem foldl_in : ∀ (l : List Nat) (acc : List Nat) (x : Nat), x ∈ l.foldl (fun acc k => if acc.contains k then acc else k :: acc) acc → x ∈ acc ∨ x ∈ l
  | [], acc, x, h => .inl h
  | k :: l, acc, x, h => by
    rcases foldl_in l _ x h with h | h
    · dsimp only at h
      split at h
      · exact .inl h
      · rcases List.mem_cons.1 h with rfl | h
        · exact .inr (by simp)
        · exact .inl h
    · exact .inr (by simp [h])
theorem foldl_in2 (T : List (List Nat)) : ∀ (l : List Nat) (acc : List Nat) (x : Nat), x ∈ l.foldl (fun acc j => (T.getD j []).foldl (fun acc k => if acc.contains k then acc else k :: acc) acc) acc → x ∈ acc ∨ ∃ j ∈ l, x ∈ T.getD j []
  | [], acc, x, h => .inl h
  | j :: l, acc, x, h => by
    rcases foldl_in2 T l _ x h with h | ⟨k, hk, h⟩
    · rcases foldl_in _ _ _ h with h | h
      · exact .inl h
      · exact .inr ⟨j, by simp, h⟩
    · exact .inr ⟨k, by simp [hk], h⟩
theorem tblGo_ok (A : List (List Nat)) : ∀ (as T : List (List Nat)), A.drop T.length = as → TOk A T → TOk A (tblGo as T)
  | [], T, _, h => h
  | a :: as, T, hd, h => by
    have hlt : T.length < A.length := by
      rcases Nat.lt_or_ge T.length A.length with h | h
      · exact h
      · rw [List.drop_eq_nil_of_le h] at hd; simp at hd
    rw [List.drop_eq_getElem_cons hlt] at hd
    obtain ⟨ha, hd⟩ := List.cons.inj hd
    refine tblGo_ok A as _ (by simp [hd]) fun i x hx X hX hi => ?_
    simp only [List.getD_eq_getElem?_getD] at hx
    rcases Nat.lt_trichotomy i T.length with hi' | hi' | hi'
    · rw [List.getElem?_append_left hi'] at hx
      exact h i x (by simpa using hx) X hX hi
    · subst hi'
      have hA : A.getD T.length [] = a := by simp [hlt, ha]
      rw [hA] at hi
      simp only [List.getElem?_append_right (Nat.le_refl _), Nat.sub_self, List.getElem?_cons_zero, Option.getD_some] at hx
      rcases foldl_in2 T _ _ _ hx with hx | ⟨j, hj, hx⟩
      · exact hi x hx
      · exact h j x hx X hX (hX j (hi j hj))
    · rw [List.getElem?_eq_none (by simp; omega)] at hx
      simp at hx
theorem inT_ok (h : TOk A T) {i x : Nat} (hx : inT T i x = true) {X : Nat → Prop} (hX : ∀ k, X k → ∀ y ∈ A.getD k [], X y) (hi : ∀ y ∈ A.getD i [], X y) : X x :=
  h i x (by simpa [inT] using hx) X hX hi
structure EOk (T : List (List Nat)) (R : List RI) (i : Nat) (r : RI) (d : Nat) : Prop where
  dst : r.dst = some d
  quiet : r.ins.quiet = true
  self : d ∉ r.ts
  one : ∀ j q, R[j]? = some q → j ≠ i → q.dst ≠ some d
  read : ∀ j q, R[j]? = some q → j ≠ i → d ∈ q.ts → inT T j i = true
  write : ∀ j q d', R[j]? = some q → j ≠ i → q.dst = some d' → d' ∈ r.ts → inT T i j = true ∨ inT T j i = true
theorem eager_ok {i : Nat} (h : (eagL T R).getD i false = true) : ∃ r d, R[i]? = some r ∧ EOk T R i r d := by
  unfold eagL at h
  rcases Nat.lt_or_ge i R.length with hi | hi
  · simp only [List.getD_eq_getElem?_getD, List.getElem?_map, List.getElem?_range hi, Option.map_some, Option.getD_some, List.getElem?_eq_getElem hi] at h
    refine ⟨R[i], ?_⟩
    unfold eagerB at h
    cases hd : R[i].dst with
    | none => simp [hd] at h
    | some d =>
      simp only [hd, Bool.and_eq_true, Bool.not_eq_true', List.all_eq_true, List.mem_range, Bool.or_eq_true, beq_iff_eq] at h
      obtain ⟨⟨hq, hs⟩, hall⟩ := h
      have key : ∀ j q, R[j]? = some q → j ≠ i → (q.dst ≠ some d ∧ (q.ts.contains d = false ∨ inT T j i = true)) ∧ (match q.dst with | some d' => !R[i].ts.contains d' || inT T i j || inT T j i | none => true) = true := fun j q hj hne => by
        have hlt : j < R.length := (List.getElem?_eq_some_iff.1 hj).1
        have := (hall j hlt).resolve_left hne
        rw [hj] at this
        simpa [and_assoc] using this
      refine ⟨d, List.getElem?_eq_getElem hi, hd, hq, by simpa using hs, fun j q hj hne => (key j q hj hne).1.1, fun j q hj hne hm => (key j q hj hne).1.2.resolve_left (by simpa using hm), fun j q d' hj hne hd' hm => ?_⟩
      have := (key j q hj hne).2
      rw [hd'] at this
      simp only [Bool.or_eq_true, Bool.not_eq_true'] at this
      rcases this with (this | this) | this
      · simp at this; exact absurd hm this
      · exact .inl this
      · exact .inr this
  · simp [List.getElem?_eq_none, hi] at h
theorem wantG_congr {env env' : Env} {g : Option (Nat × Bool)} (h : ∀ t b, g = some (t, b) → env t = env' t) : wantG env g = wantG env' g := by
  cases g with
  | none => rfl
  | some g => obtain ⟨t, b⟩ := g; simp only [wantG, h t b rfl]
theorem rts {r : RI} {env env' : Env} (h : ∀ t ∈ r.ts, env t = env' t) : (∀ t b, r.guard = some (t, b) → env t = env' t) ∧ (∀ t ∈ r.ins.ts, env t = env' t) :=
  ⟨fun t b hg => h t (by simp [RI.ts, hg]), fun t ht => h t (by simp [RI.ts, ht])⟩
theorem evs_congr' {env env' : Env} {xs : List Opd} (h : ∀ t ∈ lTs xs, env t = env' t) : evs env xs = evs env' xs := evs_congr h
/-- An operation where the temporaries that it reads are the same. -/
theorem rwp1_congr {Q' : AX → Fr → St → Prop} {K K' : Fr → St → Prop} {r : RI} {f f' : Fr} (hds : f.ds = f'.ds) (ht : ∀ t ∈ r.ts, f.env t = f'.env t) (h : rwp1 P Q K r f σ) (hq : ∀ v σ, Q (.panic v) f σ → Q' (.panic v) f' σ)
    (hk : ∀ v σ ds, K { f.put r.dst v with ds := ds } σ → K' { f'.put r.dst v with ds := ds } σ) : rwp1 P Q' K' r f' σ := by
  obtain ⟨hg, hi⟩ := rts ht
  have hk0 : ∀ v σ, K (f.put r.dst v) σ → K' (f'.put r.dst v) σ := fun v σ h => by
    have := hk v σ f.ds (by exact h)
    rw [hds] at this
    exact this
  obtain ⟨dst, guard, ins⟩ := r
  unfold rwp1 at h ⊢
  rw [← wantG_congr hg]
  split
  · rename_i hw; rw [hw] at h; exact h
  · rename_i hw; rw [hw] at h; exact hk0 _ _ h
  · rename_i hw
    rw [hw] at h
    simp only at h
    cases ins
    case call k as =>
      simp only at h ⊢
      rw [← evs_congr' (env := f.env) (env' := f'.env) (xs := as) (fun t ht => hi t (by simpa [Ins.ts] using ht))]
      refine CCalls.mono h fun o σ' ho => ?_
      cases o with
      | ret v => exact hk0 _ _ ho
      | panic v => exact hq _ _ ho
    case callv g as =>
      simp only at h ⊢
      rw [← evs_congr' (env := f.env) (env' := f'.env) (xs := as) (fun t ht => hi t (by simp [Ins.ts, ht])), ← ev_congr (env := f.env) (env' := f'.env) (x := g) (fun t ht => hi t (by simp [Ins.ts, ht]))]
      split
      · rename_i hg2
        rw [hg2] at h
        refine ⟨h.1, CCalls.mono h.2 fun o σ' ho => ?_⟩
        cases o with
        | ret v => exact hk0 _ _ ho
        | panic v => exact hq _ _ ho
      · rename_i hg2
        split at h
        · rename_i hg3; exact absurd hg3 (hg2 _ _ _)
        · exact h
    case defer g as =>
      simp only at h ⊢
      rw [← evs_congr' (env := f.env) (env' := f'.env) (xs := as) (fun t ht => hi t (by simp [Ins.ts, ht])), ← ev_congr (env := f.env) (env' := f'.env) (x := g) (fun t ht => hi t (by simp [Ins.ts, ht]))]
      split
      · rename_i hg2
        rw [hg2] at h
        rw [← hds]
        cases dst with
        | none => exact hk (.tup []) _ _ h
        | some d => exact hk (.tup []) _ _ h
      · rename_i hg2
        split at h
        · rename_i hg3; exact absurd hg3 (hg2 _ _ _)
        · exact h
    case panic x =>
      simp only at h ⊢
      rw [← ev_congr (env := f.env) (env' := f'.env) (x := x) (fun t ht => hi t (by simp [Ins.ts, ht]))]
      split
      · rename_i hg2; rw [hg2] at h; exact hq _ _ h
      · rename_i hg2
        split at h
        · rename_i hg3; exact absurd hg3 (hg2 _ _)
        · exact h
    case recover => exact h
    all_goals
      simp only at h ⊢
      rw [← evI_congr hi]
      split
      · rename_i he; rw [he] at h; exact hk0 _ _ h
      · rename_i he; rw [he] at h; exact h
/-- What was done already, done now. -/
theorem chk_rwp1 {K : Fr → St → Prop} {r : RI} {d : Nat} {f f' : Fr} (hd : r.dst = some d) (hq : r.ins.quiet = true) (hc : chk r f σ) (ht : ∀ t ∈ r.ts, f.env t = f'.env t) (h : K (f'.put r.dst (f.env d)) σ) : rwp1 P Q K r f' σ := by
  obtain ⟨hg, hi⟩ := rts ht
  unfold chk at hc
  rw [hd] at hc
  simp only at hc
  unfold rwp1
  rw [← wantG_congr hg]
  split at hc
  · exact hc.elim
  · rename_i hw; rw [hw]; rw [hc] at h; exact h
  · rename_i hw
    rw [hw]
    rw [evI_congr hi] at hc
    obtain ⟨dst, guard, ins⟩ := r
    cases ins <;> simp only [Ins.quiet, Bool.false_eq_true] at hq <;> simp only [hc] <;> exact h
theorem rwp1_quiet {K : Fr → St → Prop} {r : RI} {d : Nat} (hd : r.dst = some d) (hq : r.ins.quiet = true) (hs : d ∉ r.ts) (h : rwp1 P Q K r f σ) : ∃ v, K (f.put r.dst v) σ ∧ chk r (f.put r.dst v) σ := by
  have same : ∀ v, ∀ t ∈ r.ts, (f.put r.dst v).env t = f.env t := fun v t ht => by
    rw [hd]
    simp only [Fr.put, Env.put]
    rw [if_neg (fun e : t = d => hs (e ▸ ht))]
  unfold chk
  have at_d : ∀ v, (f.put r.dst v).env d = v := fun v => by rw [hd]; simp [Fr.put, Env.put]
  simp only [hd] at at_d same ⊢
  unfold rwp1 at h
  split at h
  · exact h.elim
  · rename_i hw
    refine ⟨_, by rw [hd] at h; exact h, ?_⟩
    rw [wantG_congr (rts (same _)).1, hw]
    exact at_d _
  · rename_i hw
    have : ∃ v σ', evI f.env σ r.ins = some (v, σ') ∧ K (f.put r.dst v) σ' := by
      obtain ⟨dst, guard, ins⟩ := r
      cases ins <;> simp only [Ins.quiet, Bool.false_eq_true] at hq <;> (simp only at h; split at h <;> first | exact ⟨_, _, by assumption, h⟩ | exact h.elim)
    obtain ⟨v, σ', he, hk⟩ := this
    have e := evI_keeps (σ'' := σ) hq he
    subst e
    refine ⟨v, by rw [hd] at hk; exact hk, ?_⟩
    rw [wantG_congr (rts (same _)).1, hw]
    simp only [at_d]
    rw [evI_congr (rts (same _)).2]
    exact he
end
end Go.Proofs.YtmjbnfldehbmcaaDoor.Ab
