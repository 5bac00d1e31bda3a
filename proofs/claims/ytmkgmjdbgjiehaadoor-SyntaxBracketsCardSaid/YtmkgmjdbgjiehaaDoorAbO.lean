/-
The walk over the program's texts, told with what its values say: a part of it. No further condition.
-/
import Derived.Test.YtmkgmjdbgjiehaaDoorAbI
namespace Go.Proofs.YtmkgmjdbgjiehaaDoor.Ab
open Go.RowKit
set_option linter.unusedVariables false
set_option linter.unusedSimpArgs false
inductive RC where
  | t (n : Nat)
  | c (n : Nat) (k : Option Nat)
  | cut (σ : St)
structure CF where
  nt : Nat
  res : List RC
  body : C
def cRes (P : Program) (nt : Nat) : ResultVar → Option RC
  | .tmp t => if t < nt then some (.t t) else none
  | .cell a t => if a < nt then (P.underlying t).bind fun d => if isAggD d = true then (sizeD P t).map fun n => .c a (some n) else some (.c a none) else none
def compF (pl : Program → Nat → Array Oper → Option Plan) (P : Program) (k : FuncId) : Option CF :=
  (P.funcs[k]?).bind fun fn => fn.body.bind fun b => (compC pl P fn.ntmps b).bind fun c => (fn.results.toList.mapM (cRes P fn.ntmps)).map fun rs => ⟨fn.ntmps, rs, c⟩
def resV (env : Env) (σ : St) : RC → Option V
  | .t n => some (env n)
  | .c n none => (evI env σ (.ld (.t n))).map (·.1)
  | .c n (some k) => (evI env σ (.lda k (.t n))).map (·.1)
  | .cut _ => none
def resL (env : Env) (σ : St) : List RC → Option (List V)
  | [] => some []
  | r :: rs => (resV env σ r).bind fun v => (resL env σ rs).map (v :: ·)
def one : List V → V
  | [v] => v
  | vs => .tup vs
def retV (rs : List RC) (env : Env) (σ : St) : Option V := (resL env σ rs).map one
def envOf (vs : List V) : Env := fun t => vs.getD t (.tup [])
inductive Md where
  | ret
  | pan (v : V)
  | rcv (v : V)
def settleM : Md → Md
  | .rcv _ => .ret
  | m => m
inductive ModeR (φ : Phi) (I : Nat → Prop) (w : World) : Md → FrameMode → Prop where
  | ret : ModeR φ I w .ret .returning
  | pan {v : V} {c : Value} (h : Rel φ I w v c) : ModeR φ I w (.pan v) (.panicking [{ v := c, recovered := false }])
  | rcv {v : V} {c : Value} (h : Rel φ I w v c) : ModeR φ I w (.rcv v) (.panicking [{ v := c, recovered := true }])
def DCalls (P : Program) (k : FuncId) (vs : List V) (m : Md) (σ : St) (R : CO → Md → St → Prop) : Prop :=
  ∀ φ I w cs u, Sim φ I σ w → RelA φ I w vs cs → ModeR φ I w m u → CallsDIn Fence.wide 0 P k cs u w fun e u' w' =>
    ∃ o m' σ' φ' I', R o m' σ' ∧ RelO φ' I' w' o e ∧ ModeR φ' I' w' m' u' ∧ Evo φ I σ w φ' I' σ' w' ∧ Sim φ' I' σ' w'
def DLv (P : Program) (rs : List RC) (env : Env) (R : CO → St → Prop) : List AD → Md → St → Prop
  | [], .ret, σ => ∃ v, retV rs env σ = some v ∧ R (.ret v) σ
  | [], .pan v, σ => R (.panic v) σ
  | [], .rcv _, σ => False
  | .coll :: ds, m, σ => DLv P rs env R ds m σ
  | .call fn cap args :: ds, m, σ => ∃ k, fn = .func k ∧ hasBody P k = true ∧ DCalls P k (args ++ cap) m σ fun o m' σ' => match o with
    | .ret _ => DLv P rs env R ds (settleM m') σ'
    | .panic v => m' = .ret ∧ DLv P rs env R ds (.pan v) σ'
def Post (P : Program) (rs : List RC) (R : CO → St → Prop) (x : AX) (f : Fr) (σ : St) : Prop :=
  match x with
  | .normal | .ret => DLv P rs f.env R f.ds .ret σ
  | .panic v => DLv P rs f.env R f.ds (.pan v) σ
  | .exit _ => False
section
variable {pl : Program → Nat → Array Oper → Option Plan} {P : Program} {φ φ' : Phi} {I I' : Nat → Prop} {σ σ' : St} {w w' : World} {nt : Nat} {f : Fr} {a : Act} {Q : AX → Fr → St → Prop}
theorem res_run (hs : Sim φ I σ w) (hf : EnvR φ I w nt f.env a) {r : ResultVar} {rc : RC} (hc : cRes P nt r = some rc) {v : V} (h : resV f.env σ rc = some v) :
    ∃ c, (match r with | .tmp t => (pure (a.tmps.getD t undef) : Sem Value) | .cell x t => do loadVar t (← asAddr (a.tmps.getD x undef))).run P w = .ok c w ∧ Rel φ I w v c := by
  have ld : ∀ (t : TypeId) (n : Nat), n < nt → ∀ (o : Oper), o = ⟨none, .load t (.tmp n), 0, "", #[], none⟩ → Quiet P φ I w a o v → ∃ c, (do loadVar t (← asAddr (a.tmps.getD n undef)) : Sem Value).run P w = .ok c w ∧ Rel φ I w v c := fun t n _ o ho hq => by
    subst ho
    obtain ⟨c, h1, h2⟩ := hq
    refine ⟨c, ?_, h2⟩
    simp only [execOp, Instr.loadAt, Act.eval] at h1
    rw [Sem.run_bind] at h1 ⊢
    rw [Sem.run_bind] at h1
    generalize a.tmps.getD n undef = x at h1 ⊢
    cases x <;> simp [Instr.sureAddr, asAddr] at h1 ⊢
    rename_i p
    cases p
    · simp [Instr.sureAddr] at h1
    · simp [Instr.sureAddr] at h1 ⊢
      generalize (loadVar t _).run P w = R at h1 ⊢
      cases R <;> simp at h1 ⊢
      exact h1
  cases r with
  | tmp t =>
    simp only [cRes] at hc
    split at hc <;> simp at hc
    rename_i hlt
    subst hc
    simp only [resV, Option.some.injEq] at h
    subst h
    exact ⟨_, rfl, hf t hlt⟩
  | cell x t =>
    simp only [cRes] at hc
    split at hc <;> simp only [Option.bind_eq_some_iff, reduceCtorEq] at hc
    rename_i hlt
    obtain ⟨d, hd, hc⟩ := hc
    split at hc
    · rename_i hag
      simp only [Option.map_eq_some_iff] at hc
      obtain ⟨n, hn, rfl⟩ := hc
      simp only [resV, Option.map_eq_some_iff] at h
      obtain ⟨⟨v', σ'⟩, he, rfl⟩ := h
      exact ld t x hlt _ rfl (quiet_lda (o := ⟨none, .load t (.tmp x), 0, "", #[], none⟩) rfl hd hag hn hs hf (x := .tmp x) (by simp [cOpd, hlt]) he).2
    · rename_i hag
      simp only [Option.some.injEq] at hc
      subst hc
      simp only [resV, Option.map_eq_some_iff] at h
      obtain ⟨⟨v', σ'⟩, he, rfl⟩ := h
      exact ld t x hlt _ rfl (quiet_ld (o := ⟨none, .load t (.tmp x), 0, "", #[], none⟩) rfl hd (by simpa using hag) hs hf (x := .tmp x) (by simp [cOpd, hlt]) he).2
theorem resL_run (hs : Sim φ I σ w) (hf : EnvR φ I w nt f.env a) : ∀ (l : List ResultVar) (rs : List RC) (vs : List V), l.mapM (cRes P nt) = some rs → resL f.env σ rs = some vs →
    ∃ cs : List Value, (l.mapM (m := Sem) fun | .tmp t => (pure (a.tmps.getD t undef) : Sem Value) | .cell x t => do loadVar t (← asAddr (a.tmps.getD x undef))).run P w = .ok cs w ∧ cs.length = vs.length ∧ ∀ i v, vs[i]? = some v → Rel φ I w v (cs.getD i undef)
  | [], rs, vs, hc, h => by
    simp at hc; subst hc
    simp only [resL, Option.some.injEq] at h; subst h
    exact ⟨[], by simp, rfl, fun i v h => by simp at h⟩
  | r :: l, rs, vs, hc, h => by
    rw [List.mapM_cons] at hc
    simp only [Option.bind_eq_bind, Option.bind_eq_some_iff, Option.pure_def, Option.some.injEq] at hc
    obtain ⟨rc, hrc, rs', hrs, rfl⟩ := hc
    simp only [resL, Option.bind_eq_some_iff, Option.map_eq_some_iff] at h
    obtain ⟨v, hv, vs', hvs, rfl⟩ := h
    obtain ⟨c, h1, h2⟩ := res_run hs hf hrc hv
    obtain ⟨cs, h3, h4, h5⟩ := resL_run hs hf l rs' vs' hrs hvs
    refine ⟨c :: cs, ?_, by simp [h4], fun i u hu => ?_⟩
    · rw [List.mapM_cons, Sem.run_bind]
      have h1' := h1
      erw [h1']
      simp only [Result.andThen_ok, Sem.run_bind]
      erw [h3]
      rfl
    · cases i with
      | zero => simp at hu; subst hu; simpa using h2
      | succ i => simpa using h5 i u (by simpa using hu)
theorem ret_run {fn : Func} {rs : List RC} (hs : Sim φ I σ w) (hf : EnvR φ I w nt f.env a) (hc : fn.results.toList.mapM (cRes P nt) = some rs) {v : V} (h : retV rs f.env σ = some v) :
    ∃ c, (results fn a.tmps).run P w = .ok c w ∧ Rel φ I w v c := by
  simp only [retV, Option.map_eq_some_iff] at h
  obtain ⟨vs, hvs, rfl⟩ := h
  obtain ⟨cs, h1, h2, h3⟩ := resL_run hs hf _ rs vs hc hvs
  have hm : (fn.results.mapM (m := Sem) fun | .tmp t => (pure (a.tmps.getD t undef) : Sem Value) | .cell x t => do loadVar t (← asAddr (a.tmps.getD x undef))).run P w = .ok cs.toArray w := by
    rw [Array.mapM_eq_mapM_toList]
    simp only [Functor.map]
    rw [show ∀ (x : Sem (List Value)), (Sem.bind x (Sem.pure ∘ List.toArray)).run P w = _ from fun x => Sem.run_bind' P x _ w]
    erw [h1]
    rfl
  unfold results
  rw [Sem.run_bind]
  erw [hm]
  simp only [Result.andThen_ok, Sem.run_pure]
  refine ⟨_, rfl, ?_⟩
  match vs, cs, h2, h3 with
  | [], [], _, h3 => exact .tup rfl (fun i v h => by simp at h)
  | [v], [c], _, h3 => simpa [one] using h3 0 v rfl
  | v :: v2 :: vs, c :: c2 :: cs, h2, h3 =>
    simp only [one]
    rw [dif_neg (by simp)]
    exact .tup (by simpa using h2) (fun i u hu => by simpa using h3 i u hu)
theorem enter_rel {vs : List V} {cs : Array Value} (h : RelA φ I w vs cs) (hl : vs.length ≤ nt) : RelF nt w.heap.size φ I w ⟨envOf vs, []⟩ { tmps := cs ++ Array.replicate (nt - cs.size) undef, defers := [] } := by
  refine ⟨by simp [h.1]; omega, fun t ht => ?_, trivial, Nat.le_refl _⟩
  simp only [envOf, Array.getD_eq_getD_getElem?]
  by_cases hi : t < vs.length
  · rw [Array.getElem?_append_left (by rw [h.1]; exact hi)]
    have := h.2 t vs[t] (List.getElem?_eq_getElem hi)
    simpa [hi] using this
  · rw [Array.getElem?_append_right (by rw [h.1]; omega)]
    have : t - cs.size < nt - cs.size := by rw [h.1]; omega
    simp [hi, this]
    exact .tup rfl (fun i v h => by simp at h)
theorem ModeR.evo {m : Md} {u : FrameMode} (h : ModeR φ I w m u) (hs : Sim φ I σ w) (he : Evo φ I σ w φ' I' σ' w') : ModeR φ' I' w' m u := by
  cases h with
  | ret => exact .ret
  | pan h => exact .pan (h.evo hs he)
  | rcv h => exact .rcv (h.evo hs he)
theorem ModeR.settle {m : Md} {u : FrameMode} (h : ModeR φ I w m u) : ModeR φ I w (settleM m) (settle u) := by
  cases h with
  | ret => exact .ret
  | pan h => exact .pan h
  | rcv h => exact .ret
theorem sim_shut (hs : Sim φ I σ w) {D : Nat} (hD : w.heap[D]? = some (.deferred (some []))) (hW : σ.W.heap.size ≤ D) :
    Sim φ I σ (w.putObj D (.deferred none)) ∧ ∀ v c, Rel φ I w v c → Rel φ I (w.putObj D (.deferred none)) v c := by
  have hlt : D < w.heap.size := (Array.getElem?_eq_some_iff.1 hD).1
  have hoth : ∀ k, k ≠ D → (w.putObj D (.deferred none)).heap[k]? = w.heap[k]? := fun k hk => World.putObj_heap_other hk
  have hsame := World.putObj_heap_same (w := w) (o := Obj.deferred none) hlt
  have hcel : ∀ (a : Addr) c, w.cell? a = some c → (w.putObj D (.deferred none)).cell? a = some c := fun a c h => by
    have hne : a.block ≠ D := fun e => by
      unfold World.cell? at h
      rw [e, hD] at h
      simp at h
    rw [cell?_of_heap (hoth _ hne)]; exact h
  have hN : ∀ b, cellsOf (w.putObj D (.deferred none)) b = cellsOf w b := fun b => by
    unfold cellsOf
    by_cases e : b = D
    · subst e; rw [hsame, hD]
    · rw [hoth b e]
  have hrel : ∀ v c, Rel φ I w v c → Rel φ I (w.putObj D (.deferred none)) v c := fun v c h => by
    induction h with
    | bool b => exact .bool b
    | int k n => exact .int k n
    | str h => exact .str h
    | nilp => exact .nilp
    | ptr i j h => exact .ptr i j h
    | iptr j hb hcs ho hp hr ih => exact .iptr j hb (fun k hk => hcel _ _ (hcs k hk)) ho hp (fun k v hk => ih k v hk)
    | nils => exact .nils
    | slc h hl hn ha => exact .slc h hl (hn.trans (hN _).symm) ha
    | islc hl ha hz hcs ho hp hr ih => exact .islc hl ha hz (fun i j hi hj => hcel _ _ (hcs i j hi hj)) ho hp (fun i j e v h1 h2 => ih i j e v h1 h2)
    | mapn => exact .mapn
    | map h => exact .map h
    | func fn h1 r1 h2 r2 ih1 ih2 => exact .func fn h1 ih1 h2 ih2
    | nilf => exact .nilf
    | iface t h ih => exact .iface t ih
    | nili => exact .nili
    | agg h r ih => exact .agg h ih
    | tup h r ih => exact .tup h ih
    | any c => exact .any c
  refine ⟨⟨hs.dom, fun l x h => by have := hs.blk l x h; simpa using this, fun l b h => ?_, hs.notI, hs.inj, fun b h => by have := hs.imm b h; simpa using this, fun b h => ⟨(hs.base b h).1, (hoth b (by omega)).trans (hs.base b h).2⟩⟩, hrel⟩
  obtain ⟨x, h1, h2⟩ := hs.live l b h
  refine ⟨x, h1, ?_⟩
  cases h2 with
  | row hh hfz hpos hz hsz ho hr => exact .row ((hoth _ (fun e => by rw [e, hD] at hh; simp at hh)).trans hh) hfz hpos hz hsz ho fun i j e v h1 h2 => hrel _ _ (hr i j e v h1 h2)
  | map hh hn hr => exact .map ((hoth _ (fun e => by rw [e, hD] at hh; simp at hh)).trans hh) hn fun i kv e h1 h2 => ⟨hrel _ _ (hr i kv e h1 h2).1, hrel _ _ (hr i kv e h1 h2).2⟩
  | lp hh hr => exact .lp ((hoth _ (fun e => by rw [e, hD] at hh; simp at hh)).trans hh) hr
theorem RelA.any {vs : List V} {cs : Array Value} (h : RelA φ I w vs cs) (hr : ∀ v c, Rel φ I w v c → Rel φ I w' v c) : RelA φ I w' vs cs := ⟨h.1, fun i v hv => hr _ _ (h.2 i v hv)⟩
theorem RelDs.shut {lo D : Nat} (hr : ∀ v c, Rel φ I w v c → Rel φ I w' v c) (hoth : ∀ k, k < D → w'.heap[k]? = w.heap[k]?) : ∀ {hi : Nat} {ds : List AD} {cs : List Deferred}, hi ≤ D → RelDs lo φ I w hi ds cs → RelDs lo φ I w' hi ds cs
  | _, [], [], _, h => trivial
  | hi, .call fn cap args :: ds, c :: cs, hh, h => by
    obtain ⟨⟨⟨x, h1, h2⟩, h3⟩, h4⟩ := h
    exact ⟨⟨⟨x, h1, h2.any hr⟩, h3.any hr⟩, RelDs.shut hr hoth hh h4⟩
  | hi, .coll :: ds, c :: cs, hh, h => by
    obtain ⟨D', h1, h0, h5, h2, h3, h4⟩ := h
    exact ⟨D', h1, h0, h5, h2, (hoth D' (by omega)).trans h3, RelDs.shut hr hoth (by omega) h4⟩
  | _, [], _ :: _, _, h => h.elim
  | _, d :: _, [], _, h => by cases d <;> exact h.elim
theorem leaves_ok {fn : Func} {rs : List RC} {env : Env} {tmps : Array Value} {R : CO → St → Prop} (hrs : fn.results.toList.mapM (cRes P nt) = some rs) {lo : Nat} {φ0 : Phi} {I0 : Nat → Prop} {σ0 : St} {w0 : World} (hs0 : Sim φ0 I0 σ0 w0) (hlo : w0.heap.size ≤ lo) :
    ∀ (ds : List AD) (m : Md) (hi : Nat) (σ : St) (φ : Phi) (I : Nat → Prop) (w : World) (cds : List Deferred) (u : FrameMode), RelDs lo φ I w hi ds cds → ModeR φ I w m u → Sim φ I σ w → EnvR φ I w nt env { tmps := tmps, defers := [] } → DLv P rs env R ds m σ → Evo φ0 I0 σ0 w0 φ I σ w →
      LeavesInM Fence.wide 0 P fn tmps (fun e w' => ∃ o σ' φ' I', R o σ' ∧ RelO φ' I' w' o e ∧ Evo φ0 I0 σ0 w0 φ' I' σ' w' ∧ Sim φ' I' σ' w') cds u w
  | [], m, hi, σ, φ, I, w, [], u, hd, hm, hs, hf, h, he => by
    cases hm with
    | ret =>
      obtain ⟨v, hv, hR⟩ := h
      obtain ⟨c, hc1, hc2⟩ := ret_run (f := ⟨env, []⟩) hs hf hrs hv
      exact ⟨c, hc1, _, _, _, _, hR, .ret hc2, he, hs⟩
    | pan hv => exact ⟨_, _, _, _, h, .panic hv, he, hs⟩
    | rcv hv => exact h.elim
  | .coll :: ds, m, hi, σ, φ, I, w, c :: cds, u, hd, hm, hs, hf, h, he => by
    obtain ⟨D, h1, h0, h5, h2, h3, h4⟩ := hd
    have hDW : σ.W.heap.size ≤ D := by
      have hb : ∀ b, b < σ0.W.heap.size → b < w0.heap.size := fun b hb => hs0.imm b (hs0.base b hb).1
      rw [he.base]
      rcases Nat.lt_or_ge D σ0.W.heap.size with hlt | hge
      · have := hb D hlt; omega
      · exact hge
    obtain ⟨s1, r1⟩ := sim_shut hs h3 hDW
    have hlt : D < w.heap.size := (Array.getElem?_eq_some_iff.1 h3).1
    have hoth : ∀ k, k ≠ D → (w.putObj D (.deferred none)).heap[k]? = w.heap[k]? := fun k hk => World.putObj_heap_other hk
    have hsame := World.putObj_heap_same (w := w) (o := Obj.deferred none) hlt
    refine ⟨by cases hm <;> simp, .inl ⟨D, _, h1, run_takeDeferred h3, ?_⟩⟩
    refine leaves_ok hrs hs0 hlo ds m D σ φ I _ cds u (h4.shut r1 (fun k hk => hoth k (by omega)) (Nat.le_refl _)) ?_ s1 (fun t ht => r1 _ _ (hf t ht)) h ?_
    · cases hm with
      | ret => exact .ret
      | pan hv => exact .pan (r1 _ _ hv)
      | rcv hv => exact .rcv (r1 _ _ hv)
    · refine ⟨he.phi, he.imm, he.immNew, he.liveNew, by have := he.size; simpa using this, fun b hb => ?_, fun b hb hn => (hoth b (by omega)).trans (he.frame b hb hn), he.os, he.tape, he.output, he.base, fun b r hr => ?_⟩
      · rw [← he.shape b hb]
        unfold cellsOf
        rw [hoth b (by omega)]
      · obtain ⟨st, pe, hh⟩ := he.loops b r hr
        have := (Array.getElem?_eq_some_iff.1 hr).1
        exact ⟨st, pe, (hoth b (by omega)).trans hh⟩
  | .call fv cap args :: ds, m, hi, σ, φ, I, w, c :: cds, u, hd, hm, hs, hf, h, he => by
    obtain ⟨⟨⟨x, h1, h2⟩, h3⟩, h4⟩ := hd
    obtain ⟨k, rfl, hb, hcall⟩ := h
    have hrun : u ≠ .run := by cases hm <;> simp
    refine ⟨hrun, Or.inr ⟨fun h => by simp [Fence.wide] at h, .func k, x, k, c.args ++ x, h1, ?_, fun _ _ => trivial, ?_⟩⟩
    · rw [h1]; simp only [invoke]; exact run_hasBody hb _
    · refine (hcall φ I w _ u hs (h3.append h2) hm).mono ?_
      rintro e u' w' ⟨o, m', σ', φ', I', hR, hO, hM, hE, hS⟩
      cases hO with
      | ret hv => exact leaves_ok hrs hs0 hlo ds _ hi σ' φ' I' w' cds _ (h4.evo hs hE) hM.settle hS (fun t ht => (hf t ht).evo hs hE) hR (he.trans hE)
      | panic hv =>
        obtain ⟨rfl, hR⟩ := hR
        cases hM
        exact leaves_ok hrs hs0 hlo ds (.pan _) hi σ' φ' I' w' cds _ (h4.evo hs hE) (.pan hv) hS (fun t ht => (hf t ht).evo hs hE) hR (he.trans hE)
  | [], _, _, _, _, _, _, _ :: _, _, hd, _, _, _, _, _ => hd.elim
  | d :: _, _, _, _, _, _, _, [], _, hd, _, _, _, _, _ => by cases d <;> exact hd.elim
theorem ccallsY_of {Y : YS P} {k : FuncId} {cf : CF} {vs : List V} {R : CO → St → Prop} (hcf : compF pl P k = some cf) (hl : vs.length ≤ cf.nt) (h : CWof pl P none Y cf.nt cf.body ⟨envOf vs, []⟩ σ (Post P cf.res R)) : CCallsY P Y k vs σ R := by
  intro φ I w cs hs ha hy
  simp only [compF, Option.bind_eq_some_iff, Option.map_eq_some_iff] at hcf
  obtain ⟨fn, hfn, b, hb, c, hc, rs, hrs, rfl⟩ := hcf
  refine callsIn_wide.1 (callsIn_of_wp_marks (n := 0) (F := Fence.wide) hfn hb trivial (wpIn_mono (h b hc w.heap.size φ I w _ hs (enter_rel ha hl) hy) fun e a' w' hl => ?_))
  obtain ⟨x, f', σ', φ', I', h1, h2, h3, h4, h5⟩ := hl
  have hret : ∀ m u, ModeR φ' I' w' m u → DLv P rs f'.env R f'.ds m σ' → LeavesInM Fence.wide 0 P fn a'.tmps (fun e w' => ∃ o σ' φ' I', R o σ' ∧ RelO φ' I' w' o e ∧ Evo φ I σ w φ' I' σ' w' ∧ Sim φ' I' σ' w') a'.defers u w' := fun m u hm hd =>
    leaves_ok hrs hs (Nat.le_refl _) f'.ds m _ σ' φ' I' w' a'.defers u h5.ds hm h4 h5.env hd h3
  cases h2 with
  | normal => exact hret _ _ .ret h1
  | ret => exact hret _ _ .ret h1
  | exit id => exact h1.elim
  | panic hv => exact hret _ _ (.pan hv) h1
theorem ccalls_of {k : FuncId} {cf : CF} {vs : List V} {R : CO → St → Prop} (hcf : compF pl P k = some cf) (hl : vs.length ≤ cf.nt) (h : CWof pl P none (noY P) cf.nt cf.body ⟨envOf vs, []⟩ σ (Post P cf.res R)) : CCalls P k vs σ R :=
  fun φ I w cs hs ha => ccallsY_of hcf hl h φ I w cs hs ha trivial
theorem dcalls_of {k : FuncId} {cf : CF} {vs : List V} {R : CO → St → Prop} {m : Md} (hcf : compF pl P k = some cf) (hl : vs.length ≤ cf.nt)
    (h : CWof pl P none (noY P) cf.nt cf.body ⟨envOf vs, []⟩ σ fun x f σ' => match x with
      | .normal | .ret => f.ds = [] ∧ ∃ v, retV cf.res f.env σ' = some v ∧ R (.ret v) σ'
      | .panic v => f.ds = [] ∧ R (.panic v) σ'
      | .exit _ => False) : DCalls P k vs m σ fun o m' σ' => m' = m ∧ R o σ' := by
  intro φ I w cs u hs ha hm
  simp only [compF, Option.bind_eq_some_iff, Option.map_eq_some_iff] at hcf
  obtain ⟨fn, hfn, b, hb, c, hc, rs, hrs, rfl⟩ := hcf
  refine (callsDIn_of_wp (n := 0) (F := Fence.wide) (R := fun e w' => ∃ o σ' φ' I', R o σ' ∧ RelO φ' I' w' o e ∧ Evo φ I σ w φ' I' σ' w' ∧ Sim φ' I' σ' w') hfn hb trivial (wpIn_mono (h b hc w.heap.size φ I w _ hs (enter_rel ha hl) trivial) fun e a' w' hl => ?_)).mono ?_
  · obtain ⟨x, f', σ', φ', I', h1, h2, h3, h4, h5⟩ := hl
    have hd : f'.ds = [] → a'.defers = [] := fun e => by
      have := h5.ds
      rw [e] at this
      cases hh : a'.defers with
      | nil => rfl
      | cons d ds => rw [hh] at this; exact this.elim
    have hret : (f'.ds = [] ∧ ∃ v, retV rs f'.env σ' = some v ∧ R (.ret v) σ') → a'.defers = [] ∧ ∃ v, (results fn a'.tmps).run P w' = .ok v w' ∧ ∃ o σ'' φ' I', R o σ'' ∧ RelO φ' I' w' o (.returned v) ∧ Evo φ I σ w φ' I' σ'' w' ∧ Sim φ' I' σ'' w' := fun ⟨e, v, hv, hR⟩ => by
      obtain ⟨c, hc1, hc2⟩ := ret_run h4 h5.env hrs hv
      exact ⟨hd e, c, hc1, _, _, _, _, hR, .ret hc2, h3, h4⟩
    cases h2 with
    | normal => exact hret h1
    | ret => exact hret h1
    | exit id => exact h1.elim
    | panic hv => exact ⟨hd h1.1, _, _, _, _, h1.2, .panic hv, h3, h4⟩
  · rintro e u' w' ⟨rfl, o, σ', φ', I', h1, h2, h3, h4⟩
    exact ⟨o, m, σ', φ', I', ⟨rfl, h1⟩, h2, hm.evo hs h3, h3, h4⟩
end
end Go.Proofs.YtmkgmjdbgjiehaaDoor.Ab
namespace Go.Proofs.YtmkgmjdbgjiehaaDoor.Ab
open Go.RowKit
set_option linter.unusedVariables false
set_option linter.unusedSimpArgs false
inductive Lt (n : Nat → Bool) : V → Prop where
  | bool (b : Bool) : Lt n (.bool b)
  | int (k : IntKind) (i : Int) : Lt n (.int k i)
  | str (s : List UInt8) : Lt n (.str s)
  | nilp : Lt n .nilp
  | ptr (l i j : Nat) (h : n l = true) : Lt n (.ptr l i j)
  | iptr (e : List V) (j : Nat) : Lt n (.iptr e j)
  | nils : Lt n .nils
  | slc (l o k : Nat) (h : n l = true) : Lt n (.slc l o k)
  | islc (z : Nat) (es : List (List V)) : Lt n (.islc z es)
  | mapn : Lt n .mapn
  | map (l : Nat) (h : n l = true) : Lt n (.map l)
  | func (fn : Fn) (a b : List V) (ha : ∀ v ∈ a, Lt n v) (hb : ∀ v ∈ b, Lt n v) : Lt n (.func fn a b)
  | nilf : Lt n .nilf
  | iface (t : TypeId) (v : V) (h : Lt n v) : Lt n (.iface t v)
  | nili : Lt n .nili
  | agg (vs : List V) (h : ∀ v ∈ vs, Lt n v) : Lt n (.agg vs)
  | tup (vs : List V) (h : ∀ v ∈ vs, Lt n v) : Lt n (.tup vs)
  | any : Lt n .any
def BLt (n : Nat → Bool) : Blk → Prop
  | .row _ es => ∀ e ∈ es, ∀ v ∈ e, Lt n v
  | .map es => ∀ p ∈ es, Lt n p.1 ∧ Lt n p.2
  | .lp _ => True
section
variable {P : Program} {φ φ' : Phi} {I I' : Nat → Prop} {σ σ' : St} {w w' : World}
theorem mem_get {α : Type} {l : List α} {x : α} (h : x ∈ l) : ∃ i : Nat, l[i]? = some x := List.mem_iff_getElem?.1 h
theorem Rel.lt {n : Nat → Bool} (hd : ∀ l x, φ l = some x → n l = true) {v : V} {c : Value} (h : Rel φ I w v c) : Lt n v := by
  induction h with
  | bool b => exact .bool b
  | int k n => exact .int k n
  | str h => exact .str _
  | nilp => exact .nilp
  | ptr i j h => exact .ptr _ _ _ (hd _ _ h)
  | iptr j => exact .iptr _ _
  | nils => exact .nils
  | slc h => exact .slc _ _ _ (hd _ _ h)
  | islc => exact .islc _ _
  | mapn => exact .mapn
  | map h => exact .map _ (hd _ _ h)
  | func fn h1 r1 h2 r2 ih1 ih2 =>
    exact .func _ _ _ (fun v hv => by obtain ⟨i, hi⟩ := mem_get hv; exact ih1 i v hi) (fun v hv => by obtain ⟨i, hi⟩ := mem_get hv; exact ih2 i v hi)
  | nilf => exact .nilf
  | iface t h ih => exact .iface _ _ ih
  | nili => exact .nili
  | agg h r ih => exact .agg _ (fun v hv => by obtain ⟨i, hi⟩ := mem_get hv; exact ih i v hi)
  | tup h r ih => exact .tup _ (fun v hv => by obtain ⟨i, hi⟩ := mem_get hv; exact ih i v hi)
  | any c => exact .any
theorem pure_lt {n : Nat → Bool} : ∀ {v : V}, v.pure = true → Lt n v
  | .bool b, _ => .bool b
  | .int k i, _ => .int k i
  | .str s, _ => .str s
  | .nilp, _ => .nilp
  | .ptr _ _ _, h => by simp [V.pure] at h
  | .iptr e j, _ => .iptr e j
  | .nils, _ => .nils
  | .slc _ _ _, h => by simp [V.pure] at h
  | .islc z es, _ => .islc z es
  | .mapn, _ => .mapn
  | .map _, h => by simp [V.pure] at h
  | .func fn a b, h => by
    simp only [V.pure, Bool.and_eq_true, List.isEmpty_iff] at h
    obtain ⟨rfl, rfl⟩ := h
    exact .func fn [] [] (fun v h => by simp at h) (fun v h => by simp at h)
  | .nilf, _ => .nilf
  | .iface t v, h => .iface t v (pure_lt (by cases v <;> simp_all [V.pure]))
  | .nili, _ => .nili
  | .agg _, h => by simp [V.pure] at h
  | .tup _, h => by simp [V.pure] at h
  | .any, _ => .any
theorem Rel.cut {n : Nat → Bool} (hφ : ∀ l x, n l = true → φ l = some x → φ' l = some x) (hI : ∀ b, I b → I' b) {v : V} {c : Value} (h : Rel φ I w v c) (hl : Lt n v) : Rel φ' I' w v c := by
  induction h with
  | bool b => exact .bool b
  | int k n => exact .int k n
  | str h => exact .str h
  | nilp => exact .nilp
  | ptr i j h => cases hl with | ptr _ _ _ hh => exact .ptr i j (hφ _ _ hh h)
  | iptr j hb hcs ho hp hr ih => exact .iptr j (hI _ hb) hcs ho hp (fun k v hk => ih k v hk (pure_lt (List.all_eq_true.1 hp v (List.mem_of_getElem? hk))))
  | nils => exact .nils
  | slc h hl' hn ha => cases hl with | slc _ _ _ hh => exact .slc (hφ _ _ hh h) hl' hn ha
  | islc hl' ha hz hcs ho hp hr ih =>
    exact .islc hl' (fun e => ⟨(ha e).1, hI _ (ha e).2⟩) hz hcs ho hp (fun i j e v h1 h2 => ih i j e v h1 h2 (pure_lt (List.all_eq_true.1 (List.all_eq_true.1 hp e (List.mem_of_getElem? h1)) v (List.mem_of_getElem? h2))))
  | mapn => exact .mapn
  | map h => cases hl with | map _ hh => exact .map (hφ _ _ hh h)
  | func fn h1 r1 h2 r2 ih1 ih2 =>
    cases hl with
    | func _ _ _ ha hb => exact .func fn h1 (fun i v hv => ih1 i v hv (ha v (List.mem_of_getElem? hv))) h2 (fun i v hv => ih2 i v hv (hb v (List.mem_of_getElem? hv)))
  | nilf => exact .nilf
  | iface t h ih => cases hl with | iface _ _ hh => exact .iface t (ih hh)
  | nili => exact .nili
  | agg h r ih => cases hl with | agg _ hh => exact .agg h (fun i v hv => ih i v hv (hh v (List.mem_of_getElem? hv)))
  | tup h r ih => cases hl with | tup _ hh => exact .tup h (fun i v hv => ih i v hv (hh v (List.mem_of_getElem? hv)))
  | any c => exact .any c
def frzS (H : Nat → Option Blk) (n : Nat → Bool) (g : V → V) : V → V
  | .slc l off len => if n l = true then .slc l off len else match H l with
    | some (.row z es) => if off + len ≤ es.length ∧ (((es.drop off).take len).map (·.map g)).all (·.all V.pure) = true then .islc z (((es.drop off).take len).map (·.map g)) else .any
    | _ => .any
  | .ptr l i j => if n l = true then .ptr l i j else match H l with
    | some (.row z es) => match es[i]? with
      | some e => if (e.map g).all V.pure = true then .iptr (e.map g) j else .any
      | none => .any
    | _ => .any
  | .map l => if n l = true then .map l else .any
  | .func fn a b => .func fn (a.map g) (b.map g)
  | .iface t v => .iface t (match v with | .agg cs => .agg (cs.map g) | v => g v)
  | .agg _ => .any
  | .tup _ => .any
  | v => v
def frzC (H : Nat → Option Blk) (n : Nat → Bool) : Nat → V → V
  | 0 => fun v => if v.pure then v else .any
  | k + 1 => frzS H n (frzC H n k)
def frzA (H : Nat → Option Blk) (n : Nat → Bool) : V → V
  | .agg cs => .agg (cs.map (frzC H n 1099511627776))
  | v => frzC H n 1099511627776 v
def frzV (H : Nat → Option Blk) (n : Nat → Bool) : V → V
  | .agg cs => .agg (cs.map (frzC H n 1099511627776))
  | .tup vs => .tup (vs.map (frzA H n))
  | v => frzC H n 1099511627776 v
def frzO (H : Nat → Option Blk) (n : Nat → Bool) : CO → CO
  | .ret v => .ret (frzV H n v)
  | .panic v => .panic (frzV H n v)
def cutPhi (φ : Phi) (n : Nat → Bool) : Phi := fun l => if n l = true then φ l else none
def frzI (φ : Phi) (I : Nat → Prop) (σ : St) (n : Nat → Bool) : Nat → Prop := fun b => I b ∨ ∃ l x, n l = false ∧ (σ.H l).isSome = true ∧ φ l = some x ∧ x.1 = b
def frzB (H : Nat → Option Blk) (n : Nat → Bool) : Blk → Blk
  | .row z es => .row z (es.map (·.map (frzC H n 1099511627776)))
  | .map es => .map (es.map fun p => (frzC H n 1099511627776 p.1, frzC H n 1099511627776 p.2))
  | .lp s => .lp s
open Classical in
noncomputable def St.frz (σ σ' : St) (n : Nat → Bool) (m : Nat) : St :=
  ⟨fun l => if n l = true then (if σ'.H l = σ.H l then σ.H l else (σ'.H l).map (frzB σ'.H n)) else σ.H l, m, σ'.W⟩
theorem frz_map {n : Nat → Bool} {vs : List V} {cs : Array Value} {g : V → V} (h : RelA φ I w vs cs) (hg : ∀ v c, Rel φ I w v c → Rel (cutPhi φ n) (frzI φ I σ n) w (g v) c) : RelA (cutPhi φ n) (frzI φ I σ n) w (vs.map g) cs :=
  ⟨by simpa using h.1, fun i v hv => by
    simp only [List.getElem?_map, Option.map_eq_some_iff] at hv
    obtain ⟨u, hu, rfl⟩ := hv
    exact hg _ _ (h.2 i u hu)⟩
theorem frzS_rel (hs : Sim φ I σ w) (n : Nat → Bool) {g : V → V} (ih : ∀ v c, Rel φ I w v c → Rel (cutPhi φ n) (frzI φ I σ n) w (g v) c) (v : V) (c : Value) (h : Rel φ I w v c) : Rel (cutPhi φ n) (frzI φ I σ n) w (frzS σ.H n g v) c := by
  have hcut : ∀ l x, n l = true → φ l = some x → cutPhi φ n l = some x := fun l x h e => by simp [cutPhi, h, e]
  have hI : ∀ b, I b → frzI φ I σ n b := fun b h => .inl h
  unfold frzS
  split
  · rename_i l off len
    split
    · rename_i hl; exact h.cut hcut hI (.slc _ _ _ hl)
    · rename_i hl
      split
      · rename_i z es hH
        split
        · rename_i hc
          cases h with
          | slc hφ hlc hN ha =>
            rename_i b base z' cap ad
            obtain ⟨b', base', arr, t', fz, e1, hhp, hfz, hpos, hzz, hsz, ho, hr⟩ := hs.row hH
            rw [hφ] at e1
            simp only [Option.some.injEq, Prod.mk.injEq] at e1
            obtain ⟨rfl, rfl, rfl⟩ := e1
            have hlen : (((es.drop off).take len).map (·.map g)).length = len := by simp; omega
            have hidx : ∀ i j, i < len → j < z' → base + off * z' + i * z' + j = base + (off + i) * z' + j := fun i j _ _ => by rw [Nat.add_mul]; omega
            have hlt : ∀ i j, i < len → j < z' → base + (off + i) * z' + j < arr.size := fun i j hi hj => by have := mul_lt_of (z := z') (show off + i < es.length by omega) hj; omega
            refine cast (by rw [hlen]) (Rel.islc (φ := cutPhi φ n) (I := frzI φ I σ n) (w := w) (z := z') (es := ((es.drop off).take len).map (·.map g)) (b := b) (o := base + off * z') (cap := cap) (a := ad)
              (cs := fun i j => arr.getD (base + (off + i) * z' + j) undef) (by omega) (fun hne => ⟨ha (fun e0 => ?_), .inr ⟨l, _, by simpa using hl, by rw [hH]; rfl, hφ, rfl⟩⟩) (fun e he => ?_) (fun i j hi hj => ?_) (fun i j hi hj => ho _ _ (by rw [hlen] at hi; omega) hj) hc.2 (fun i j e v h1 h2 => ?_))
            · have : len = 0 := by omega
              exact hne (List.length_eq_zero_iff.1 (by rw [hlen]; exact this))
            · simp only [List.mem_map] at he
              obtain ⟨e', he', rfl⟩ := he
              rw [List.length_map]
              exact hzz _ (List.mem_of_mem_drop (List.mem_of_mem_take he'))
            · rw [hlen] at hi
              rw [hidx i j hi hj]
              have := hlt i j hi hj
              simp [World.cell?, hhp, this]
            · simp only [List.getElem?_map, Option.map_eq_some_iff] at h1
              obtain ⟨e', he', rfl⟩ := h1
              simp only [List.getElem?_map, Option.map_eq_some_iff] at h2
              obtain ⟨v', hv', rfl⟩ := h2
              simp only [List.getElem?_take] at he'
              split at he'
              · rw [List.getElem?_drop] at he'
                exact ih _ _ (hr _ _ _ _ he' hv')
              · simp at he'
        · exact .any _
      · exact .any _
  · rename_i l i j
    split
    · rename_i hl; exact h.cut hcut hI (.ptr _ _ _ hl)
    · rename_i hl
      split
      · rename_i z es hH
        split
        · rename_i e he
          split
          · rename_i hc
            cases h with
            | ptr i j hφ =>
              rename_i b base z'
              obtain ⟨b', base', arr, t', fz, e1, hhp, hfz, hpos, hzz, hsz, ho, hr⟩ := hs.row hH
              rw [hφ] at e1
              simp only [Option.some.injEq, Prod.mk.injEq] at e1
              obtain ⟨rfl, rfl, rfl⟩ := e1
              have hil := (List.getElem?_eq_some_iff.1 he).1
              have hel := hzz e (List.mem_of_getElem? he)
              refine .iptr (o := base + i * z') (cs := fun k => arr.getD (base + i * z' + k) undef) j (.inr ⟨l, _, by simpa using hl, by rw [hH]; rfl, hφ, rfl⟩) (fun q hq => ?_) (fun q hq => ho _ _ hil (by simpa [hel] using hq)) hc (fun q v hv => ?_)
              · rw [List.length_map, hel] at hq
                have := mul_lt_of hil hq
                simp [World.cell?, hhp, show base + i * z' + q < arr.size by omega]
              · simp only [List.getElem?_map, Option.map_eq_some_iff] at hv
                obtain ⟨v', hv', rfl⟩ := hv
                exact ih _ _ (hr _ _ _ _ he hv')
          · exact .any _
        · exact .any _
      · exact .any _
  · rename_i l
    split
    · rename_i hl; exact h.cut hcut hI (.map _ hl)
    · exact .any _
  · cases h with
    | func fn h1 r1 h2 r2 =>
      obtain ⟨a1, a2⟩ := frz_map (σ := σ) (n := n) ⟨h1, r1⟩ ih
      obtain ⟨b1, b2⟩ := frz_map (σ := σ) (n := n) ⟨h2, r2⟩ ih
      exact .func _ a1 a2 b1 b2
  · rename_i t v
    cases h with
    | iface _ hv =>
      refine .iface t ?_
      split
      · cases hv with
        | agg h1 r1 =>
          obtain ⟨a1, a2⟩ := frz_map (σ := σ) (n := n) ⟨h1, r1⟩ ih
          exact .agg a1 a2
      · exact ih _ _ hv
  · exact .any _
  · exact .any _
  · rename_i h1 h2 h3 h4 h5 h6 h7
    cases h with
    | bool b => exact .bool b
    | int k n => exact .int k n
    | str h => exact .str h
    | nilp => exact .nilp
    | ptr i j h => exact (h2 _ _ _ rfl).elim
    | iptr j hb hcs ho hp hr => exact (Rel.iptr j hb hcs ho hp hr).cut hcut hI (.iptr _ _)
    | nils => exact .nils
    | slc => exact (h1 _ _ _ rfl).elim
    | islc hl' ha hz hcs ho hp hr => exact (Rel.islc hl' ha hz hcs ho hp hr).cut hcut hI (.islc _ _)
    | mapn => exact .mapn
    | map h => exact (h3 _ rfl).elim
    | func => exact (h4 _ _ _ rfl).elim
    | nilf => exact .nilf
    | iface => exact (h5 _ _ rfl).elim
    | nili => exact .nili
    | agg => exact (h6 _ rfl).elim
    | tup => exact (h7 _ rfl).elim
    | any c => exact .any c
theorem frzC_rel (hs : Sim φ I σ w) (n : Nat → Bool) : ∀ (k : Nat) (v : V) (c : Value), Rel φ I w v c → Rel (cutPhi φ n) (frzI φ I σ n) w (frzC σ.H n k v) c
  | 0, v, c, h => by
    unfold frzC
    split
    · rename_i hp; exact h.cut (fun l x (h : n l = true) e => by simp [cutPhi, h, e]) (fun b h => .inl h) (pure_lt hp)
    · exact .any _
  | k + 1, v, c, h => frzS_rel hs n (frzC_rel hs n k) v c h
theorem frzA_rel (hs : Sim φ I σ w) (n : Nat → Bool) {v : V} {c : Value} (h : Rel φ I w v c) : Rel (cutPhi φ n) (frzI φ I σ n) w (frzA σ.H n v) c := by
  unfold frzA
  split
  · cases h with
    | agg h1 r1 =>
      obtain ⟨a1, a2⟩ := frz_map (σ := σ) (n := n) ⟨h1, r1⟩ (frzC_rel hs n 1099511627776)
      exact .agg a1 a2
  · exact frzC_rel hs n 1099511627776 _ _ h
theorem frzV_rel (hs : Sim φ I σ w) (n : Nat → Bool) {v : V} {c : Value} (h : Rel φ I w v c) : Rel (cutPhi φ n) (frzI φ I σ n) w (frzV σ.H n v) c := by
  unfold frzV
  split
  · cases h with
    | agg h1 r1 =>
      obtain ⟨a1, a2⟩ := frz_map (σ := σ) (n := n) ⟨h1, r1⟩ (frzC_rel hs n 1099511627776)
      exact .agg a1 a2
  · cases h with
    | tup h1 r1 =>
      obtain ⟨a1, a2⟩ := frz_map (σ := σ) (n := n) ⟨h1, r1⟩ (fun v c h => frzA_rel hs n h)
      exact .tup a1 a2
  · exact frzC_rel hs n 1099511627776 _ _ h
theorem BlkRel.cut {n : Nat → Bool} (hφ : ∀ l x, n l = true → φ l = some x → φ' l = some x) (hI : ∀ b, I b → I' b) {b : Blk} {x : Nat × Nat × Nat} (h : BlkRel φ I w b x) (hl : BLt n b) : BlkRel φ' I' w b x := by
  cases h with
  | row hh hfz hpos hz hsz ho hr => exact .row hh hfz hpos hz hsz ho (fun i j e v h1 h2 => (hr i j e v h1 h2).cut hφ hI (hl e (List.mem_of_getElem? h1) v (List.mem_of_getElem? h2)))
  | map hh hn hr => exact .map hh hn (fun i kv e h1 h2 => ⟨(hr i kv e h1 h2).1.cut hφ hI (hl kv (List.mem_of_getElem? h1)).1, (hr i kv e h1 h2).2.cut hφ hI (hl kv (List.mem_of_getElem? h1)).2⟩)
  | lp hh hr => exact .lp hh hr
theorem Sim.blt (hs : Sim φ I σ w) {n : Nat → Bool} (hn : ∀ l, l < σ.n → n l = true) {l : Nat} {b : Blk} (h : σ.H l = some b) : BLt n b := by
  obtain ⟨x, _, hb⟩ := hs.live _ _ h
  have hd : ∀ l x, φ l = some x → n l = true := fun l x h => hn l (hs.dom l x h)
  cases hb with
  | row hh hfz hpos hz hsz ho hr => exact fun e he v hv => by obtain ⟨i, hi⟩ := mem_get he; obtain ⟨j, hj⟩ := mem_get hv; exact (hr i j e v hi hj).lt hd
  | map hh hn hr =>
    intro kv hkv
    obtain ⟨i, hi⟩ := mem_get hkv
    obtain ⟨hlt, _⟩ := List.getElem?_eq_some_iff.1 hi
    rw [← hn] at hlt
    have := hr i kv _ hi (Array.getElem?_eq_getElem hlt)
    exact ⟨this.1.lt hd, this.2.lt hd⟩
  | lp hh hr => trivial
theorem BlkRel.frz {n : Nat → Bool} (hs : Sim φ I σ w) {b : Blk} {x : Nat × Nat × Nat} (h : BlkRel φ I w b x) : BlkRel (cutPhi φ n) (frzI φ I σ n) w (frzB σ.H n b) x := by
  cases h with
  | row hh hfz hpos hz hsz ho hr =>
    refine .row hh hfz hpos (fun e he => ?_) (by simpa using hsz) (fun i j hi hj => ho i j (by simpa using hi) hj) (fun i j e v h1 h2 => ?_)
    · obtain ⟨e', he', rfl⟩ := List.mem_map.1 he
      simpa using hz e' he'
    · simp only [List.getElem?_map, Option.map_eq_some_iff] at h1
      obtain ⟨e', he', rfl⟩ := h1
      simp only [List.getElem?_map, Option.map_eq_some_iff] at h2
      obtain ⟨v', hv', rfl⟩ := h2
      exact frzC_rel hs n 1099511627776 _ _ (hr _ _ _ _ he' hv')
  | map hh hn hr =>
    refine .map hh (by simpa using hn) fun i kv e h1 h2 => ?_
    simp only [List.getElem?_map, Option.map_eq_some_iff] at h1
    obtain ⟨kv', hk', rfl⟩ := h1
    exact ⟨frzC_rel hs n 1099511627776 _ _ (hr i kv' e hk' h2).1, frzC_rel hs n 1099511627776 _ _ (hr i kv' e hk' h2).2⟩
  | lp hh hr => exact .lp hh hr
theorem ccalls_base {k : FuncId} {vs : List V} {R : CO → St → Prop} (h : CCalls P k vs σ R) : CCalls P k vs σ fun o σ' => R o σ' ∧ σ'.W = σ.W := fun φ I w cs hs ha =>
  (h φ I w cs hs ha).mono fun e w' ⟨o, σ', φ', I', h1, h2, h3, h4⟩ => ⟨o, σ', φ', I', ⟨h1, h3.base⟩, h2, h3, h4⟩
theorem ccalls_frz {k : FuncId} {vs : List V} {R : CO → St → Prop} (h : CCalls P k vs σ fun o σ' => ∃ n m, (∀ l, l < σ.n → n l = true) ∧ (∀ l, n l = true → l < m) ∧ R (frzO σ'.H n o) (σ.frz σ' n m)) : CCalls P k vs σ R := by
  intro φ I w cs hs ha
  refine (h φ I w cs hs ha).mono fun e w' ⟨o, σ', φ', I', ⟨n, m, h1, h2, hR⟩, h3, h4, h5⟩ => ?_
  have hcut : ∀ l x, n l = true → φ' l = some x → cutPhi φ' n l = some x := fun l x h e => by simp [cutPhi, h, e]
  have hph : ∀ l x, cutPhi φ' n l = some x → n l = true ∧ φ' l = some x := fun l x h => by
    simp only [cutPhi] at h
    split at h
    · rename_i hl; exact ⟨hl, h⟩
    · simp at h
  have hnone : ∀ l, ¬ n l = true → σ.H l = none := fun l hl => by
    cases hb : σ.H l with
    | none => rfl
    | some b => obtain ⟨x, hx, _⟩ := hs.live l b hb; exact absurd (h1 l (hs.dom l x hx)) hl
  have hH : ∀ l, ((σ.frz σ' n m).H l).isSome = true → n l = true ∧ (σ'.H l).isSome = true := fun l h => by
    simp only [St.frz] at h
    split at h
    · rename_i hl
      split at h
      · rename_i he; exact ⟨hl, by rw [he]; exact h⟩
      · exact ⟨hl, by simpa using h⟩
    · rename_i hl; rw [hnone l hl] at h; simp at h
  have hlive : ∀ b, Live (cutPhi φ' n) (σ.frz σ' n m) b → Live φ' σ' b := fun b ⟨l, x, h6, h7, h8⟩ => ⟨l, x, (hH l h6).2, (hph l x h7).2, h8⟩
  refine ⟨_, _, cutPhi φ' n, frzI φ' I' σ' n, hR, ?_, ⟨fun l x hx => hcut l x (h1 l (hs.dom l x hx)) (h4.phi l x hx), fun b hb => .inl (h4.imm b hb), fun b hb => ?_, fun b hb => h4.liveNew b (hlive b hb), h4.size, h4.shape, h4.frame, h4.os, h4.tape, h4.output, h4.base, h4.loops⟩,
    ⟨fun l x h => h2 l (hph l x h).1, fun l x h => h5.blk l x (hph l x h).2, fun l b hl => ?_, fun b hl hi => ?_, fun l l' x x' g1 g2 g3 g4 he => h5.inj l l' x x' (hH l g1).2 (hH l' g2).2 (hph l x g3).2 (hph l' x' g4).2 he, fun b h => ?_, fun b h => ⟨.inl (h5.base b h).1, (h5.base b h).2⟩⟩⟩
  · cases h3 with
    | ret hv => exact .ret (frzV_rel h5 _ hv)
    | panic hv => exact .panic (frzV_rel h5 _ hv)
  · rcases hb with hb | ⟨l, x, _, h6, h7, rfl⟩
    · exact h4.immNew b hb
    · exact .inr (h4.liveNew _ ⟨l, x, h6, h7, rfl⟩)
  · obtain ⟨hl1, hl2⟩ := hH l (by rw [hl]; rfl)
    simp only [St.frz, if_pos hl1] at hl
    split at hl
    · rename_i heq
      obtain ⟨x, hx, hbr⟩ := h5.live l b (by rw [heq]; exact hl)
      exact ⟨x, hcut l x hl1 hx, hbr.cut hcut (fun b h => .inl h) (hs.blt h1 hl)⟩
    · obtain ⟨b', hb', rfl⟩ := Option.map_eq_some_iff.1 hl
      obtain ⟨x, hx, hbr⟩ := h5.live l b' hb'
      exact ⟨x, hcut l x hl1 hx, hbr.frz h5⟩
  · obtain ⟨l, x, g1, g2, rfl⟩ := hl
    rcases hi with hi | ⟨l', x', h6, h7, h8, h9⟩
    · exact h5.notI _ ⟨l, x, (hH l g1).2, (hph l x g2).2, rfl⟩ hi
    · have := h5.inj l l' x x' (hH l g1).2 h7 (hph l x g2).2 h8 h9.symm
      subst this
      rw [(hH l g1).1] at h6
      simp at h6
  · rcases h with h | ⟨l, x, _, _, h, rfl⟩
    · exact h5.imm b h
    · exact h5.blk l x h
theorem frz_same {σ σ' : St} (hH : ∀ l, l < σ.n → σ'.H l = σ.H l) (hW : σ'.W = σ.W) : σ.frz σ' (fun l => decide (l < σ.n)) σ.n = σ := by
  cases σ with
  | mk H n W =>
    simp only [St.frz, St.mk.injEq, true_and]
    refine ⟨?_, hW⟩
    funext l
    by_cases hl : l < n
    · simp [hl, hH l hl]
    · simp [hl]
theorem frz_set {σ σ' : St} {p : Nat} {b : Blk} (hp : p < σ.n) (hb : (σ'.H p).map (frzB σ'.H fun l => decide (l < σ.n)) = some b) (hH : ∀ l, l < σ.n → l ≠ p → σ'.H l = σ.H l) (hW : σ'.W = σ.W) (hb' : σ'.H p = σ.H p → σ.H p = some b) :
    σ.frz σ' (fun l => decide (l < σ.n)) σ.n = σ.set p b := by
  cases σ with
  | mk H n W =>
    simp only [St.frz, St.set, St.mk.injEq, true_and]
    refine ⟨?_, hW⟩
    funext l
    by_cases e : l = p
    · subst e
      simp only [upd, if_pos rfl]
      simp only [show l < n from hp, decide_true, if_true]
      split
      · rename_i h; exact hb' h
      · exact hb
    · simp only [upd, if_neg e]
      by_cases hl : l < n
      · simp [hl, hH l hl e]
      · simp [hl]
end
end Go.Proofs.YtmkgmjdbgjiehaaDoor.Ab
namespace Go.Proofs.YtmkgmjdbgjiehaaDoor.Ab
open Go.RowKit
set_option linter.unusedVariables false
set_option linter.unusedSimpArgs false
def Opd.ts : Opd → List Nat
  | .t i => [i]
  | .c _ => []
def oTs : Option Opd → List Nat
  | some x => x.ts
  | none => []
def lTs (xs : List Opd) : List Nat := xs.flatMap Opd.ts
def Ins.ts : Ins → List Nat
  | .mv x | .box x | .ld x | .lda _ x | .nilck x | .un _ x | .cvi _ x | .cvs x | .s2b x | .b2s x | .b2b x | .mki _ x | .fa _ x | .fld _ _ x | .tas _ _ _ x | .ext x _ | .slen x | .llen x | .panic x => x.ts
  | .pick c a b => c.ts ++ (a.ts ++ b.ts)
  | .new _ | .mkmap | .recover => []
  | .build _ ps => ps.flatMap fun p => p.2.2.ts
  | .bslice _ _ ps => ps.flatMap fun p => p.2.ts
  | .st _ a x | .bin _ a x | .beq _ a x | .nq _ _ a x | .eqa _ _ a x | .mksl _ _ a x | .ia _ a x | .aa _ _ a x | .sx a x | .app _ _ a x => a.ts ++ x.ts
  | .ssl x lo hi | .lsl _ x lo hi => x.ts ++ (oTs lo ++ oTs hi)
  | .mkf _ a b => lTs a ++ lTs b
  | .mm _ xs | .call _ xs => lTs xs
  | .callv f xs | .defer f xs => f.ts ++ lTs xs
def RI.ts (r : RI) : List Nat := (match r.guard with | some (t, _) => [t] | none => []) ++ r.ins.ts
section
variable {env env' : Env} {σ : St}
theorem ev_congr {x : Opd} (h : ∀ t ∈ x.ts, env t = env' t) : x.ev env = x.ev env' := by
  cases x with
  | t i => exact h i (by simp [Opd.ts])
  | c v => rfl
theorem evs_congr {xs : List Opd} (h : ∀ t ∈ lTs xs, env t = env' t) : xs.map (·.ev env) = xs.map (·.ev env') :=
  List.map_congr_left fun x hx => ev_congr fun t ht => h t (List.mem_flatMap.2 ⟨x, hx, ht⟩)
theorem bound_congr {d : Nat} {x : Option Opd} (h : ∀ t ∈ oTs x, env t = env' t) : bound env d x = bound env' d x := by
  cases x with
  | none => rfl
  | some x => simp only [bound, ev_congr (x := x) h]
theorem buildV_congr : ∀ {ps : List (Nat × Nat × Opd)} {z : List V}, (∀ t ∈ ps.flatMap (fun p => p.2.2.ts), env t = env' t) → buildV env z ps = buildV env' z ps
  | [], _, _ => rfl
  | (o, s, x) :: ps, z, h => by
    have h1 : x.ev env = x.ev env' := ev_congr fun t ht => h t (by simp [ht])
    simp only [buildV, h1]
    split
    · exact buildV_congr fun t ht => h t (by simp only [List.flatMap_cons, List.mem_append]; exact .inr ht)
    · rfl
theorem bsliceV_congr {z : Nat} : ∀ {ps : List (Nat × Opd)} {es : List (List V)}, (∀ t ∈ ps.flatMap (fun p => p.2.ts), env t = env' t) → bsliceV env z es ps = bsliceV env' z es ps
  | [], _, _ => rfl
  | (i, x) :: ps, es, h => by
    have h1 : x.ev env = x.ev env' := ev_congr fun t ht => h t (by simp [ht])
    simp only [bsliceV, h1]
    split
    · exact bsliceV_congr fun t ht => h t (by simp only [List.flatMap_cons, List.mem_append]; exact .inr ht)
    · rfl
theorem evI_congr {ins : Ins} (h : ∀ t ∈ ins.ts, env t = env' t) : evI env σ ins = evI env' σ ins := by
  have one : ∀ x : Opd, (∀ t ∈ x.ts, t ∈ ins.ts) → x.ev env = x.ev env' := fun x hx => ev_congr fun t ht => h t (hx t ht)
  have bd : ∀ (x : Option Opd) d, (∀ t ∈ oTs x, t ∈ ins.ts) → bound env d x = bound env' d x := fun x d hx => bound_congr fun t ht => h t (hx t ht)
  have ls : ∀ xs : List Opd, (∀ t ∈ lTs xs, t ∈ ins.ts) → xs.map (·.ev env) = xs.map (·.ev env') := fun xs hx => evs_congr fun t ht => h t (hx t ht)
  cases ins with
  | build z ps => simp only [evI, buildV_congr (env := env) (env' := env') (ps := ps) (z := z) h]
  | bslice z n ps => simp only [evI, bsliceV_congr (env := env) (env' := env') (ps := ps) (z := z.length) h]
  | mkf fn a b => simp only [evI]; rw [ls a (by simp +contextual [Ins.ts]), ls b (by simp +contextual [Ins.ts])]
  | mm m xs => simp only [evI]; rw [ls xs (by simp +contextual [Ins.ts])]
  | ssl x lo hi => simp only [evI]; rw [one x (by simp +contextual [Ins.ts])]; simp only [fun d => bd lo d (by simp +contextual [Ins.ts]), fun d => bd hi d (by simp +contextual [Ins.ts])]
  | lsl z x lo hi => simp only [evI]; rw [one x (by simp +contextual [Ins.ts])]; simp only [fun d => bd lo d (by simp +contextual [Ins.ts]), fun d => bd hi d (by simp +contextual [Ins.ts])]
  | pick c a b => simp only [evI]; rw [one c (by simp +contextual [Ins.ts]), one a (by simp +contextual [Ins.ts]), one b (by simp +contextual [Ins.ts])]
  | _ => first
    | rfl
    | (rename_i x; simp only [evI]; rw [one x (by simp +contextual [Ins.ts])]; done)
    | (rename_i x y; simp only [evI]; rw [one x (by simp +contextual [Ins.ts]), one y (by simp +contextual [Ins.ts])]; done)
    | (rename_i x y; simp only [evI]; rw [one x (by simp +contextual [Ins.ts])]; done)
def Ins.reads : Ins → Bool
  | .ld _ | .lda _ _ | .ia _ _ _ | .lsl _ _ _ _ | .b2s _ => true
  | _ => false
theorem evI_keeps {ins : Ins} {σ σ' σ'' : St} {v : V} (hq : ins.quiet = true) (h : evI env σ ins = some (v, σ')) : σ' = σ := by
  cases ins <;> simp only [Ins.quiet, Bool.false_eq_true] at hq <;> simp only [evI] at h <;> (try simp only [Option.map_eq_some_iff, Option.bind_eq_some_iff, Option.some.injEq, Prod.mk.injEq] at h)
  all_goals first
    | exact h.2.symm
    | (obtain ⟨_, _, _, h⟩ := h; exact h.symm)
    | (obtain ⟨_, _, _, _, _, h⟩ := h; exact h.symm)
    | skip
  all_goals (repeat' split at h) <;> (try simp only [Option.map_eq_some_iff, Option.bind_eq_some_iff, Option.some.injEq, Prod.mk.injEq, reduceCtorEq] at h)
  all_goals first
    | exact h.2.symm
    | (obtain ⟨_, _, _, h⟩ := h; exact h.symm)
    | (obtain ⟨_, _, h⟩ := h; split at h <;> simp only [Option.some.injEq, Prod.mk.injEq, reduceCtorEq] at h; exact h.2.symm)
    | (obtain ⟨_, _, _, _, h⟩ := h; (repeat' split at h) <;> simp only [Option.some.injEq, Prod.mk.injEq, reduceCtorEq] at h; exact h.2.symm)
    | (obtain ⟨_, _, _, _, h⟩ := h; exact h.elim)
theorem evI_other {ins : Ins} {σ σ' : St} {v : V} (hq : ins.quiet = true) (hr : ins.reads = false) (h : evI env σ ins = some (v, σ)) : evI env σ' ins = some (v, σ') := by
  cases ins <;> simp only [Ins.quiet, Ins.reads, Bool.false_eq_true, Bool.true_eq_false] at hq hr <;> simp only [evI] at h ⊢ <;> (try simp only [Option.map_eq_some_iff, Option.some.injEq, Prod.mk.injEq, and_true] at h ⊢)
  all_goals first
    | exact h
    | skip
  all_goals (repeat' split at h) <;> (try simp only [Option.map_eq_some_iff, Option.bind_eq_some_iff, Option.some.injEq, Prod.mk.injEq, reduceCtorEq, and_true] at h ⊢)
  all_goals first
    | exact h
    | (simp_all; done)
    | (obtain ⟨a, h1, b, h2, h3⟩ := h; refine ⟨a, h1, b, h2, ?_⟩; split at h3 <;> simp_all)
end
end Go.Proofs.YtmkgmjdbgjiehaaDoor.Ab
namespace Go.Proofs.YtmkgmjdbgjiehaaDoor.Ab
open Go.RowKit
set_option linter.unusedVariables false
set_option linter.unusedSimpArgs false
def aftL (ops : Array Oper) (i : Nat) : List Nat :=
  match ops[i]? with
  | some o => (o.after.toList.filter (Region.binds .any ·)).map (·.on)
  | none => []
def tblGo : List (List Nat) → List (List Nat) → List (List Nat)
  | [], T => T
  | a :: as, T => tblGo as (T ++ [a.foldl (fun acc j => (T.getD j []).foldl (fun acc k => if acc.contains k then acc else k :: acc) acc) a])
def inT (T : List (List Nat)) (i j : Nat) : Bool := (T.getD i []).contains j
def eagerB (T : List (List Nat)) (R : List RI) (i : Nat) (r : RI) : Bool :=
  match r.dst with
  | none => false
  | some d => r.ins.quiet && !r.ts.contains d && (List.range R.length).all fun j => j == i || match R[j]? with
    | none => true
    | some q => q.dst != some d && (!q.ts.contains d || inT T j i) && (match q.dst with
      | some d' => !r.ts.contains d' || inT T i j || inT T j i
      | none => true)
def rdy (n : Nat) (A : List (List Nat)) (L : List Nat) : List Nat := (List.range n).filter fun i => !L.contains i && (A.getD i []).all L.contains
def againL (T : List (List Nat)) (E : List Bool) (R : List RI) (L : List Nat) (i : Nat) : List RI :=
  L.filterMap fun j => if E.getD j false = true ∧ inT T i j = false then (match R[j]? with | some r => if r.ins.reads = true then some r else none | none => none) else none
def altsOf (T : List (List Nat)) (E : List Bool) (R : List RI) (L : List Nat) (go : Nat → Plan) : List Nat → Plan
  | [] => .stop
  | i :: is => match R[i]? with
    | some r => .alt r (againL T E R L i) (go i) (altsOf T E R L go is)
    | none => .q ⟨none, none, .recover⟩ .done
def build (A T : List (List Nat)) (E : List Bool) (R : List RI) : Nat → List Nat → Plan
  | 0, L => .q ⟨none, none, .recover⟩ .done
  | m + 1, L => match (rdy R.length A L).find? fun i => E.getD i false with
    | some i => match R[i]? with
      | some r => .q r (build A T E R m (i :: L))
      | none => .q ⟨none, none, .recover⟩ .done
    | none => match rdy R.length A L with
      | [] => .done
      | x :: xs => altsOf T E R L (fun i => build A T E R m (i :: L)) (x :: xs)
def eagL (T : List (List Nat)) (R : List RI) : List Bool := (List.range R.length).map fun i => match R[i]? with | some r => eagerB T R i r | none => false
def planOf (P : Program) (nt : Nat) (ops : Array Oper) : Option Plan :=
  if P.follows .mixedOrders = true then
    match ops.toList.mapM (cRI P nt ops) with
    | some R =>
      let A := (List.range ops.size).map (aftL ops)
      let T := tblGo A []
      some (build A T (eagL T R) R (ops.size + 1) [])
    | none => none
  else none
def chk (r : RI) (f : Fr) (σ : St) : Prop :=
  match r.dst with
  | none => True
  | some d => match wantG f.env r.guard with
    | none => False
    | some false => f.env d = .tup []
    | some true => evI f.env σ r.ins = some (f.env d, σ)
def pwp (P : Program) (ro : Option Nat) (Y : YS P) (Q : AX → Fr → St → Prop) : Plan → Fr → St → Prop
  | .done, f, σ => Q .normal f σ
  | .q r p, f, σ => rwp1 P ro Y (fun _ _ _ => False) (pwp P ro Y Q p) r f σ
  | .alt r again p more, f, σ => rwp1 P ro Y (fun x f σ => match x with | .panic v => ∀ env, Q (.panic v) ⟨env, f.ds⟩ σ | _ => False) (fun f σ => (∀ q ∈ again, chk q f σ) ∧ pwp P ro Y Q p f σ) r f σ ∧ pwp P ro Y Q more f σ
  | .stop, f, σ => True
section
variable {P : Program} {ro : Option Nat} {Y : YS P} {φ φ' : Phi} {I I' : Nat → Prop} {σ σ' : St} {w w' : World} {nt : Nat} {f : Fr} {a : Act} {Q : AX → Fr → St → Prop} {ops : Array Oper} {R : List RI} {A T : List (List Nat)}
def TOk (A T : List (List Nat)) : Prop := ∀ i x, x ∈ T.getD i [] → ∀ X : Nat → Prop, (∀ k, X k → ∀ y ∈ A.getD k [], X y) → (∀ y ∈ A.getD i [], X y) → X x
theorem foldl_in : ∀ (l : List Nat) (acc : List Nat) (x : Nat), x ∈ l.foldl (fun acc k => if acc.contains k then acc else k :: acc) acc → x ∈ acc ∨ x ∈ l
  | [], acc, x, h => .inl h
  | k :: l, acc, x, h => by
    rcases foldl_in l _ x h with h | h
    · dsimp only at h
      split at h
      · exact .inl h
      · rcases List.mem_cons.1 h with rfl | h
        · exact .inr (by simp)
        · exact .inl h
    · exact .inr (by simp [h])
theorem foldl_in2 (T : List (List Nat)) : ∀ (l : List Nat) (acc : List Nat) (x : Nat), x ∈ l.foldl (fun acc j => (T.getD j []).foldl (fun acc k => if acc.contains k then acc else k :: acc) acc) acc → x ∈ acc ∨ ∃ j ∈ l, x ∈ T.getD j []
  | [], acc, x, h => .inl h
  | j :: l, acc, x, h => by
    rcases foldl_in2 T l _ x h with h | ⟨k, hk, h⟩
    · rcases foldl_in _ _ _ h with h | h
      · exact .inl h
      · exact .inr ⟨j, by simp, h⟩
    · exact .inr ⟨k, by simp [hk], h⟩
theorem tblGo_ok (A : List (List Nat)) : ∀ (as T : List (List Nat)), A.drop T.length = as → TOk A T → TOk A (tblGo as T)
  | [], T, _, h => h
  | a :: as, T, hd, h => by
    have hlt : T.length < A.length := by
      rcases Nat.lt_or_ge T.length A.length with h | h
      · exact h
      · rw [List.drop_eq_nil_of_le h] at hd; simp at hd
    rw [List.drop_eq_getElem_cons hlt] at hd
    obtain ⟨ha, hd⟩ := List.cons.inj hd
    refine tblGo_ok A as _ (by simp [hd]) fun i x hx X hX hi => ?_
    simp only [List.getD_eq_getElem?_getD] at hx
    rcases Nat.lt_trichotomy i T.length with hi' | hi' | hi'
    · rw [List.getElem?_append_left hi'] at hx
      exact h i x (by simpa using hx) X hX hi
    · subst hi'
      have hA : A.getD T.length [] = a := by simp [hlt, ha]
      rw [hA] at hi
      simp only [List.getElem?_append_right (Nat.le_refl _), Nat.sub_self, List.getElem?_cons_zero, Option.getD_some] at hx
      rcases foldl_in2 T _ _ _ hx with hx | ⟨j, hj, hx⟩
      · exact hi x hx
      · exact h j x hx X hX (hX j (hi j hj))
    · rw [List.getElem?_eq_none (by simp; omega)] at hx
      simp at hx
theorem inT_ok (h : TOk A T) {i x : Nat} (hx : inT T i x = true) {X : Nat → Prop} (hX : ∀ k, X k → ∀ y ∈ A.getD k [], X y) (hi : ∀ y ∈ A.getD i [], X y) : X x :=
  h i x (by simpa [inT] using hx) X hX hi
structure EOk (T : List (List Nat)) (R : List RI) (i : Nat) (r : RI) (d : Nat) : Prop where
  dst : r.dst = some d
  quiet : r.ins.quiet = true
  self : d ∉ r.ts
  one : ∀ j q, R[j]? = some q → j ≠ i → q.dst ≠ some d
  read : ∀ j q, R[j]? = some q → j ≠ i → d ∈ q.ts → inT T j i = true
  write : ∀ j q d', R[j]? = some q → j ≠ i → q.dst = some d' → d' ∈ r.ts → inT T i j = true ∨ inT T j i = true
theorem eager_ok {i : Nat} (h : (eagL T R).getD i false = true) : ∃ r d, R[i]? = some r ∧ EOk T R i r d := by
  unfold eagL at h
  rcases Nat.lt_or_ge i R.length with hi | hi
  · simp only [List.getD_eq_getElem?_getD, List.getElem?_map, List.getElem?_range hi, Option.map_some, Option.getD_some, List.getElem?_eq_getElem hi] at h
    refine ⟨R[i], ?_⟩
    unfold eagerB at h
    cases hd : R[i].dst with
    | none => simp [hd] at h
    | some d =>
      simp only [hd, Bool.and_eq_true, Bool.not_eq_true', List.all_eq_true, List.mem_range, Bool.or_eq_true, beq_iff_eq] at h
      obtain ⟨⟨hq, hs⟩, hall⟩ := h
      have key : ∀ j q, R[j]? = some q → j ≠ i → (q.dst ≠ some d ∧ (q.ts.contains d = false ∨ inT T j i = true)) ∧ (match q.dst with | some d' => !R[i].ts.contains d' || inT T i j || inT T j i | none => true) = true := fun j q hj hne => by
        have hlt : j < R.length := (List.getElem?_eq_some_iff.1 hj).1
        have := (hall j hlt).resolve_left hne
        rw [hj] at this
        simpa [and_assoc] using this
      refine ⟨d, List.getElem?_eq_getElem hi, hd, hq, by simpa using hs, fun j q hj hne => (key j q hj hne).1.1, fun j q hj hne hm => (key j q hj hne).1.2.resolve_left (by simpa using hm), fun j q d' hj hne hd' hm => ?_⟩
      have := (key j q hj hne).2
      rw [hd'] at this
      simp only [Bool.or_eq_true, Bool.not_eq_true'] at this
      rcases this with (this | this) | this
      · simp at this; exact absurd hm this
      · exact .inl this
      · exact .inr this
  · simp [List.getElem?_eq_none, hi] at h
theorem wantG_congr {env env' : Env} {g : Option (Nat × Bool)} (h : ∀ t b, g = some (t, b) → env t = env' t) : wantG env g = wantG env' g := by
  cases g with
  | none => rfl
  | some g => obtain ⟨t, b⟩ := g; simp only [wantG, h t b rfl]
theorem rts {r : RI} {env env' : Env} (h : ∀ t ∈ r.ts, env t = env' t) : (∀ t b, r.guard = some (t, b) → env t = env' t) ∧ (∀ t ∈ r.ins.ts, env t = env' t) :=
  ⟨fun t b hg => h t (by simp [RI.ts, hg]), fun t ht => h t (by simp [RI.ts, ht])⟩
theorem evs_congr' {env env' : Env} {xs : List Opd} (h : ∀ t ∈ lTs xs, env t = env' t) : evs env xs = evs env' xs := evs_congr h
theorem rwp1_congr {Q' : AX → Fr → St → Prop} {K K' : Fr → St → Prop} {r : RI} {f f' : Fr} (hds : f.ds = f'.ds) (ht : ∀ t ∈ r.ts, f.env t = f'.env t) (h : rwp1 P ro Y Q K r f σ) (hq : ∀ v σ, Q (.panic v) f σ → Q' (.panic v) f' σ)
    (hk : ∀ v σ ds, K { f.put r.dst v with ds := ds } σ → K' { f'.put r.dst v with ds := ds } σ) : rwp1 P ro Y Q' K' r f' σ := by
  obtain ⟨hg, hi⟩ := rts ht
  have hk0 : ∀ v σ, K (f.put r.dst v) σ → K' (f'.put r.dst v) σ := fun v σ h => by
    have := hk v σ f.ds (by exact h)
    rw [hds] at this
    exact this
  obtain ⟨dst, guard, ins⟩ := r
  unfold rwp1 at h ⊢
  rw [← wantG_congr hg]
  split
  · rename_i hw; rw [hw] at h; exact h
  · rename_i hw; rw [hw] at h; exact hk0 _ _ h
  · rename_i hw
    rw [hw] at h
    simp only at h
    cases ins
    case call k as =>
      simp only at h ⊢
      rw [← evs_congr' (env := f.env) (env' := f'.env) (xs := as) (fun t ht => hi t (by simpa [Ins.ts] using ht))]
      refine CCalls.mono h fun o σ' ho => ?_
      cases o with
      | ret v => exact hk0 _ _ ho
      | panic v => exact hq _ _ ho
    case callv g as =>
      simp only at h ⊢
      rw [← evs_congr' (env := f.env) (env' := f'.env) (xs := as) (fun t ht => hi t (by simp [Ins.ts, ht])), ← ev_congr (env := f.env) (env' := f'.env) (x := g) (fun t ht => hi t (by simp [Ins.ts, ht]))]
      split
      · rename_i hg2
        rw [hg2] at h
        refine ⟨h.1, CCalls.mono h.2 fun o σ' ho => ?_⟩
        cases o with
        | ret v => exact hk0 _ _ ho
        | panic v => exact hq _ _ ho
      · rename_i hg2
        rw [hg2] at h
        refine Y.mono _ _ _ _ _ (fun o σ' ho => ?_) h
        cases o with
        | ret v => exact hk0 _ _ ho
        | panic v => exact hq _ _ ho
      · rename_i hg2 hg2'
        split at h
        · rename_i hg3; exact absurd hg3 (hg2 _ _ _)
        · rename_i hg3; exact absurd hg3 (hg2' _)
        · exact h
    case defer g as =>
      simp only at h ⊢
      rw [← evs_congr' (env := f.env) (env' := f'.env) (xs := as) (fun t ht => hi t (by simp [Ins.ts, ht])), ← ev_congr (env := f.env) (env' := f'.env) (x := g) (fun t ht => hi t (by simp [Ins.ts, ht]))]
      obtain ⟨hro, h⟩ := h
      refine ⟨hro, ?_⟩
      split
      · rename_i hg2
        rw [hg2] at h
        rw [← hds]
        cases dst with
        | none => exact hk (.tup []) _ _ h
        | some d => exact hk (.tup []) _ _ h
      · rename_i hg2
        split at h
        · rename_i hg3; exact absurd hg3 (hg2 _ _ _)
        · exact h
    case panic x =>
      simp only at h ⊢
      rw [← ev_congr (env := f.env) (env' := f'.env) (x := x) (fun t ht => hi t (by simp [Ins.ts, ht]))]
      split
      · rename_i hg2; rw [hg2] at h; exact hq _ _ h
      · rename_i hg2
        split at h
        · rename_i hg3; exact absurd hg3 (hg2 _ _)
        · exact h
    case recover => exact h
    all_goals
      simp only at h ⊢
      rw [← evI_congr hi]
      split
      · rename_i he; rw [he] at h; exact hk0 _ _ h
      · rename_i he; rw [he] at h; exact h
theorem chk_rwp1 {K : Fr → St → Prop} {r : RI} {d : Nat} {f f' : Fr} (hd : r.dst = some d) (hq : r.ins.quiet = true) (hc : chk r f σ) (ht : ∀ t ∈ r.ts, f.env t = f'.env t) (h : K (f'.put r.dst (f.env d)) σ) : rwp1 P ro Y Q K r f' σ := by
  obtain ⟨hg, hi⟩ := rts ht
  unfold chk at hc
  rw [hd] at hc
  simp only at hc
  unfold rwp1
  rw [← wantG_congr hg]
  split at hc
  · exact hc.elim
  · rename_i hw; rw [hw]; rw [hc] at h; exact h
  · rename_i hw
    rw [hw]
    rw [evI_congr hi] at hc
    obtain ⟨dst, guard, ins⟩ := r
    cases ins <;> simp only [Ins.quiet, Bool.false_eq_true] at hq <;> simp only [hc] <;> exact h
theorem rwp1_quiet {K : Fr → St → Prop} {r : RI} {d : Nat} (hd : r.dst = some d) (hq : r.ins.quiet = true) (hs : d ∉ r.ts) (h : rwp1 P ro Y Q K r f σ) : ∃ v, K (f.put r.dst v) σ ∧ chk r (f.put r.dst v) σ := by
  have same : ∀ v, ∀ t ∈ r.ts, (f.put r.dst v).env t = f.env t := fun v t ht => by
    rw [hd]
    simp only [Fr.put, Env.put]
    rw [if_neg (fun e : t = d => hs (e ▸ ht))]
  unfold chk
  have at_d : ∀ v, (f.put r.dst v).env d = v := fun v => by rw [hd]; simp [Fr.put, Env.put]
  simp only [hd] at at_d same ⊢
  unfold rwp1 at h
  split at h
  · exact h.elim
  · rename_i hw
    refine ⟨_, by rw [hd] at h; exact h, ?_⟩
    rw [wantG_congr (rts (same _)).1, hw]
    exact at_d _
  · rename_i hw
    have : ∃ v σ', evI f.env σ r.ins = some (v, σ') ∧ K (f.put r.dst v) σ' := by
      obtain ⟨dst, guard, ins⟩ := r
      cases ins <;> simp only [Ins.quiet, Bool.false_eq_true] at hq <;> (simp only at h; split at h <;> first | exact ⟨_, _, by assumption, h⟩ | exact h.elim)
    obtain ⟨v, σ', he, hk⟩ := this
    have e := evI_keeps (σ'' := σ) hq he
    subst e
    refine ⟨v, by rw [hd] at hk; exact hk, ?_⟩
    rw [wantG_congr (rts (same _)).1, hw]
    simp only [at_d]
    rw [evI_congr (rts (same _)).2]
    exact he
end
end Go.Proofs.YtmkgmjdbgjiehaaDoor.Ab
namespace Go.Proofs.YtmkgmjdbgjiehaaDoor.Ab
open Go.RowKit
set_option linter.unusedVariables false
set_option linter.unusedSimpArgs false
section
variable {P : Program} {ro : Option Nat} {Y : YS P} {lo : Nat} {φ φ' : Phi} {I I' : Nat → Prop} {σ σ' : St} {w w' : World} {nt : Nat} {f : Fr} {a : Act} {Q : AX → Fr → St → Prop} {ops : Array Oper} {R : List RI} {A T : List (List Nat)}
structure Tab (P : Program) (nt : Nat) (ops : Array Oper) (R : List RI) (A T : List (List Nat)) : Prop where
  hR : ops.toList.mapM (cRI P nt ops) = some R
  hA : ∀ i, i < ops.size → A.getD i [] = aftL ops i
  hT : TOk A T
def okL (n : Nat) (A : List (List Nat)) : List Nat → Prop
  | [] => True
  | k :: L => (k < n ∧ k ∉ L ∧ ∀ y ∈ A.getD k [], y ∈ L) ∧ okL n A L
theorem okL_closed {n : Nat} : ∀ {L : List Nat}, okL n A L → ∀ k ∈ L, k < n ∧ ∀ y ∈ A.getD k [], y ∈ L
  | [], _, k, h => by simp at h
  | x :: L, h, k, hk => by
    rcases List.mem_cons.1 hk with rfl | hk
    · exact ⟨h.1.1, fun y hy => List.mem_cons_of_mem _ (h.1.2.2 y hy)⟩
    · exact ⟨(okL_closed h.2 k hk).1, fun y hy => List.mem_cons_of_mem _ ((okL_closed h.2 k hk).2 y hy)⟩
structure Inv (ops : Array Oper) (R : List RI) (A T : List (List Nat)) (L : List Nat) (S : Array Bool) (f : Fr) (e : Env) (σ : St) : Prop where
  size : S.size = ops.size
  ord : okL ops.size A L
  sub : ∀ k, S.getD k false = true → k ∈ L
  down : ∀ k, S.getD k false = true → ∀ x ∈ A.getD k [], S.getD x false = true
  del : ∀ k ∈ L, S.getD k false = false → ∃ r d, R[k]? = some r ∧ EOk T R k r d ∧ (eagL T R).getD k false = true ∧ chk r f σ
  agree : ∀ t, (∀ k ∈ L, S.getD k false = false → ∀ r, R[k]? = some r → r.dst ≠ some t) → e t = f.env t
theorem bind_edges {i : Nat} {o : Oper} (ho : ops[i]? = some o) (X : Nat → Prop) : (∀ y ∈ aftL ops i, X y) ↔ ∀ e ∈ o.after, Region.binds .any e = true → X e.on := by
  unfold aftL
  rw [ho]
  simp only [List.mem_map, List.mem_filter, Array.mem_toList_iff]
  constructor
  · exact fun h e he hb => h _ ⟨e, ⟨he, hb⟩, rfl⟩
  · rintro h y ⟨e, ⟨he, hb⟩, rfl⟩; exact h e he hb
theorem ready_iff (ht : Tab P nt ops R A T) {S : Array Bool} (hS : S.size = ops.size) {i : Nat} : i ∈ Region.ready .any ops S ↔ i < ops.size ∧ S.getD i false = false ∧ ∀ y ∈ A.getD i [], S.getD y false = true := by
  rw [mem_ready]
  constructor
  · rintro ⟨h0, o, ho, hall⟩
    have hlt : i < ops.size := (Array.getElem?_eq_some_iff.1 ho).1
    refine ⟨hlt, ?_, ?_⟩
    · have : i < S.size := by rw [hS]; exact hlt
      simpa [this] using h0
    · rw [ht.hA i hlt]
      exact (bind_edges ho fun y => S.getD y false = true).2 hall
  · rintro ⟨hlt, h0, hall⟩
    have ho : ops[i]? = some ops[i] := Array.getElem?_eq_getElem hlt
    refine ⟨?_, _, ho, ?_⟩
    · have : i < S.size := by rw [hS]; exact hlt
      simpa [this] using h0
    · rw [ht.hA i hlt] at hall
      exact (bind_edges ho fun y => S.getD y false = true).1 hall
theorem mem_rdy {n i : Nat} {L : List Nat} : i ∈ rdy n A L ↔ i < n ∧ i ∉ L ∧ ∀ y ∈ A.getD i [], y ∈ L := by
  simp [rdy, and_assoc]
theorem set_at {S : Array Bool} {i j : Nat} : (S.setIfInBounds i true).getD j false = true ↔ S.getD j false = true ∨ (i = j ∧ j < S.size) := by
  by_cases h : i = j
  · subst h
    by_cases hi : i < S.size
    · simp [hi]
    · simp [hi, Array.getElem?_eq_none (Nat.le_of_not_lt hi)]
  · simp [Array.getElem?_setIfInBounds_ne h, h]
theorem bfalse {b : Bool} : b = false ↔ ¬ b = true := by simp
theorem Tab.op (ht : Tab P nt ops R A T) {i : Nat} {r : RI} (hr : R[i]? = some r) : ∃ o, ops[i]? = some o ∧ cRI P nt ops o = some r := (cRI_some ht.hR).2 i r hr
theorem Tab.at (ht : Tab P nt ops R A T) {i : Nat} (h : i < ops.size) : ∃ r, R[i]? = some r := ⟨R[i]'(by rw [(cRI_some ht.hR).1]; exact h), List.getElem?_eq_getElem _⟩
theorem Inv.reads (ht : Tab P nt ops R A T) {L : List Nat} {S : Array Bool} {e : Env} (hv : Inv ops R A T L S f e σ) {i : Nat} {r : RI} (hr : R[i]? = some r) (hi : ∀ y ∈ A.getD i [], S.getD y false = true)
    (hself : ∀ k ∈ L, S.getD k false = false → k = i → ∀ d, r.dst = some d → d ∉ r.ts) : ∀ t ∈ r.ts, f.env t = e t := fun t hm => by
  refine (hv.agree t fun k hk hkS rk hrk hd => ?_).symm
  obtain ⟨r', d, hr', hE, _⟩ := hv.del k hk hkS
  rw [hrk] at hr'
  obtain rfl := Option.some.inj hr'
  have hdt : d = t := by have := hE.dst; rw [hd] at this; exact (Option.some.inj this).symm
  subst hdt
  by_cases hki : k = i
  · subst hki
    rw [hr] at hrk
    obtain rfl := Option.some.inj hrk
    exact hself k hk hkS rfl _ hd hm
  · have := inT_ok ht.hT (hE.read i r hr (Ne.symm hki) hm) (X := fun y => S.getD y false = true) hv.down hi
    rw [hkS] at this
    exact absurd this (by simp)
theorem pwp_alts {E : List Bool} {L : List Nat} {go : Nat → Plan} : ∀ {is : List Nat}, pwp P ro Y Q (altsOf T E R L go is) f σ → ∀ i ∈ is, ∃ r, R[i]? = some r ∧ rwp1 P ro Y (fun x f σ => match x with | .panic v => ∀ env, Q (.panic v) ⟨env, f.ds⟩ σ | _ => False) (fun f σ => (∀ q ∈ againL T E R L i, chk q f σ) ∧ pwp P ro Y Q (go i) f σ) r f σ
  | [], _, i, h => by simp at h
  | x :: is, h, i, hi => by
    unfold altsOf at h
    split at h
    · rename_i r hr
      rcases List.mem_cons.1 hi with rfl | hi
      · exact ⟨r, hr, h.1⟩
      · exact pwp_alts h.2 i hi
    · simp [pwp, rwp1, wantG] at h
theorem chk_put {r : RI} {d : Option Nat} {v : V} {ds : List AD} (h1 : ∀ t, d = some t → t ∉ r.ts) (h2 : ∀ t, d = some t → r.dst ≠ some t) (hr : r.ins.reads = false ∨ σ' = σ) (hq : r.ins.quiet = true) (h : chk r f σ) : chk r { f.put d v with ds := ds } σ' := by
  have same : ∀ t, d ≠ some t → ({ f.put d v with ds := ds } : Fr).env t = f.env t := fun t ht => by
    cases d with
    | none => rfl
    | some d => simp only [Fr.put, Env.put]; rw [if_neg (fun e : t = d => ht (by rw [e]))]
  have hts : ∀ t ∈ r.ts, ({ f.put d v with ds := ds } : Fr).env t = f.env t := fun t ht => same t fun e => h1 t e ht
  unfold chk at h ⊢
  split at h
  · trivial
  · rename_i d' hd'
    rw [wantG_congr (rts hts).1, same d' (fun e => h2 d' e hd')]
    split at h
    · exact h.elim
    · exact h
    · rw [evI_congr (rts hts).2]
      rcases hr with hr | rfl
      · exact evI_other hq hr h
      · exact h
theorem oldest {n : Nat} {S : Array Bool} : ∀ {L : List Nat}, okL n A L → (∃ k ∈ L, S.getD k false = false) → ∃ k ∈ L, S.getD k false = false ∧ ∀ y ∈ A.getD k [], S.getD y false = true
  | [], _, ⟨k, h, _⟩ => by simp at h
  | x :: L, h, hk => by
    by_cases ht : ∃ k ∈ L, S.getD k false = false
    · obtain ⟨k, h1, h2⟩ := oldest h.2 ht
      exact ⟨k, List.mem_cons_of_mem _ h1, h2⟩
    · have all : ∀ k ∈ L, S.getD k false = true := fun k hk => by
        cases hS : S.getD k false with
        | true => rfl
        | false => exact absurd ⟨k, hk, hS⟩ ht
      obtain ⟨k, h1, h2⟩ := hk
      rcases List.mem_cons.1 h1 with rfl | h1
      · exact ⟨k, by simp, h2, fun y hy => all y (h.1.2.2 y hy)⟩
      · rw [all k h1] at h2; simp at h2
theorem count_set {S : Array Bool} {i : Nat} (hi : i < S.size) (h : S.getD i false = false) : (S.setIfInBounds i true).toList.count false + 1 = S.toList.count false := by
  have hl : i < S.toList.length := by simpa using hi
  have hS : S.toList[i] = false := by simpa [hi] using h
  have : 0 < S.toList.count false := List.count_pos_iff.2 (hS ▸ List.getElem_mem hl)
  rw [Array.toList_setIfInBounds, List.count_set hl, hS]
  simp only [beq_self_eq_true, if_true]
  rw [if_neg (by decide)]
  omega
theorem any_ok (ht : Tab P nt ops R A T) {φ0 : Phi} {I0 : Nat → Prop} {σ0 : St} {w0 : World} : ∀ (fuel m : Nat) (L : List Nat) (S : Array Bool) (f : Fr) (e : Env) (σ : St) (φ : Phi) (I : Nat → Prop) (w : World) (a : Act),
    Inv ops R A T L S f e σ → S.toList.count false ≤ fuel → Sim φ I σ w → RelF nt lo φ I w ⟨e, f.ds⟩ a → Y.R φ I w → Evo φ0 I0 σ0 w0 φ I σ w → pwp P ro Y Q (build A T (eagL T R) R m L) f σ → wpAnyIn (WF ro) 0 P .any ops (Lift nt lo Q φ0 I0 σ0 w0) fuel S a w := by
  intro fuel
  induction fuel using Nat.strongRecOn with
  | ind fuel ih =>
  intro m
  induction m with
  | zero => intro L S f e σ φ I w a hv hc hs hf hy hb h; simp [build, pwp, rwp1, wantG, Fr.put] at h
  | succ m ihm =>
  intro L S f e σ φ I w a hv hc hs hf hy hb h
  have inL : ∀ i, (∀ y ∈ A.getD i [], S.getD y false = true) → i < ops.size → i ∉ L → i ∈ rdy R.length A L := fun i hi hlt hn =>
    mem_rdy.2 ⟨by rw [(cRI_some ht.hR).1]; exact hlt, hn, fun y hy => hv.sub y (hi y hy)⟩
  have notS : ∀ i, i ∉ L → S.getD i false = false := fun i hn => by
    cases hS : S.getD i false with
    | false => rfl
    | true => exact absurd (hv.sub i hS) hn
  have notT : ∀ k ∈ L, ∀ i, i ∉ L → inT T k i = true → False := fun k hk i hn hT =>
    hn (inT_ok ht.hT hT (X := fun y => y ∈ L) (fun k hk => (okL_closed hv.ord k hk).2) (okL_closed hv.ord k hk).2)
  have allS : Region.ready .any ops S = [] → ∀ k ∈ L, S.getD k false = true := fun hr => by
    intro k hk
    cases hS : S.getD k false with
    | true => rfl
    | false =>
      obtain ⟨k', hk', h1, h2⟩ := oldest hv.ord ⟨k, hk, hS⟩
      have := (ready_iff ht hv.size).2 ⟨(okL_closed hv.ord k' hk').1, h1, h2⟩
      rw [hr] at this
      simp at this
  have szS : ∀ i, i < ops.size → i < S.size := fun i hi => by rw [hv.size]; exact hi
  -- a reading that is put off, done now
  have late : ∀ fuel', fuel = fuel' + 1 → ∀ i ∈ Region.ready .any ops S, i ∈ L → wpOpIn (WF ro) 0 P ops (Lift nt lo Q φ0 I0 σ0 w0) i (wpAnyIn (WF ro) 0 P .any ops (Lift nt lo Q φ0 I0 σ0 w0) fuel' (S.setIfInBounds i true)) a w := by
    intro fuel' hfu i hi hiL
    obtain ⟨hlt, hS, hA⟩ := (ready_iff ht hv.size).1 hi
    obtain ⟨r, d, hr, hE, hEb, hch⟩ := hv.del i hiL hS
    obtain ⟨o, ho, hco⟩ := ht.op hr
    have hreads : ∀ t ∈ r.ts, f.env t = e t := hv.reads ht hr hA fun k hk hkS hki d' hd' => by
      have hdd := hE.dst; rw [hd'] at hdd
      obtain rfl := Option.some.inj hdd
      exact hE.self
    have hrw : rwp1 P ro Y Q (fun f' σ' => f' = (⟨e, f.ds⟩ : Fr).put r.dst (f.env d) ∧ σ' = σ) r ⟨e, f.ds⟩ σ := chk_rwp1 (f := f) hE.dst hE.quiet hch hreads ⟨rfl, rfl⟩
    refine rwp1_ok ho hco hs hf hy hb hrw ?_
    rintro f' σ' φ' I' w' a' ⟨rfl, rfl⟩ hev hs' hf'
    refine ih fuel' (by omega) (m + 1) L _ f (e.put r.dst (f.env d)) σ' φ' I' w' a' ?_ ?_ hs' hf' (Y.st _ _ _ _ _ _ _ _ hs hev hy) (hb.trans hev) h
    · refine ⟨by simp [hv.size], hv.ord, fun k hk => ?_, fun k hk x hx => ?_, fun k hk hkS => ?_, fun t hto => ?_⟩
      · rcases set_at.1 hk with hk | ⟨rfl, _⟩
        · exact hv.sub k hk
        · exact hiL
      · rcases set_at.1 hk with hk | ⟨rfl, _⟩
        · exact set_at.2 (.inl (hv.down k hk x hx))
        · exact set_at.2 (.inl (hA x hx))
      · exact hv.del k hk (bfalse.2 fun h => bfalse.1 hkS (set_at.2 (.inl h)))
      · rw [hE.dst]
        simp only [Env.put]
        split
        · rename_i heq; rw [heq]
        · rename_i hne
          refine hv.agree t fun k hk hkS rk hrk hdk => ?_
          by_cases hki : k = i
          · subst hki
            rw [hr] at hrk
            obtain rfl := Option.some.inj hrk
            rw [hE.dst] at hdk
            exact hne (Option.some.inj hdk).symm
          · refine hto k hk ?_ rk hrk hdk
            exact bfalse.2 fun h => by
              rcases set_at.1 h with h | ⟨h, _⟩
              · rw [hkS] at h; simp at h
              · exact hki h.symm
    · have := count_set (szS i hlt) hS
      omega
  have zero : fuel = 0 → Region.ready .any ops S = [] := fun h0 => by
    rw [List.eq_nil_iff_forall_not_mem]
    intro i hi
    obtain ⟨hlt, hS, hA⟩ := (ready_iff ht hv.size).1 hi
    have := count_set (szS i hlt) hS
    omega
  unfold build at h
  split at h
  · rename_i i hfi
    have hir := List.mem_of_find?_eq_some hfi
    have hiE := List.find?_some hfi
    obtain ⟨hlt, hn, hA⟩ := mem_rdy.1 hir
    obtain ⟨r, d, hr, hE⟩ := eager_ok hiE
    rw [hr] at h
    simp only [pwp] at h
    obtain ⟨v, hp, hch⟩ := rwp1_quiet hE.dst hE.quiet hE.self h
    rw [hE.dst] at hp hch
    refine ihm (i :: L) S (f.put (some d) v) e σ φ I w a ?_ hc hs hf hy hb hp
    refine ⟨hv.size, ⟨⟨by rw [← (cRI_some ht.hR).1]; exact hlt, hn, hA⟩, hv.ord⟩, fun k hk => List.mem_cons_of_mem _ (hv.sub k hk), hv.down, fun k hk hkS => ?_, fun t hto => ?_⟩
    · rcases List.mem_cons.1 hk with rfl | hk
      · exact ⟨r, d, hr, hE, hiE, hch⟩
      · obtain ⟨rk, dk, hrk, hEk, hEkb, hck⟩ := hv.del k hk hkS
        have hki : k ≠ i := fun e => hn (e ▸ hk)
        refine ⟨rk, dk, hrk, hEk, hEkb, chk_put (f := f) (d := some d) (v := v) (ds := f.ds) (fun t ht' htm => ?_) (fun t ht' htd => ?_) (.inr rfl) hEk.quiet hck⟩
        · obtain rfl := Option.some.inj ht'
          exact notT k hk i hn (hE.read k rk hrk hki htm)
        · obtain rfl := Option.some.inj ht'
          exact hE.one k rk hrk hki htd
    · have hne : t ≠ d := fun e => hto i (by simp) (notS i hn) r hr (by rw [hE.dst, e])
      simp only [Fr.put, Env.put]
      rw [if_neg hne]
      exact hv.agree t fun k hk hkS => hto k (List.mem_cons_of_mem _ hk) hkS
  · rename_i hnone
    have noE : ∀ i ∈ rdy R.length A L, ¬ (eagL T R).getD i false = true := fun i hi he => by
      have := List.find?_eq_none.1 hnone i hi
      exact this he
    split at h
    · rename_i hnil
      have hnorm : Region.ready .any ops S = [] → Lift nt lo Q φ0 I0 σ0 w0 .normal a w := fun hr => by
        have he : e = f.env := funext fun t => hv.agree t fun k hk hkS => by rw [allS hr k hk] at hkS; simp at hkS
        subst he
        exact ⟨_, _, _, _, _, h, .normal, hb, hs, hf⟩
      cases fuel with
      | zero => exact ⟨zero rfl, hnorm (zero rfl)⟩
      | succ fuel' =>
        refine ⟨hnorm, fun i hi => ?_⟩
        by_cases hiL : i ∈ L
        · exact late fuel' rfl i hi hiL
        · obtain ⟨hlt, hS, hA⟩ := (ready_iff ht hv.size).1 hi
          have := inL i hA hlt hiL
          rw [hnil] at this
          simp at this
    · rename_i x xs hcons
      have hnorm : Region.ready .any ops S = [] → False := fun hr => by
        have hx : x ∈ rdy R.length A L := by rw [hcons]; simp
        obtain ⟨hlt, hn, hA⟩ := mem_rdy.1 hx
        have := (ready_iff ht hv.size).2 ⟨by rw [← (cRI_some ht.hR).1]; exact hlt, notS x hn, fun y hy => allS hr y (hA y hy)⟩
        rw [hr] at this
        simp at this
      cases fuel with
      | zero => exact (hnorm (zero rfl)).elim
      | succ fuel' =>
        refine ⟨fun hr => (hnorm hr).elim, fun i hi => ?_⟩
        by_cases hiL : i ∈ L
        · exact late fuel' rfl i hi hiL
        obtain ⟨hlt, hS, hA⟩ := (ready_iff ht hv.size).1 hi
        have hir := inL i hA hlt hiL
        obtain ⟨r, hr, hrw⟩ := pwp_alts h i (hcons ▸ hir)
        obtain ⟨o, ho, hco⟩ := ht.op hr
        have hreads : ∀ t ∈ r.ts, f.env t = e t := hv.reads ht hr hA fun k hk _ hki => absurd (hki ▸ hk) hiL
        have hrw2 : rwp1 P ro Y Q (fun f2 σ2 => ∃ v ds, f2 = { (⟨e, f.ds⟩ : Fr).put r.dst v with ds := ds } ∧ ((∀ q ∈ againL T (eagL T R) R L i, chk q { f.put r.dst v with ds := ds } σ2) ∧ pwp P ro Y Q (build A T (eagL T R) R m (i :: L)) { f.put r.dst v with ds := ds } σ2)) r ⟨e, f.ds⟩ σ :=
          rwp1_congr (f := f) (f' := ⟨e, f.ds⟩) rfl hreads hrw (fun v σ h => h e) (fun v σ ds h => ⟨v, ds, rfl, h⟩)
        refine rwp1_ok ho hco hs hf hy hb hrw2 ?_
        rintro f' σ' φ' I' w' a' ⟨v, ds, rfl, hag, hp⟩ hev hs' hf'
        refine ih fuel' (by omega) m (i :: L) _ { f.put r.dst v with ds := ds } (e.put r.dst v) σ' φ' I' w' a' ?_ ?_ hs' hf' (Y.st _ _ _ _ _ _ _ _ hs hev hy) (hb.trans hev) hp
        · refine ⟨by simp [hv.size], ⟨⟨hlt, hiL, fun y hy => hv.sub y (hA y hy)⟩, hv.ord⟩, fun k hk => ?_, fun k hk y hy => ?_, fun k hk hkS => ?_, fun t hto => ?_⟩
          · rcases set_at.1 hk with hk | ⟨rfl, _⟩
            · exact List.mem_cons_of_mem _ (hv.sub k hk)
            · simp
          · rcases set_at.1 hk with hk | ⟨rfl, _⟩
            · exact set_at.2 (.inl (hv.down k hk y hy))
            · exact set_at.2 (.inl (hA y hy))
          · have hkS' : S.getD k false = false := bfalse.2 fun h => bfalse.1 hkS (set_at.2 (.inl h))
            have hki : k ≠ i := fun e => bfalse.1 hkS (set_at.2 (.inr ⟨e.symm, by rw [e]; exact szS i hlt⟩))
            have hkL := (List.mem_cons.1 hk).resolve_left hki
            obtain ⟨rk, dk, hrk, hEk, hEkb, hck⟩ := hv.del k hkL hkS'
            have notTi : inT T i k = true → False := fun hT => by
              have := inT_ok ht.hT hT (X := fun y => S.getD y false = true) hv.down hA
              rw [hkS'] at this; simp at this
            refine ⟨rk, dk, hrk, hEk, hEkb, ?_⟩
            cases hrd : rk.ins.reads with
            | true =>
              refine hag rk (List.mem_filterMap.2 ⟨k, hkL, ?_⟩)
              rw [if_pos ⟨hEkb, bfalse.2 notTi⟩, hrk]
              simp [hrd]
            | false =>
              refine chk_put (fun t ht' htm => ?_) (fun t ht' htd => ?_) (.inl hrd) hEk.quiet hck
              · rcases hEk.write i r t hr (Ne.symm hki) ht' htm with h | h
                · exact notT k hkL i hiL h
                · exact notTi h
              · rw [hEk.dst] at htd
                exact hEk.one i r hr (Ne.symm hki) (by rw [ht', ← htd])
          · cases hd : r.dst with
            | none =>
              simp only [hd, Fr.put, Env.put] at hto ⊢
              refine hv.agree t fun k hk hkS rk hrk => hto k (List.mem_cons_of_mem _ hk) (bfalse.2 fun h => ?_) rk hrk
              rcases set_at.1 h with h | ⟨rfl, _⟩
              · rw [hkS] at h; simp at h
              · exact hiL hk
            | some d' =>
              simp only [hd, Fr.put, Env.put] at hto ⊢
              split
              · rfl
              · refine hv.agree t fun k hk hkS rk hrk => hto k (List.mem_cons_of_mem _ hk) (bfalse.2 fun h => ?_) rk hrk
                rcases set_at.1 h with h | ⟨rfl, _⟩
                · rw [hkS] at h; simp at h
                · exact hiL hk
        · have := count_set (szS i hlt) hS
          omega
end
end Go.Proofs.YtmkgmjdbgjiehaaDoor.Ab
namespace Go.Proofs.YtmkgmjdbgjiehaaDoor.Ab
open Go.RowKit
set_option linter.unusedVariables false
set_option linter.unusedSimpArgs false
section
variable {P : Program} {φ φ' : Phi} {I I' : Nat → Prop} {σ σ' : St} {w w' : World} {nt : Nat} {f : Fr} {a : Act} {Q : AX → Fr → St → Prop} {ops : Array Oper} {R : List RI} {A T : List (List Nat)}
theorem Evo.drawn (n : Nat) : Evo φ I σ w φ I σ { w with drawn := n } :=
  ⟨fun _ _ h => h, fun _ h => h, fun _ h => .inl h, fun _ h => .inl h, Nat.le_refl _, fun _ _ => rfl, fun _ _ _ => rfl, rfl, rfl, rfl, rfl, .same fun _ _ => rfl⟩
theorem Sim.drawn (h : Sim φ I σ w) (n : Nat) : Sim φ I σ { w with drawn := n } := by
  have rel : ∀ v c, Rel φ I w v c → Rel φ I { w with drawn := n } v c := fun v c hr => hr.evo h (Evo.drawn n)
  refine ⟨h.dom, h.blk, fun l b hl => ?_, h.notI, h.inj, h.imm, h.base⟩
  obtain ⟨x, hx, hb⟩ := h.live l b hl
  refine ⟨x, hx, ?_⟩
  cases hb with
  | row hh hfz hpos hz hsz ho hr => exact .row hh hfz hpos hz hsz ho fun i j e v h1 h2 => rel _ _ (hr i j e v h1 h2)
  | map hh hn hr => exact .map hh hn fun i kv e h1 h2 => ⟨rel _ _ (hr i kv e h1 h2).1, rel _ _ (hr i kv e h1 h2).2⟩
  | lp hh hr => exact .lp hh hr
theorem count_all {n : Nat} : (Array.replicate n false).toList.count false ≤ n := by simp
theorem nofalse {n k : Nat} (h : (Array.replicate n false).getD k false = true) : False := by
  by_cases hk : k < n <;> simp [hk] at h
theorem cw_drw {ro : Option Nat} {Y : YS P} {p : Plan} (h : pwp P ro Y Q p f σ) : CWof planOf P ro Y nt (.drw p) f σ Q := fun code hc lo φ I w a hs hf hy => by
  cases code <;> (try simp only [compC, Option.some.injEq, reduceCtorEq, Option.map_eq_some_iff, Option.bind_eq_some_iff, and_false, exists_false] at hc)
  case region id ops d =>
    cases d
    · simp [compC] at hc
    · simp only [compC, Option.map_eq_some_iff, C.drw.injEq] at hc
      obtain ⟨p', hp', rfl⟩ := hc
      unfold planOf at hp'
      split at hp'
      · rename_i hm
        split at hp'
        · rename_i R hR
          simp only [Option.some.injEq] at hp'
          subst hp'
          have ht : Tab P nt ops R ((List.range ops.size).map (aftL ops)) (tblGo ((List.range ops.size).map (aftL ops)) []) :=
            ⟨hR, fun i hi => by simp [hi], tblGo_ok _ _ _ rfl fun i x hx => by simp at hx⟩
          refine wpIn_region_any hm (any_ok ht ops.size _ [] _ f f.env σ φ I _ a ?_ count_all (hs.drawn _) (hf.evo hs (Evo.drawn _)) (Y.st _ _ _ _ _ _ _ _ hs (Evo.drawn _) hy) (Evo.drawn _) h)
          refine ⟨by simp, trivial, fun k hk => ?_, fun k hk => ?_, fun k hk => by simp at hk, fun t _ => rfl⟩
          · exact (nofalse hk).elim
          · exact (nofalse hk).elim
        · simp at hp'
      · simp at hp'
end
end Go.Proofs.YtmkgmjdbgjiehaaDoor.Ab
