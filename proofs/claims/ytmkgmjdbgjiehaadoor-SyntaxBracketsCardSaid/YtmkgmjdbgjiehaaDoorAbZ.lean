/-
The walk over the program's texts, told with what its values say: a part of it. No further condition.
-/
import Derived.Test.YtmkgmjdbgjiehaaDoorAbI
import Derived.Test.YtmkgmjdbgjiehaaDoorAbO
import Derived.RecoverIn
namespace Go.Proofs.YtmkgmjdbgjiehaaDoor.Ab
open Go.RowKit
set_option linter.unusedVariables false
set_option linter.unusedSimpArgs false
def setPs (env : Env) : List Nat → List V → Env
  | p :: ps, v :: vs => setPs (env.put (some p) v) ps vs
  | _, _ => env
section
variable {P : Program} {φ φ' : Phi} {I I' : Nat → Prop} {σ σ' : St} {w w' : World} {nt : Nat} {f : Fr} {a : Act}
theorem setPs_rel : ∀ {ps : List Nat} {vs : List V} {cs : List Value} {env : Env} {t : Array Value}, vs.length = cs.length → (∀ (i : Nat) v, vs[i]? = some v → Rel φ I w v (cs.getD i undef)) → t.size = nt → (∀ k, k < nt → Rel φ I w (env k) (t.getD k undef)) →
    ((ps.zip cs).foldl (fun t (p, v) => t.setIfInBounds p v) t).size = nt ∧ ∀ k, k < nt → Rel φ I w (setPs env ps vs k) (((ps.zip cs).foldl (fun t (p, v) => t.setIfInBounds p v) t).getD k undef)
  | [], vs, cs, env, t, hl, hr, ht, he => by
    simp only [setPs, List.zip_nil_left, List.foldl_nil]
    exact ⟨ht, he⟩
  | p :: ps, [], cs, env, t, hl, hr, ht, he => by
    obtain rfl : cs = [] := List.eq_nil_of_length_eq_zero hl.symm
    simp only [setPs, List.zip_nil_right, List.foldl_nil]
    exact ⟨ht, he⟩
  | p :: ps, v :: vs, [], env, t, hl, hr, ht, he => by simp at hl
  | p :: ps, v :: vs, c :: cs, env, t, hl, hr, ht, he => by
    simp only [List.zip_cons_cons, List.foldl_cons, setPs]
    refine setPs_rel (by simpa using hl) (fun i v hv => by simpa using hr (i + 1) v (by simpa using hv)) (by simpa using ht) (fun k hk => ?_)
    simp only [Env.put]
    by_cases e : k = p
    · subst e
      rw [if_pos rfl]
      have : k < t.size := by rw [ht]; exact hk
      have h0 := hr 0 v rfl
      simpa [this] using h0
    · rw [if_neg e]
      have := he k hk
      simpa [Array.getElem?_setIfInBounds, Ne.symm e] using this
theorem sim_imm (hs : Sim φ I σ w) (o : Obj) : Evo φ I σ w φ (fun b => I b ∨ b = w.heap.size) σ (w.alloc o) ∧ Sim φ (fun b => I b ∨ b = w.heap.size) σ (w.alloc o) := by
  have hh : (w.alloc o).heap = w.heap.push o := rfl
  have hsz : (w.alloc o).heap.size = w.heap.size + 1 := by simp
  have hp : ∀ b, b < w.heap.size → (w.alloc o).heap[b]? = w.heap[b]? := fun b h => heap_push hh h
  have hN : ∀ b, b < w.heap.size → cellsOf (w.alloc o) b = cellsOf w b := fun b h => cellsOf_push hh h
  refine ⟨⟨fun _ _ h => h, fun _ h => .inl h, fun b h => ?_, fun _ h => .inl h, by omega, hN, fun b h _ => hp b h, rfl, rfl, rfl, rfl, .same hp⟩,
    ⟨hs.dom, fun l x h => by have := hs.blk l x h; omega, fun l b h => ?_, fun b hl => ?_, hs.inj, fun b h => ?_, fun b h => ⟨.inl (hs.base b h).1, (hp b (hs.imm b (hs.base b h).1)).trans (hs.base b h).2⟩⟩⟩
  · rcases h with h | rfl
    · exact .inl h
    · exact .inr (.inr (Nat.le_refl _))
  · obtain ⟨x, h1, h2⟩ := hs.live l b h
    refine ⟨x, h1, ?_⟩
    have := h2.keep hs (fun _ _ h => h) (fun b h => hp b (hs.imm b h)) hN (hp x.1 (hs.blk l x h1))
    cases this with
    | row hh hfz hpos hz hsz ho hr => exact .row hh hfz hpos hz hsz ho fun i j e v h1 h2 => (hr i j e v h1 h2).mono (fun _ _ h => h) (fun _ h => .inl h) (fun _ _ => rfl) (fun _ _ _ => rfl)
    | map hh hn hr => exact .map hh hn fun i kv e h1 h2 => ⟨(hr i kv e h1 h2).1.mono (fun _ _ h => h) (fun _ h => .inl h) (fun _ _ => rfl) (fun _ _ _ => rfl), (hr i kv e h1 h2).2.mono (fun _ _ h => h) (fun _ h => .inl h) (fun _ _ => rfl) (fun _ _ _ => rfl)⟩
    | lp hh hr => exact .lp hh hr
  · rintro (h | rfl)
    · exact hs.notI b hl h
    · obtain ⟨l, x, _, h2, h3⟩ := hl
      have := hs.blk l x h2
      omega
  · rcases h with h | rfl
    · have := hs.imm b h; omega
    · omega
theorem sim_lp (hs : Sim φ I σ w) {m l : Nat} {s s' : LS} {r : Loop} {st : LoopState} {pe : Option Code} (hm : σ.H m = some (.lp s)) (hx : φ m = some (l, 0, 0)) (hl : w.heap[l]? = some (.loop r)) (hr : LSR s' { r with state := st, pending := pe }) :
    Evo φ I σ w φ I (σ.set m (.lp s')) (w.putObj l (.loop { r with state := st, pending := pe })) ∧ Sim φ I (σ.set m (.lp s')) (w.putObj l (.loop { r with state := st, pending := pe })) := by
  have hlt : l < w.heap.size := (Array.getElem?_eq_some_iff.1 hl).1
  have hsame := World.putObj_heap_same (w := w) (o := Obj.loop { r with state := st, pending := pe }) hlt
  have hoth : ∀ k, k ≠ l → (w.putObj l (.loop { r with state := st, pending := pe })).heap[k]? = w.heap[k]? := fun k hk => World.putObj_heap_other hk
  exact sim_turn hs (x := (l, 0, 0)) (by rw [hm]; rfl) hx hoth (by simp) (by simp [cellsOf, hsame, hl]) ⟨rfl, rfl, rfl⟩ (.lp hsame hr) fun b r' hb => by
    by_cases e : b = l
    · subst e
      rw [hl] at hb
      obtain rfl := Obj.loop.inj (Option.some.inj hb)
      exact ⟨_, _, hsame⟩
    · exact ⟨r'.state, r'.pending, (hoth b e).trans hb⟩
def jx : Option Nat → AX
  | some id => .exit id
  | none => .ret
def Asg (pl : Program → Nat → Array Oper → Option Plan) (P : Program) (nt : Nat) (asg : C) (e : Env) (σ : St) (e' : Env) (σ1 : St) : Prop :=
  ∀ ro (Y : YS P), CWof pl P ro Y nt asg ⟨e, []⟩ σ fun x f' σ' => x = .normal ∧ f' = ⟨e', []⟩ ∧ σ' = σ1
theorem LSR.lp_inv (hs : Sim φ I σ w) {m l : Nat} {s : LS} {r0 : Loop} (hm : σ.H m = some (.lp s)) (hx : φ m = some (l, 0, 0)) (hl : ∃ st pe, w.heap[l]? = some (.loop { r0 with state := st, pending := pe })) :
    ∃ st pe, w.heap[l]? = some (.loop { r0 with state := st, pending := pe }) ∧ LSR s { r0 with state := st, pending := pe } := by
  obtain ⟨x, h1, h2⟩ := hs.live m _ hm
  rw [hx] at h1
  obtain rfl := Option.some.inj h1
  obtain ⟨st, pe, h3⟩ := hl
  cases h2 with
  | lp hh hr =>
    rw [h3] at hh
    obtain rfl := Obj.loop.inj (Option.some.inj hh)
    exact ⟨st, pe, h3, hr⟩
theorem set_back {σ : St} {m : Nat} {b c : Blk} (h : σ.H m = some b) : (σ.set m c).set m b = σ := by
  cases σ with
  | mk H n W =>
    simp only [St.set, St.mk.injEq, and_true]
    funext k
    simp only [upd]
    split
    · rename_i e; rw [e]; exact h.symm
    · rfl
theorem cw_rng {pl : Program → Nat → Array Oper → Option Plan} {Y : YS P} {Q : AX → Fr → St → Prop} {g : Opd} {ps : List Nat} {asg body : C} {gf : FuncId} {cap : List V} {xs : List (List V)} {G : St → Prop}
    (hg : g.ev f.env = .func (.func gf) [] cap) (hbd : hasBody P gf = true) (hI : Iter P gf cap G xs)
    (S : Nat → St → Prop) (X : Option Nat → St → Prop) (h0 : S 0 (σ.new (.lp .busy))) (hS : ∀ i σ', S i σ' → σ'.H σ.n = some (.lp .busy)) (hX : ∀ j σ', X j σ' → σ'.H σ.n = some (.lp .busy))
    (hG : ∀ i σ', S i σ' → G (σ'.set σ.n (.lp .ready))) (hGX : ∀ j σ', X j σ' → G (σ'.set σ.n (.lp (.done j))))
    (round : ∀ (i : Nat) x σ', xs[i]? = some x → S i σ' → x.length = ps.length ∧ ∃ e' σ1, Asg pl P nt asg (setPs f.env ps x) (σ'.set σ.n (.lp .ready)) e' σ1 ∧ σ1.H σ.n = some (.lp .ready) ∧ ∀ l, CWof pl P (some l) (noY P) nt body ⟨e', []⟩ (σ1.set σ.n (.lp .busy)) fun e f' σ'' => match e with
      | .normal => S (i + 1) σ''
      | .exit id => X (some id) σ''
      | .ret => X none σ''
      | .panic _ => False)
    (done : ∀ σ', S xs.length σ' → Q .normal ⟨f.env, .coll :: f.ds⟩ (σ'.kill σ.n)) (jump : ∀ j σ', X j σ' → Q (jx j) ⟨f.env, .coll :: f.ds⟩ (σ'.kill σ.n)) :
    CWof pl P none Y nt (.rng g ps asg body) f σ Q := fun code hc lo φ I w a hs hf hy => by
  cases code <;> (try simp only [compC, Option.some.injEq, reduceCtorEq, Option.map_eq_some_iff, Option.bind_eq_some_iff, and_false, exists_false, C.rng.injEq] at hc)
  case region id ops d => cases d <;> simp [compC] at hc
  case rangeFunc gO psA asgC bodyC =>
    obtain ⟨g', hg', _, _, asg', hasg', body', hbody', rfl, rfl, rfl, rfl⟩ := hc
    refine wpIn_rangeFunc fun fn _ => ?_
    obtain ⟨rec0, hrec0⟩ : ∃ r : Loop, r = { state := .ready, pending := none, fn, tmps := a.tmps, params := psA, assign := asgC, body := bodyC, defers := w.heap.size } := ⟨_, rfl⟩
    obtain ⟨l, hl⟩ : ∃ l, l = w.heap.size + 1 := ⟨_, rfl⟩
    obtain ⟨m, hm⟩ : ∃ m, m = σ.n := ⟨_, rfl⟩
    rw [← hm] at hS hX hG hGX done jump round
    -- the two blocks
    obtain ⟨e1, s1⟩ := sim_imm hs (.deferred (some []))
    obtain ⟨e2, s2⟩ := sim_new (w' := (w.alloc (.deferred (some []))).alloc (.loop rec0)) s1 (o := .loop rec0) rfl ⟨rfl, rfl, rfl⟩ (blk := .lp .ready) (z := 0) fun φ' _ => .lp (r := rec0) (World.alloc_heap_new (w.alloc (.deferred (some []))) (.loop rec0)) (by rw [hrec0]; exact ⟨rfl, rfl⟩)
    have e12 := e1.trans e2
    have hW1l : ((w.alloc (.deferred (some []))).alloc (.loop rec0)).heap[l]? = some (.loop rec0) := by
      rw [hl]; have := World.alloc_heap_new (w.alloc (.deferred (some []))) (.loop rec0); rwa [World.size_alloc] at this
    have hW1D : ((w.alloc (.deferred (some []))).alloc (.loop rec0)).heap[w.heap.size]? = some (.deferred (some [])) :=
      (Below.heap_alloc _ _ _ (by simp)).trans (World.alloc_heap_new w _)
    have hent : (Instr.enterLoop fn a.tmps psA asgC bodyC (WF none).round).run P w = .ok (l, [{ target := .collected w.heap.size, args := #[] }]) ((w.alloc (.deferred (some []))).alloc (.loop rec0)) := by
      rw [hrec0, hl]; exact run_enterLoop_outer _ _ _ _ _
    have hphi : (φ.put σ.n ((w.alloc (.deferred (some []))).heap.size, 0, 0)) m = some (l, 0, 0) := by
      rw [hm, hl]; simp [Phi.put]
    generalize hW1 : (w.alloc (.deferred (some []))).alloc (.loop rec0) = W1 at *
    generalize hφ1 : φ.put σ.n ((w.alloc (.deferred (some []))).heap.size, 0, 0) = φ1 at *
    have hgr := cOpd_rel hf.env hg'
    rw [hg] at hgr
    generalize hq : a.eval gO = q at hgr
    cases hgr with
    | func _ q1 r1 q2 r2 =>
    rename_i fs cs
    obtain rfl : fs = #[] := Array.eq_empty_of_size_eq_zero q1
    have hinv : (invoke (.fn (.func gf) cs) #[.func (.yield l) #[] #[]]).run P W1 = .ok (.enter gf (#[.func (.yield l) #[] #[]] ++ cs)) W1 := by
      simp only [invoke]; exact run_hasBody hbd _
    refine ⟨l, [{ target := .collected w.heap.size, args := #[] }], W1, { target := .fn (.func gf) cs, args := #[.func (.yield l) #[] #[]] }, W1, gf, _, W1, hent, ?_, fun _ _ => trivial, hinv, fun h => by simp [WF, Fence.wide] at h, ?_⟩
    · simp only [resolve, hq]
      simp [go_sem]
    -- the yields
    let Y1 : YS P := {
      R := fun φ' I' w' => RelF nt 0 φ' I' w' ⟨f.env, []⟩ { tmps := a.tmps, defers := [] } ∧ φ' m = some (l, 0, 0) ∧ ∃ st pe, w'.heap[l]? = some (.loop { rec0 with state := st, pending := pe })
      call := fun l' x σ' K => l' = l ∧ ∃ (i : Nat) (σb : St), xs[i]? = some x ∧ S i σb ∧ σ' = σb.set m (.lp .ready) ∧ (∀ σ'', S (i + 1) σ'' → K (.ret (.bool true)) (σ''.set m (.lp .ready))) ∧ ∀ j σ'', X j σ'' → K (.ret (.bool false)) (σ''.set m (.lp (.done j)))
      st := fun φ I σ w φ' I' σ' w' hs he ⟨h1, h2, st, pe, h3⟩ => ⟨h1.evo hs he, he.phi _ _ h2, by
        obtain ⟨st', pe', h4⟩ := he.loops _ _ h3
        exact ⟨st', pe', h4⟩⟩
      mono := fun l vs σ K K' hk ⟨h1, i, σb, h2, h3, h4, h5, h6⟩ => ⟨h1, i, σb, h2, h3, h4, fun σ'' h => hk _ _ (h5 σ'' h), fun j σ'' h => hk _ _ (h6 j σ'' h)⟩
      ok := ?_ }
    · have hR1 : Y1.R φ1 (fun b => I b ∨ b = w.heap.size) W1 := ⟨RelF.evo ⟨hf.size, hf.env, trivial, Nat.zero_le _⟩ hs e12, hphi, rec0.state, rec0.pending, hW1l⟩
      have hargs : RelA φ1 (fun b => I b ∨ b = w.heap.size) W1 (.func (.yield l) [] [] :: cap) (#[.func (.yield l) #[] #[]] ++ cs) := by
        have h1 : RelA φ1 (fun b => I b ∨ b = w.heap.size) W1 [.func (.yield l) [] []] #[.func (.yield l) #[] #[]] := ⟨rfl, fun i u hu => by
          cases i with
          | zero => simp at hu; subst hu; exact .func _ rfl (fun i v h => by simp at h) rfl (fun i v h => by simp at h)
          | succ i => simp at hu⟩
        exact h1.append (RelA.evo ⟨q2, r2⟩ hs e12)
      have hcall := hI Y1 l (fun i σ' => ∃ σb, S i σb ∧ σ' = σb.set m (.lp .ready)) (fun σ' => ∃ j σb, X j σb ∧ σ' = σb.set m (.lp (.done j))) (σ.new (.lp .ready))
        (fun i σ' ⟨σb, h1, h2⟩ => h2 ▸ hG i σb h1) (fun σ' ⟨j, σb, h1, h2⟩ => h2 ▸ hGX j σb h1)
        (fun i x σ' hx ⟨σb, h1, h2⟩ => ⟨rfl, i, σb, hx, h1, h2, fun σ'' h => .inl ⟨rfl, σ'', h, rfl⟩, fun j σ'' h => .inr ⟨rfl, j, σ'', h, rfl⟩⟩)
        ⟨_, h0, by rw [hm]; exact (St.mk.injEq ..).symm ▸ (by simp [St.new, St.set]; funext k; simp only [upd]; split <;> rfl)⟩
      refine callsIn_wf ((hcall φ1 _ W1 _ s2 hargs hR1).mono ?_)
      rintro e w3 ⟨o, σ3, φ3, I3, ⟨rfl, hend⟩, hO, e3, s3⟩
      cases hO with
      | ret hv =>
      have hm3 := e3.phi _ _ hphi
      have hD3 : I3 w.heap.size ∧ w3.heap[w.heap.size]? = some (.deferred (some [])) :=
        ⟨e3.imm _ (.inr rfl), (e3.frame _ (s2.imm _ (.inr rfl)) fun hlv => s2.notI _ hlv (.inr rfl)).trans hW1D⟩
      have hl3 : ∃ st pe, w3.heap[l]? = some (.loop { rec0 with state := st, pending := pe }) := by
        obtain ⟨st, pe, h4⟩ := e3.loops _ _ hW1l
        exact ⟨st, pe, h4⟩
      have fin : ∀ (s : LS) (σb : St) (jmp : Option Code), σ3 = σb.set m (.lp s) → (∀ r, LSR s r → r.state ≠ .busy ∧ r.pending = jmp) → ∃ w4, (Instr.endLoop l).run P w3 = .ok jmp w4 ∧ Evo φ I σ w φ3 I3 (σb.kill m) w4 ∧ Sim φ3 I3 (σb.kill m) w4 ∧
          RelF nt lo φ3 I3 w4 ⟨f.env, .coll :: f.ds⟩ { a with defers := [{ target := .collected w.heap.size, args := #[] }] ++ a.defers } := fun s σb jmp h3 hst => by
        subst h3
        have hms : (σb.set m (.lp s)).H m = some (.lp s) := by simp [St.set, upd]
        obtain ⟨st, pe, hh, hr⟩ := LSR.lp_inv s3 hms hm3 hl3
        obtain ⟨hb, hp⟩ := hst _ hr
        obtain ⟨e4, s4⟩ := sim_lp s3 (s' := .gone) (st := .exhausted) (pe := pe) hms hm3 hh trivial
        obtain ⟨e5, s5⟩ := sim_kill s4 m
        have hk : ((σb.set m (.lp s)).set m (.lp .gone)).kill m = σb.kill m := by
          simp only [St.set, St.kill, St.mk.injEq, and_true]
          funext k; simp only [upd]; split <;> rfl
        rw [hk] at e5 s5
        have hrun := run_endLoop (P := P) hh hb
        refine ⟨_, by rw [hrun]; simp only at hp; rw [hp], (e12.trans e3).trans (e4.trans e5), s5, ?_⟩
        have hev := (e12.trans e3).trans (e4.trans e5)
        refine ⟨hf.size, fun t ht => (hf.env t ht).evo hs hev, ⟨w.heap.size, rfl, hf.lo, ?_, hD3.1, ?_, hf.ds.evo hs hev⟩, Nat.le_trans hf.lo hev.size⟩
        · have := (e12.trans e3).size; have := e12.size; have h5 := (Array.getElem?_eq_some_iff.1 hW1D).1; have := e3.size; simp; omega
        · exact (World.putObj_heap_other (by omega)).trans hD3.2
      rcases hend with ⟨σb, h1, h2⟩ | ⟨j, σb, h1, h2⟩
      · obtain ⟨w4, h3, h4, h5, h6⟩ := fin .ready σb none h2 (fun r ⟨h7, h8⟩ => ⟨by rw [h7]; simp, h8⟩)
        exact ⟨none, w4, h3, _, _, _, _, _, done σb h1, .normal, h4, h5, h6⟩
      · obtain ⟨w4, h3, h4, h5, h6⟩ := fin (.done j) σb (some (jc j)) h2 (fun r ⟨h7, h8⟩ => ⟨by rw [h7]; simp, h8⟩)
        refine ⟨some (jc j), w4, h3, ?_⟩
        cases j with
        | none => exact wpIn_ret ⟨_, _, _, _, _, jump none σb h1, .ret, h4, h5, h6⟩
        | some id => exact wpIn_exit ⟨_, _, _, _, _, jump (some id) σb h1, .exit id, h4, h5, h6⟩
    · rintro l' x σ' K ⟨rfl, i, σb, hx, hSi, rfl, k1, k2⟩ φ' I' w' cs' hs' ⟨hfR, hmR, hlR⟩ hra
      have hms : (σb.set m (.lp .ready)).H m = some (.lp .ready) := by simp [St.set, upd]
      obtain ⟨st, pe, hh, hst, hpe⟩ := LSR.lp_inv hs' hms hmR hlR
      simp only at hst hpe
      subst hst; subst hpe
      have hr0 : ({ rec0 with state := .ready, pending := none } : Loop) = rec0 := by rw [hrec0]
      rw [hr0] at hh
      obtain ⟨hxl, e', σr, hasg, hσr, hround⟩ := round i x σb hx hSi
      have hcs : cs'.size = rec0.params.size := by rw [hra.1, hxl, hrec0]; simp
      have hyr := run_yield (P := P) hh hcs
      refine ⟨_, _, _, _, hyr, roundIn_of_wpIn trivial ?_⟩
      have hzip : (rec0.params.zip cs').foldl (fun t (p, v) => t.setIfInBounds p v) rec0.tmps = (psA.toList.zip cs'.toList).foldl (fun t (p, v) => t.setIfInBounds p v) a.tmps := by
        rw [← Array.foldl_toList, Array.toList_zip, hrec0]
      obtain ⟨z1, z2⟩ := setPs_rel (ps := psA.toList) (vs := x) (cs := cs'.toList) (env := f.env) (t := a.tmps) (by simpa using hra.1.symm) (fun i v hv => by simpa using hra.2 i v hv) hfR.size (fun k hk => hfR.env k hk)
      rw [← hzip] at z1 z2
      have hcA : compC pl P nt rec0.assign = some asg' := by rw [hrec0]; exact hasg'
      have hcB : compC pl P nt rec0.body = some body' := by rw [hrec0]; exact hbody'
      refine wpIn_mono (hasg (some l') (noY P) rec0.assign hcA 0 φ' I' w' { tmps := (rec0.params.zip cs').foldl (fun t (p, v) => t.setIfInBounds p v) rec0.tmps, defers := [] } hs' ⟨z1, z2, trivial, Nat.zero_le _⟩ trivial) ?_
      rintro e a1 w1 ⟨_, f1, σ1, φ1', I1', ⟨rfl, rfl, rfl⟩, hX1, e1', s1', hf1⟩
      cases hX1
      have hm1 := e1'.phi _ _ hmR
      have hl1 : ∃ st pe, w1.heap[l']? = some (.loop { rec0 with state := st, pending := pe }) := by
        obtain ⟨st, pe, h4⟩ := e1'.loops _ _ hh
        exact ⟨st, pe, h4⟩
      obtain ⟨st, pe, hh1, hst, hpe⟩ := LSR.lp_inv s1' hσr hm1 hl1
      simp only at hst hpe
      subst hst; subst hpe
      rw [hr0] at hh1
      have hbeg := run_beginRound (P := P) hh1 (by rw [hrec0])
      refine ⟨_, hbeg, ?_⟩
      obtain ⟨e2', s2'⟩ := sim_lp s1' (s' := .busy) (st := .busy) (pe := none) hσr hm1 hh1 rfl
      have hput : ({ rec0 with state := .busy, pending := none } : Loop) = { rec0 with state := .busy } := by rw [hrec0]
      rw [hput] at e2' s2'
      refine wpIn_mono (hround l' rec0.body hcB 0 φ1' I1' _ a1 s2' (hf1.evo s1' e2') trivial) ?_
      rintro e a3 w3 ⟨x3, f3, σ3, φ3, I3, hq3, hX3, e3', s3', hf3⟩
      have hm3 := e3'.phi _ _ hm1
      have hl3 : ∃ st pe, w3.heap[l']? = some (.loop { rec0 with state := st, pending := pe }) := by
        obtain ⟨st', pe', h4⟩ := e2'.loops _ _ hh1
        obtain ⟨st, pe, h4⟩ := e3'.loops _ _ h4
        exact ⟨st, pe, h4⟩
      have fin : ∀ (s : LS) (jmp : Option Code) (b : Bool), σ3.H m = some (.lp .busy) → jmp.isNone = b → LSR s { rec0 with state := if jmp.isNone then .ready else .done, pending := jmp } →
          K (.ret (.bool b)) (σ3.set m (.lp s)) → ∃ v w4, (Instr.endRound l' jmp).run P w3 = .ok v w4 ∧ ∃ o σ' φ'' I'', K o σ' ∧ RelO φ'' I'' w4 o (.returned v) ∧ Evo φ' I' (σb.set m (.lp .ready)) w' φ'' I'' σ' w4 ∧ Sim φ'' I'' σ' w4 := fun s jmp b hb3 hjb hls hk => by
        obtain ⟨st, pe, hh3, _⟩ := LSR.lp_inv s3' hb3 hm3 hl3
        have hrun := run_endRound (P := P) jmp hh3
        obtain ⟨e4, s4⟩ := sim_lp s3' (s' := s) (st := if jmp.isNone then .ready else .done) (pe := jmp) hb3 hm3 hh3 hls
        exact ⟨_, _, hrun, _, _, φ3, I3, hk, by rw [hjb]; exact .ret (.bool b), e1'.trans (e2'.trans (e3'.trans e4)), s4⟩
      cases hX3 with
      | normal => exact fin .ready none true (hS _ _ hq3) rfl ⟨rfl, rfl⟩ (k1 σ3 hq3)
      | exit id => exact fin (.done (some id)) (some (.exit id)) false (hX _ _ hq3) rfl ⟨rfl, rfl⟩ (k2 (some id) σ3 hq3)
      | ret => exact fin (.done none) (some .ret) false (hX _ _ hq3) rfl ⟨rfl, rfl⟩ (k2 none σ3 hq3)
      | panic hv => exact hq3.elim
end
end Go.Proofs.YtmkgmjdbgjiehaaDoor.Ab
namespace Go.Proofs.YtmkgmjdbgjiehaaDoor.Ab
open Go.RowKit
set_option linter.unusedVariables false
set_option linter.unusedSimpArgs false
def recV : Md → V
  | .pan v => v
  | _ => .nili
def recM : Md → Md
  | .pan v => .rcv v
  | m => m
section
variable {pl : Program → Nat → Array Oper → Option Plan} {P : Program} {φ φ' : Phi} {I I' : Nat → Prop} {σ σ' : St} {w w' : World} {nt : Nat} {f : Fr} {a : Act} {Q : AX → Fr → St → Prop}
theorem compOp_rec {o : Oper} (h : compOp P nt o = some .recover) : ∃ c, o.op = .call c ∧ c.callee = .builtin .recover := by
  have hp : ∀ x, onlyPlain x ≠ some .recover := fun x e => by
    unfold onlyPlain at e
    obtain ⟨y, _, e⟩ := Option.bind_eq_some_iff.1 e
    split at e
    · rename_i hh
      simp only [Option.some.injEq] at e; subst e
      simp [Ins.plain] at hh
    · simp at e
  unfold compOp at h
  split at h
  · rename_i c hc
    split at h
    · rename_i f hf
      split at h
      · obtain ⟨_, _, e⟩ := Option.map_eq_some_iff.1 h; cases e
      · simp at h
    · obtain ⟨_, _, h⟩ := Option.bind_eq_some_iff.1 h
      obtain ⟨_, _, e⟩ := Option.map_eq_some_iff.1 h; cases e
    · rename_i hr; exact ⟨c, hc, hr⟩
    · exact absurd h (hp _)
  · rename_i c hc
    split at h
    · obtain ⟨_, _, h⟩ := Option.bind_eq_some_iff.1 h
      obtain ⟨_, _, e⟩ := Option.map_eq_some_iff.1 h; cases e
    · simp at h
  · obtain ⟨_, _, e⟩ := Option.map_eq_some_iff.1 h; cases e
  · exact absurd h (hp _)
theorem recD {u : FrameMode} {m : Md} (h : ModeR φ I w m u) (c₀ : Frame) (cs : List Frame) (hc : c₀.mode = u) :
    ∃ val u', ModeR φ I w (recM m) u' ∧ Rel φ I w (recV m) val ∧
      (match recoverD (c₀ :: cs) with | some (v, cs') => v = val ∧ cs' = { c₀ with mode := u' } :: cs | none => val = .nilIface ∧ c₀ :: cs = { c₀ with mode := u' } :: cs) := by
  cases h with
  | ret => refine ⟨.nilIface, .returning, .ret, .nili, ?_⟩; simp [recoverD, hc]; rw [← hc]
  | pan h => exact ⟨_, _, .rcv h, h, by simp [recoverD, hc]⟩
  | rcv h => refine ⟨.nilIface, _, .rcv h, .nili, ?_⟩; simp [recoverD, hc]; rw [← hc]
theorem dcalls_rec {k : FuncId} {cf : CF} {vs : List V} {R : CO → St → Prop} {m : Md} {d : Nat} {rs : List RI} {c2 : C} (hcf : compF pl P k = some cf) (hl : vs.length ≤ cf.nt) (hb2 : cf.body = .seq (.reg (⟨some d, none, .recover⟩ :: rs)) c2)
    (hQ : Q = fun x f σ' => match x with
      | .normal | .ret => f.ds = [] ∧ ∃ v, retV cf.res f.env σ' = some v ∧ R (.ret v) σ'
      | .panic v => f.ds = [] ∧ R (.panic v) σ'
      | .exit _ => False)
    (h : rwp P none (noY P) (fun x f σ' => match x with | .normal => CWof pl P none (noY P) cf.nt c2 f σ' Q | e => Q e f σ') rs ((⟨envOf vs, []⟩ : Fr).put (some d) (recV m)) σ) :
    DCalls P k vs m σ fun o m' σ' => m' = recM m ∧ R o σ' := by
  intro φ I w cs u hs ha hm
  simp only [compF, Option.bind_eq_some_iff, Option.map_eq_some_iff] at hcf
  obtain ⟨fn, hfn, b, hb, c, hc, rs', hrs, rfl⟩ := hcf
  simp only at hb2 hl h
  subst hb2
  refine callsDIn_of_wpSIn (n := 0) (F := WF none) hfn hb trivial fun c₀ fcs hmode => ?_
  obtain ⟨val, u', hm', hv, hrec⟩ := recD hm c₀ fcs hmode
  have hrel := enter_rel (nt := fn.ntmps) ha hl
  generalize hact : ({ tmps := cs ++ Array.replicate (fn.ntmps - cs.size) undef, defers := [] } : Act) = a at hrel
  cases b <;> (try simp only [compC, Option.some.injEq, reduceCtorEq, Option.map_eq_some_iff, Option.bind_eq_some_iff, and_false, exists_false, C.seq.injEq] at hc)
  case region id ops d => cases d <;> simp [compC] at hc
  case seq cx cy =>
    obtain ⟨x', hx, y', hy, rfl, rfl⟩ := hc
    cases cx <;> (try simp only [compC, Option.some.injEq, reduceCtorEq, Option.map_eq_some_iff, Option.bind_eq_some_iff, and_false, exists_false, C.reg.injEq] at hx)
    case region id ops dr =>
      cases dr
      · simp only [compC, Option.map_eq_some_iff, C.reg.injEq] at hx
        obtain ⟨l, hops, rfl⟩ := hx
        obtain ⟨hlen, hat⟩ := cRI_some hops
        obtain ⟨o, ho, hco⟩ := hat 0 _ rfl
        simp only [cRI, Option.bind_eq_some_iff, Option.map_eq_some_iff, RI.mk.injEq] at hco
        obtain ⟨g, hg, i, hi, hd, rfl, rfl⟩ := hco
        obtain ⟨cl, hop, hcal⟩ := compOp_rec hi
        have hgd : o.guard = none := by
          cases hgg : o.guard with
          | none => rfl
          | some x =>
            rw [hgg] at hg
            simp only [cGuard, Option.bind_eq_some_iff] at hg
            obtain ⟨_, _, hg⟩ := hg
            split at hg <;> simp at hg
        have hw : Region.wanted o (yielded ops a.tmps) = true := by simp [Region.wanted, hgd]
        have hr : (execOp a.eval o).run P w = .ok .recover w := by
          simp [execOp, hop, hcal, resolve, invoke, builtin]
        have hput := hrel.put hv (some d)
        have hpost : ∀ (x : AX) (f' : Fr) (σ' : St) (φ' : Phi) (I' : Nat → Prop) (e : Exit) (a' : Act) (w' : World), Q x f' σ' → RelX φ' I' w' x e → Evo φ I σ w φ' I' σ' w' → Sim φ' I' σ' w' → RelF fn.ntmps w.heap.size φ' I' w' f' a' →
            bodyPostS P fn c₀ fcs (fun e u' w' => ∃ o m' σ' φ' I', (m' = recM m ∧ R o σ') ∧ RelO φ' I' w' o e ∧ ModeR φ' I' w' m' u' ∧ Evo φ I σ w φ' I' σ' w' ∧ Sim φ' I' σ' w') e a' ({ c₀ with mode := u' } :: fcs) w' := by
          intro x f' σ' φ' I' e a' w' h1 h2 h3 h4 h5
          have hdf : f'.ds = [] → a'.defers = [] := fun e => by
            have := h5.ds
            rw [e] at this
            cases hh : a'.defers with
            | nil => rfl
            | cons d ds => rw [hh] at this; exact this.elim
          subst hQ
          have hret : (f'.ds = [] ∧ ∃ v, retV rs' f'.env σ' = some v ∧ R (.ret v) σ') → a'.defers = [] ∧ ∃ u'', { c₀ with mode := u' } :: fcs = { c₀ with mode := u'' } :: fcs ∧ ∃ v, (results fn a'.tmps).run P w' = .ok v w' ∧ ∃ o m' σ' φ' I', (m' = recM m ∧ R o σ') ∧ RelO φ' I' w' o (.returned v) ∧ ModeR φ' I' w' m' u'' ∧ Evo φ I σ w φ' I' σ' w' ∧ Sim φ' I' σ' w' := fun ⟨e, v, hv, hR⟩ => by
            obtain ⟨c, hc1, hc2⟩ := ret_run h4 h5.env hrs hv
            exact ⟨hdf e, u', rfl, c, hc1, _, _, _, _, _, ⟨rfl, hR⟩, .ret hc2, hm'.evo hs h3, h3, h4⟩
          cases h2 with
          | normal => exact hret h1
          | ret => exact hret h1
          | exit id => exact h1.elim
          | panic hv => exact ⟨hdf h1.1, u', rfl, _, _, _, _, _, ⟨rfl, h1.2⟩, .panic hv, hm'.evo hs h3, h3, h4⟩
        have hregs := rwp_ok (lo := w.heap.size) hops rs.length 1 (by simp; omega) _ σ φ I w _ hs hput trivial (Evo.refl _ _ _ _) (by simpa using h)
        refine wpSIn_seq fun b k hbk hbr hF hroom => ?_
        have hsz : List.range ops.size = 0 :: List.range' 1 rs.length := by
          rw [List.range_eq_range', ← hlen]; rfl
        have h0 : (lone (b.atR a (.inRegion ops (0 :: List.range' 1 rs.length) :: k)) (c₀ :: fcs) w).fenced P (WF none) := fenced_oper hF hroom ho (fun _ _ => trivial)
        have hgo := stepGR_op (P := P) (b := b) (k := k) (cs := c₀ :: fcs) (w := w) (rest := List.range' 1 rs.length) ho hw
        rw [hbr, Oper.semAt_none] at hgo
        have hfin : ∀ v, (b.atR a (.inRegion ops (0 :: List.range' 1 rs.length) :: k)).finish v = b.atR (a.put o.dst v) (.inRegion ops (List.range' 1 rs.length) :: k) := by
          intro v; rw [Frame.finish_atR, ho]; rfl
        have hk : (b.atR a (.inRegion ops (0 :: List.range' 1 rs.length) :: k)).kind = .deferred := hbk
        have htr := tryRecover_deferred hk (c₀ :: fcs)
        have hcs : Go.step P (lone (b.atR a (.inRegion ops (0 :: List.range' 1 rs.length) :: k)) (c₀ :: fcs) w) = .next (lone (b.atR (a.put (some d) val) (.inRegion ops (List.range' 1 rs.length) :: k)) ({ c₀ with mode := u' } :: fcs) w) := by
          rw [← hd, ← hfin val]
          refine step_lone_go ?_
          rw [hgo]
          simp only [Frame.atR, hbr] at htr ⊢
          cases hrc : recoverD (c₀ :: fcs) with
          | none =>
            rw [hrc] at hrec
            obtain ⟨rfl, hcs⟩ := hrec
            simp [stepG.apply, hr, htr, hrc]
            injection hcs with h1 h2
          | some vc =>
            rw [hrc] at hrec
            obtain ⟨v', cs'⟩ := vc
            obtain ⟨rfl, rfl⟩ := hrec
            simp [stepG.apply, hr, htr, hrc]
        obtain ⟨e, a', w', hl', harr⟩ := wp_opsIn _ _ _ hregs b k ({ c₀ with mode := u' } :: fcs) hbr hF (by simpa using hroom)
        refine ⟨e, a', { c₀ with mode := u' } :: fcs, w', by simp, ?_, .of_steps (.one (fenced_calm hF hroom rfl) stepR_region) (.of_steps (.one (by rw [hsz]; exact h0) (by rw [hsz]; exact hcs)) harr)⟩
        obtain ⟨x, f', σ', φ', I', h1, h2, h3, h4, h5⟩ := hl'
        cases h2 with
        | normal =>
          refine wpSIn_of_wpIn rfl (wpIn_mono (h1 cy hy w.heap.size φ' I' w' a' h4 h5 trivial) fun e a'' w'' hl => ?_)
          obtain ⟨x, f'', σ'', φ'', I'', k1, k2, k3, k4, k5⟩ := Lift.base h3 hl
          exact hpost x f'' σ'' φ'' I'' e a'' w'' k1 k2 k3 k4 k5
        | exit id => exact hpost _ f' σ' φ' I' _ a' w' h1 (.exit id) h3 h4 h5
        | ret => exact hpost _ f' σ' φ' I' _ a' w' h1 .ret h3 h4 h5
        | panic hv => exact hpost _ f' σ' φ' I' _ a' w' h1 (.panic hv) h3 h4 h5
      · simp [compC] at hx
end
end Go.Proofs.YtmkgmjdbgjiehaaDoor.Ab
namespace Go.Proofs.YtmkgmjdbgjiehaaDoor.Ab
open Go.RowKit
set_option linter.unusedVariables false
set_option linter.unusedSimpArgs false
inductive D where
  | skip
  | reg (rs : List RI)
  | drw (p : Plan)
  | seq (a b : D)
  | kb (ts : List Nat) (b : D)
  | cond (c : Opd) (a b : D)
  | block (id : Nat) (b : D)
  | loop (ts : List Nat) (b : D)
  | rng (g : Opd) (ps : List Nat) (asg : D) (body : D)
  | exit (id : Nat)
  | ret
def D.er : D → C
  | .skip => .skip
  | .reg rs => .reg rs
  | .drw p => .drw p
  | .seq a b => .seq a.er b.er
  | .kb _ b => b.er
  | .cond c a b => .cond c a.er b.er
  | .block id b => .block id b.er
  | .loop _ b => .loop b.er
  | .rng g ps a b => .rng g ps a.er b.er
  | .exit id => .exit id
  | .ret => .ret
def lk : List Nat → List V → Env
  | t :: ts, v :: vs => fun n => if n = t then v else lk ts vs n
  | _, _ => fun _ => .any
def kp (ts : List Nat) (f : Fr) : Fr := ⟨lk ts (ts.map f.env), f.ds⟩
inductive Fz where
  | raw
  | all
  | own
  | cut
structure FD where
  nt : Nat
  res : List RC
  body : D
  fz : Fz
inductive SE where
  | d (d : D)
  | r (rs : List RI)
  | p (p : Plan)
  | ar (r : RI) (ag : List RI) (p : Plan)
  | ck (ag : List RI)
  | blk (id : Nat)
  | lp (ts : List Nat) (b : D)
  | rnd (e : Env) (ds : List AD) (m : Nat) (ps : List Nat) (asg body : D) (gf : FuncId) (cap : List V) (ky : V) (all : List (List V)) (i : Nat)
def noRnd : List SE → Bool
  | [] => true
  | .rnd .. :: _ => false
  | _ :: s => noRnd s
def asgN : List RI → Env → Option Env
  | [], e => some e
  | ⟨some d, none, .mv x⟩ :: rs, e => asgN rs (e.put (some d) (x.ev e))
  | _, _ => none
def asgM : D → Env → Option Env
  | .skip, e => some e
  | .reg rs, e => asgN rs e
  | .seq a b, e => (asgM a e).bind (asgM b)
  | .kb _ b, e => asgM b e
  | _, _ => none
def asgR : List RI → Env → St → Option (Env × St)
  | [], e, σ => some (e, σ)
  | ⟨d, none, i⟩ :: rs, e, σ => match evI e σ i with
    | some (v, σ') => asgR rs (e.put d v) σ'
    | none => none
  | _, _, _ => none
def asgE : D → Env → St → Option (Env × St)
  | .skip, e, σ => some (e, σ)
  | .reg rs, e, σ => asgR rs e σ
  | .seq a b, e, σ => (asgE a e σ).bind fun x => asgE b x.1 x.2
  | .kb _ b, e, σ => asgE b e σ
  | _, _, _ => none
theorem asgN_R : ∀ (l : List RI) (e e' : Env) (σ : St), asgN l e = some e' → asgR l e σ = some (e', σ)
  | [], e, e', σ, h => by simp only [asgN, Option.some.injEq] at h; subst h; rfl
  | ⟨some d, none, .mv x⟩ :: l, e, e', σ, h => asgN_R l _ e' σ h
  | ⟨none, _, _⟩ :: _, _, _, _, h => by simp [asgN] at h
  | ⟨some _, some _, _⟩ :: _, _, _, _, h => by simp [asgN] at h
  | ⟨some d, none, i⟩ :: l, e, e', σ, h => by
    cases i <;> first | (simp [asgN] at h; done) | (exact asgN_R l _ e' σ h)
theorem asgM_E : ∀ (d : D) (e e' : Env) (σ : St), asgM d e = some e' → asgE d e σ = some (e', σ)
  | .skip, e, e', σ, h => by simp only [asgM, Option.some.injEq] at h; subst h; rfl
  | .reg l, e, e', σ, h => asgN_R l e e' σ h
  | .seq a b, e, e', σ, h => by
    obtain ⟨e1, h1, h2⟩ := Option.bind_eq_some_iff.1 h
    simp only [asgE, asgM_E a e e1 σ h1, Option.bind_some]
    exact asgM_E b e1 e' σ h2
  | .drw _, e, e', _, h => by simp [asgM] at h
  | .kb _ b, e, e', σ, h => asgM_E b e e' σ h
  | .cond _ _ _, e, e', _, h => by simp [asgM] at h
  | .block _ _, e, e', _, h => by simp [asgM] at h
  | .loop _ _, e, e', _, h => by simp [asgM] at h
  | .rng _ _ _ _, e, e', _, h => by simp [asgM] at h
  | .exit _, e, e', _, h => by simp [asgM] at h
  | .ret, e, e', _, h => by simp [asgM] at h
structure En (P : Program) where
  T : FuncId → Option FD
  It : FuncId → List V → St → Option (V × List (List V))
  Bt : FuncId → List V → St → Option V
  Dt : FuncId → List V → Md → St → Option (CO × Md × St)
structure En.Ok {P : Program} (E : En P) : Prop where
  hT : ∀ k fd, E.T k = some fd → compF planOf P k = some ⟨fd.nt, fd.res, fd.body.er⟩ ∧ hasBody P k = true
  hI : ∀ gf cap σ ky xs, E.It gf cap σ = some (ky, xs) → hasBody P gf = true ∧ Iter P gf cap (fun σ' => E.It gf cap σ' = some (ky, xs)) xs
  hB : ∀ k vs σ v, E.Bt k vs σ = some v → CCalls P k vs σ fun o σ' => o = .ret v ∧ σ' = σ
  hD : ∀ k vs m σ r, E.Dt k vs m σ = some r → hasBody P k = true ∧ DCalls P k vs m σ fun o m' σ' => (o, m', σ') = r
inductive Nx where
  | stop
  | go (s : List SE) (f : Fr) (σ : St)
  | call (drawn : Bool) (k : FuncId) (vs : List V) (σ : St) (d : Option Nat) (s : List SE) (f : Fr)
  | both (s t : List SE) (f : Fr) (σ : St)
  | fin (f : Fr) (σ : St)
  | pan (drawn : Bool) (v : V) (s : List SE) (f : Fr) (σ : St)
def stG (d : Option Nat) (s : List SE) (f : Fr) (r : Option (V × St)) : Nx :=
  match r with
  | some (v, σ') => .go s (f.put d v) σ'
  | none => .stop
def stRI {P : Program} (E : En P) (dr : Bool) (r : RI) (s : List SE) (f : Fr) (σ : St) : Nx :=
  match wantG f.env r.guard with
  | none => .stop
  | some false => .go s (f.put r.dst (.tup [])) σ
  | some true => match r.ins with
    | .call k as => .call dr k (evs f.env as) σ r.dst s f
    | .callv g as => match g.ev f.env with
      | .func (.func k) first cap => if (E.T k).isSome = true then .call dr k (first ++ evs f.env as ++ cap) σ r.dst s f else .stop
      | _ => .stop
    | .defer g as => if noRnd s = true then match g.ev f.env with
        | .func fn first cap => .go s ({ f with ds := .call fn cap (first ++ evs f.env as) :: f.ds }.put r.dst (.tup [])) σ
        | _ => .stop
      else .stop
    | .panic x => match x.ev f.env with
      | .iface t v => .pan dr (.iface t v) s f σ
      | _ => .stop
    | .recover => .stop
    | ins => stG r.dst s f (evI f.env σ ins)
def stQ (r : RI) (s : List SE) (f : Fr) (σ : St) : Nx :=
  match wantG f.env r.guard with
  | none => .stop
  | some false => .go s (f.put r.dst (.tup [])) σ
  | some true => stG r.dst s f (evI f.env σ r.ins)
open Classical in
noncomputable def stCk (q : RI) (qs : List RI) (s : List SE) (f : Fr) (σ : St) : Nx := if chk q f σ then .go (.ck qs :: s) f σ else .stop
open Classical in
noncomputable def step {P : Program} (E : En P) : List SE → Fr → St → Nx
  | [], f, σ => .fin f σ
  | .d d :: s, f, σ => match d with
    | .skip => .go s f σ
    | .reg rs => .go (.r rs :: s) f σ
    | .drw p => .go (.p p :: s) f σ
    | .seq a b => .go (.d a :: .d b :: s) f σ
    | .kb ts b => .go (.d b :: s) (kp ts f) σ
    | .cond c a b => match c.ev f.env with
      | .bool true => .go (.d a :: s) f σ
      | .bool false => .go (.d b :: s) f σ
      | _ => .stop
    | .block id b => .go (.d b :: .blk id :: s) f σ
    | .loop ts b => .go (.d b :: .lp ts b :: s) (kp ts f) σ
    | .rng g ps asg body => if noRnd s = true then match g.ev f.env with
        | .func (.func gf) [] cap => match E.It gf cap σ with
          | some (ky, xs) => .go (.rnd f.env f.ds σ.n ps asg body gf cap ky xs 0 :: s) f (σ.new (.lp .busy))
          | none => .stop
        | _ => .stop
      else .stop
    | .exit id => match s with
      | .blk id' :: s => if id' = id then .go s f σ else .go (.d (.exit id) :: s) f σ
      | .rnd e ds m _ _ _ gf cap ky all _ :: s => match σ.H m with
        | some (.lp .busy) => if E.It gf cap (σ.set m (.lp (.done (some id)))) = some (ky, all) then .go (.d (.exit id) :: s) ⟨e, .coll :: ds⟩ (σ.kill m) else .stop
        | _ => .stop
      | _ :: s => .go (.d (.exit id) :: s) f σ
      | [] => .stop
    | .ret => match s with
      | .rnd e ds m _ _ _ gf cap ky all _ :: s => match σ.H m with
        | some (.lp .busy) => if E.It gf cap (σ.set m (.lp (.done none))) = some (ky, all) then .go (.d .ret :: s) ⟨e, .coll :: ds⟩ (σ.kill m) else .stop
        | _ => .stop
      | _ :: s => .go (.d .ret :: s) f σ
      | [] => .fin f σ
  | .r rs :: s, f, σ => match rs with
    | [] => .go s f σ
    | r :: rs => stRI E false r (.r rs :: s) f σ
  | .p p :: s, f, σ => match p with
    | .done => .go s f σ
    | .q r p => stQ r (.p p :: s) f σ
    | .alt r ag p .stop => .go (.ar r ag p :: s) f σ
    | .alt r ag p more => .both (.ar r ag p :: s) (.p more :: s) f σ
    | .stop => .stop
  | .ar r ag p :: s, f, σ => stRI E true r (.ck ag :: .p p :: s) f σ
  | .ck ag :: s, f, σ => match ag with
    | [] => .go s f σ
    | q :: qs => stCk q qs s f σ
  | .blk _ :: s, f, σ => .go s f σ
  | .lp ts b :: s, f, σ => .go (.d (.loop ts b) :: s) f σ
  | .rnd e ds m ps asg body gf cap ky all i :: s, f, σ => match σ.H m with
    | some (.lp .busy) => if E.It gf cap (σ.set m (.lp .ready)) = some (ky, all) then match all[i]? with
        | none => .go s ⟨e, .coll :: ds⟩ (σ.kill m)
        | some x => if x.length = ps.length then match asgE asg (setPs e ps x) (σ.set m (.lp .ready)) with
            | some (e', σ1) => match σ1.H m with
              | some (.lp .ready) => .go (.d body :: .rnd e ds m ps asg body gf cap ky all (i + 1) :: s) ⟨e', []⟩ (σ1.set m (.lp .busy))
              | _ => .stop
            | none => .stop
          else .stop
      else .stop
    | _ => .stop
def ptrs : CO → List Nat
  | .ret (.ptr l _ _) => [l]
  | .ret (.tup vs) => vs.flatMap fun v => match v with | .ptr l _ _ => [l] | _ => []
  | _ => []
noncomputable def cutR (z : Fz) (σ : St) (r : CO × St) : CO × St :=
  match z with
  | .raw => r
  | .cut => r
  | .all => (frzO r.2.H (fun l => decide (l < σ.n)) r.1, σ.frz r.2 (fun l => decide (l < σ.n)) σ.n)
  | .own => (frzO r.2.H (fun l => decide (l < σ.n) || (ptrs r.1).contains l) r.1, σ.frz r.2 (fun l => decide (l < σ.n) || (ptrs r.1).contains l) ((ptrs r.1).foldl (fun a b => max a (b + 1)) σ.n))
noncomputable def ct : List RC → CO × St → CO × St
  | .cut σ :: _, r => cutR .all σ r
  | _, r => r
def rsOf : List RC → List RC
  | .cut _ :: rs => rs
  | rs => rs
def anyR : List RC → List RC
  | .cut σ :: _ => [.cut σ, .c 0 none]
  | _ => [.c 0 none]
def headR (fd : FD) (σ : St) : List RC :=
  match fd.fz with
  | .cut => .cut σ :: fd.res
  | _ => fd.res
abbrev Rn := Bool → List RC → List SE → Fr → St → Option (CO × St)
noncomputable def evF {P : Program} (E : En P) (rn : Rn) (k : FuncId) (vs : List V) (σ : St) : Option (CO × St) :=
  match E.T k with
  | some fd => if vs.length ≤ fd.nt then (rn false (headR fd σ) [.d fd.body] ⟨envOf vs, []⟩ σ).map (cutR fd.fz σ) else none
  | none => (E.Bt k vs σ).map fun v => (.ret v, σ)
def recHead : D → Option (Nat × List RI × D)
  | .seq (.reg (⟨some d, none, .recover⟩ :: rs)) c => some (d, rs, c)
  | _ => none
noncomputable def dF {P : Program} (E : En P) (rn : Rn) (k : FuncId) (vs : List V) (m : Md) (σ : St) : Option (CO × Md × St) :=
  match E.T k with
  | some fd => if vs.length ≤ fd.nt then (match recHead fd.body with
      | some (d, l, c) => (rn true fd.res [.r l, .d c] ((⟨envOf vs, []⟩ : Fr).put (some d) (recV m)) σ).map fun r => (r.1, recM m, r.2)
      | none => (rn true fd.res [.d fd.body] ⟨envOf vs, []⟩ σ).map fun r => (r.1, m, r.2)) else none
  | none => E.Dt k vs m σ
noncomputable def finF {P : Program} (E : En P) (rn : Rn) (rs : List RC) (env : Env) : List AD → Md → St → Option (CO × St)
  | [], .ret, σ => (retV (rsOf rs) env σ).map fun v => ct rs (.ret v, σ)
  | [], .pan v, σ => some (ct rs (.panic v, σ))
  | [], .rcv _, σ => none
  | .coll :: ds, m, σ => finF E rn rs env ds m σ
  | .call (.func k) cap args :: ds, m, σ => match dF E rn k (args ++ cap) m σ with
    | some (.ret _, m', σ') => finF E rn rs env ds (settleM m') σ'
    | some (.panic v, .ret, σ') => finF E rn rs env ds (.pan v) σ'
    | _ => none
  | .call _ _ _ :: _, _, _ => none
noncomputable def finD {P : Program} (E : En P) (rn : Rn) (dd : Bool) (rs : List RC) (env : Env) (ds : List AD) (m : Md) (σ : St) : Option (CO × St) :=
  match dd, ds with
  | true, [] => finF E rn rs env [] m σ
  | true, _ :: _ => none
  | false, ds => finF E rn rs env ds m σ
noncomputable def panF {P : Program} (E : En P) (rn : Rn) (dd dr : Bool) (rs : List RC) (f : Fr) (v : V) (s : List SE) (σ : St) : Option (CO × St) :=
  if noRnd s = true then (if dr = true then finD E rn dd (anyR rs) (fun _ => .any) f.ds (.pan v) σ else finD E rn dd rs f.env f.ds (.pan v) σ) else none
open Classical in
noncomputable def both (x y : Option (CO × St)) : Option (CO × St) := if x = y then x else none
noncomputable def nxF {P : Program} (E : En P) (rn : Rn) (dd : Bool) (rs : List RC) : Nx → Option (CO × St)
  | .stop => none
  | .go s f σ => rn dd rs s f σ
  | .call dr k vs σ d s f => match evF E rn k vs σ with
    | some (.ret v, σ') => rn dd rs s (f.put d v) σ'
    | some (.panic v, σ') => panF E rn dd dr rs f v s σ'
    | none => none
  | .both s t f σ => both (rn dd rs s f σ) (rn dd rs t f σ)
  | .fin f σ => finD E rn dd rs f.env f.ds .ret σ
  | .pan dr v s f σ => panF E rn dd dr rs f v s σ
noncomputable def runN {P : Program} (E : En P) : Nat → Rn
  | 0 => fun _ _ _ _ _ => none
  | n + 1 => fun dd rs s f σ => nxF E (runN E n) dd rs (step E s f σ)
def Le (rn rn' : Rn) : Prop := ∀ dd rs s f σ r, rn dd rs s f σ = some r → rn' dd rs s f σ = some r
section
variable {P : Program} {E : En P} {rn rn' : Rn}
theorem evF_le (h : Le rn rn') {k : FuncId} {vs : List V} {σ : St} {r : CO × St} (e : evF E rn k vs σ = some r) : evF E rn' k vs σ = some r := by
  unfold evF at e ⊢
  split at e
  · split at e
    · rename_i hl
      rw [if_pos hl]
      obtain ⟨x, hx, rfl⟩ := Option.map_eq_some_iff.1 e
      rw [h _ _ _ _ _ _ hx]; rfl
    · simp at e
  · exact e
theorem dF_le (h : Le rn rn') {k : FuncId} {vs : List V} {m : Md} {σ : St} {r : CO × Md × St} (e : dF E rn k vs m σ = some r) : dF E rn' k vs m σ = some r := by
  unfold dF at e ⊢
  split at e
  · split at e
    · rename_i hl
      rw [if_pos hl]
      split at e
      · obtain ⟨x, hx, rfl⟩ := Option.map_eq_some_iff.1 e
        rw [h _ _ _ _ _ _ hx]; rfl
      · obtain ⟨x, hx, rfl⟩ := Option.map_eq_some_iff.1 e
        rw [h _ _ _ _ _ _ hx]; rfl
    · simp at e
  · exact e
theorem finF_le (h : Le rn rn') {rs : List RC} {env : Env} {r : CO × St} : ∀ {ds : List AD} {m : Md} {σ : St}, finF E rn rs env ds m σ = some r → finF E rn' rs env ds m σ = some r
  | [], .ret, σ, e => e
  | [], .pan v, σ, e => e
  | [], .rcv _, σ, e => e
  | .coll :: ds, m, σ, e => finF_le (ds := ds) h e
  | .call (.func k) cap args :: ds, m, σ, e => by
    unfold finF at e ⊢
    split at e
    · rename_i h1; rw [dF_le h h1]; exact finF_le h e
    · rename_i h1; rw [dF_le h h1]; exact finF_le h e
    · simp at e
  | .call (.yield _) _ _ :: _, _, _, e => by simp [finF] at e
  | .call (.method ..) _ _ :: _, _, _, e => by simp [finF] at e
  | .call (.methodOf ..) _ _ :: _, _, _, e => by simp [finF] at e
  | .call (.via ..) _ _ :: _, _, _, e => by simp [finF] at e
theorem panF_le (h : Le rn rn') {dd dr : Bool} {rs : List RC} {f : Fr} {v : V} {s : List SE} {σ : St} {r : CO × St} (e : panF E rn dd dr rs f v s σ = some r) : panF E rn' dd dr rs f v s σ = some r := by
  have fd : ∀ rs env, finD E rn dd rs env f.ds (.pan v) σ = some r → finD E rn' dd rs env f.ds (.pan v) σ = some r := fun rs env e => by
    unfold finD at e ⊢
    split at e
    · exact finF_le h e
    · simp at e
    · exact finF_le h e
  unfold panF at e ⊢
  split at e
  · rename_i h1
    rw [if_pos h1]
    split at e
    · rename_i h2; rw [if_pos h2]; exact fd _ _ e
    · rename_i h2; rw [if_neg h2]; exact fd _ _ e
  · simp at e
theorem both_some {x y : Option (CO × St)} {r : CO × St} (h : both x y = some r) : x = some r ∧ y = some r := by
  unfold both at h
  split at h
  · rename_i e; exact ⟨h, e ▸ h⟩
  · simp at h
theorem nxF_le (h : Le rn rn') {dd : Bool} {rs : List RC} {x : Nx} {r : CO × St} (e : nxF E rn dd rs x = some r) : nxF E rn' dd rs x = some r := by
  cases x with
  | stop => simp [nxF] at e
  | go s f σ => exact h _ _ _ _ _ _ e
  | call dr k vs σ d s f =>
    simp only [nxF] at e ⊢
    split at e
    · rename_i h1; rw [evF_le h h1]; exact h _ _ _ _ _ _ e
    · rename_i h1; rw [evF_le h h1]; exact panF_le h e
    · simp at e
  | both s t f σ =>
    obtain ⟨h1, h2⟩ := both_some e
    simp only [nxF, h _ _ _ _ _ _ h1, h _ _ _ _ _ _ h2, both, if_true]
  | fin f σ =>
    simp only [nxF] at e ⊢
    unfold finD at e ⊢
    split at e
    · exact finF_le h e
    · simp at e
    · exact finF_le h e
  | pan dr v s f σ => exact panF_le h e
theorem runN_succ (n : Nat) : Le (runN E n) (runN E (n + 1)) := by
  induction n with
  | zero => intro dd rs s f σ r e; simp [runN] at e
  | succ n ih => intro dd rs s f σ r e; exact nxF_le ih e
theorem runN_le {m n : Nat} (h : m ≤ n) : Le (runN E m) (runN E n) := by
  induction h with
  | refl => exact fun _ _ _ _ _ _ h => h
  | step _ ih => exact fun dd rs s f σ r e => runN_succ _ _ _ _ _ _ _ (ih _ _ _ _ _ _ e)
end
end Go.Proofs.YtmkgmjdbgjiehaaDoor.Ab
namespace Go.Proofs.YtmkgmjdbgjiehaaDoor.Ab
open Go.RowKit
set_option linter.unusedVariables false
set_option linter.unusedSimpArgs false
section
variable {P : Program} {E : En P} {nt : Nat} {ro : Option Nat} {Y : YS P} {f : Fr} {σ : St} {dd dr : Bool} {rs : List RC} {s : List SE} {r : CO × St}
def Ct (E : En P) (n : Nat) (dd : Bool) (rs : List RC) (s : List SE) (r : CO × St) : AX → Fr → St → Prop
  | .normal, f, σ => runN E n dd rs s f σ = some r
  | .exit id, f, σ => runN E n dd rs (.d (.exit id) :: s) f σ = some r
  | .ret, f, σ => runN E n dd rs (.d .ret :: s) f σ = some r
  | .panic v, f, σ => panF E (runN E n) dd false rs f v s σ = some r
theorem Ct.le {m n : Nat} (h : m ≤ n) {x : AX} {f : Fr} {σ : St} (hc : Ct E m dd rs s r x f σ) : Ct E n dd rs s r x f σ := by
  cases x with
  | normal => exact runN_le h _ _ _ _ _ _ hc
  | exit id => exact runN_le h _ _ _ _ _ _ hc
  | ret => exact runN_le h _ _ _ _ _ _ hc
  | panic v => exact panF_le (runN_le h) hc
theorem CWof.keep {pl : Program → Nat → Array Oper → Option Plan} {c : C} {Q : AX → Fr → St → Prop} (ts : List Nat) (h : CWof pl P ro Y nt c (kp ts f) σ Q) : CWof pl P ro Y nt c f σ Q := fun code hc lo φ I w a hs hf hy =>
  h code hc lo φ I w a hs ⟨hf.size, fun t ht => by
    have lkm : ∀ (ts : List Nat) (env : Env) (n : Nat), lk ts (ts.map env) n = env n ∨ lk ts (ts.map env) n = .any := fun ts env n => by
      induction ts with
      | nil => exact .inr rfl
      | cons t ts ih =>
        simp only [List.map_cons, lk]
        split
        · rename_i h; rw [h]; exact .inl rfl
        · exact ih
    rcases lkm ts f.env t with h | h
    · show Rel _ _ _ (lk ts (ts.map f.env) t) _; rw [h]; exact hf.env t ht
    · show Rel _ _ _ (lk ts (ts.map f.env) t) _; rw [h]; exact .any _, hf.ds, hf.lo⟩ hy
theorem retV_none (σ : St) : retV [.c 0 none] (fun _ => .any) σ = none := rfl
theorem ct_any (rs : List RC) (r : CO × St) : ct (anyR rs) r = ct rs r := by
  cases rs with
  | nil => rfl
  | cons x l => cases x <;> rfl
theorem rsOf_any (rs : List RC) : rsOf (anyR rs) = [.c 0 none] := by unfold anyR; split <;> rfl
theorem finF_any {rn : Rn} {rs : List RC} {env : Env} : ∀ {ds : List AD} {m : Md} {σ : St}, finF E rn (anyR rs) (fun _ => .any) ds m σ = some r → finF E rn rs env ds m σ = some r
  | [], .ret, σ, e => by simp [finF, rsOf_any, retV_none] at e
  | [], .pan v, σ, e => by simpa [finF, ct_any] using e
  | [], .rcv _, σ, e => e
  | .coll :: ds, m, σ, e => finF_any (ds := ds) e
  | .call (.func k) cap args :: ds, m, σ, e => by
    unfold finF at e ⊢
    split at e
    · exact finF_any e
    · exact finF_any e
    · simp at e
  | .call (.yield _) _ _ :: _, _, _, e => by simp [finF] at e
  | .call (.method ..) _ _ :: _, _, _, e => by simp [finF] at e
  | .call (.methodOf ..) _ _ :: _, _, _, e => by simp [finF] at e
  | .call (.via ..) _ _ :: _, _, _, e => by simp [finF] at e
theorem panF_any {rn : Rn} {v : V} {env : Env} (e : panF E rn dd true rs f v s σ = some r) : panF E rn dd false rs ⟨env, f.ds⟩ v s σ = some r := by
  unfold panF at e ⊢
  split at e
  · rename_i h1
    rw [if_pos h1, if_neg (by simp)]
    rw [if_pos rfl] at e
    unfold finD at e ⊢
    split at e
    · rename_i h2; rw [h2]; exact finF_any e
    · simp at e
    · exact finF_any e
  · simp at e
def DOk (E : En P) (rn : Rn) : Prop := ∀ k vs m σ x, dF E rn k vs m σ = some x → hasBody P k = true ∧ DCalls P k vs m σ fun o m' σ' => (o, m', σ') = x
theorem DCalls.mono {k : FuncId} {vs : List V} {m : Md} {R R' : CO → Md → St → Prop} (h : DCalls P k vs m σ R) (hr : ∀ o m σ, R o m σ → R' o m σ) : DCalls P k vs m σ R' := fun φ I w cs u hs ha hm =>
  (h φ I w cs u hs ha hm).mono fun e u' w' ⟨o, m', σ', φ', I', h1, h2⟩ => ⟨o, m', σ', φ', I', hr _ _ _ h1, h2⟩
theorem finF_ok {rn : Rn} (hd : DOk E rn) {env : Env} : ∀ {ds : List AD} {m : Md} {σ : St}, finF E rn rs env ds m σ = some r → DLv P (rsOf rs) env (fun o σ' => ct rs (o, σ') = r) ds m σ
  | [], .ret, σ, e => by
    obtain ⟨v, hv, rfl⟩ := Option.map_eq_some_iff.1 e
    exact ⟨v, hv, rfl⟩
  | [], .pan v, σ, e => Option.some.inj e
  | [], .rcv _, σ, e => by simp [finF] at e
  | .coll :: ds, m, σ, e => finF_ok (ds := ds) hd e
  | .call (.func k) cap args :: ds, m, σ, e => by
    unfold finF at e
    split at e
    · rename_i h1
      obtain ⟨hb, hc⟩ := hd _ _ _ _ _ h1
      refine ⟨k, rfl, hb, hc.mono fun o m' σ' he => ?_⟩
      simp only [Prod.mk.injEq] at he
      obtain ⟨rfl, rfl, rfl⟩ := he
      exact finF_ok hd e
    · rename_i h1
      obtain ⟨hb, hc⟩ := hd _ _ _ _ _ h1
      refine ⟨k, rfl, hb, hc.mono fun o m' σ' he => ?_⟩
      simp only [Prod.mk.injEq] at he
      obtain ⟨rfl, rfl, rfl⟩ := he
      exact ⟨rfl, finF_ok hd e⟩
    · simp at e
  | .call (.yield _) _ _ :: _, _, _, e => by simp [finF] at e
  | .call (.method ..) _ _ :: _, _, _, e => by simp [finF] at e
  | .call (.methodOf ..) _ _ :: _, _, _, e => by simp [finF] at e
  | .call (.via ..) _ _ :: _, _, _, e => by simp [finF] at e
def BOk (E : En P) (rn : Rn) : Prop := ∀ k vs σ x, evF E rn k vs σ = some x → CCalls P k vs σ fun o σ' => (o, σ') = x
theorem stRI_ok (hE : E.Ok) {rn : Rn} (hB : BOk E rn) (hro : noRnd s = true → ro = none) {ri : RI} {Q : AX → Fr → St → Prop} (hQ : ∀ v f σ, panF E rn dd dr rs f v s σ = some r → Q (.panic v) f σ) (h : nxF E rn dd rs (stRI E dr ri s f σ) = some r) :
    rwp1 P ro Y Q (fun f σ => rn dd rs s f σ = some r) ri f σ := by
  have callK : ∀ k vs d, nxF E rn dd rs (.call dr k vs σ d s f) = some r → CCalls P k vs σ fun o σ' => match o with
      | .ret v => rn dd rs s (f.put d v) σ' = some r
      | .panic v => Q (.panic v) f σ' := fun k vs d h => by
    simp only [nxF] at h
    split at h
    · rename_i v σ' h1
      refine (hB _ _ _ _ h1).mono fun o σ'' he => ?_
      simp only [Prod.mk.injEq] at he
      obtain ⟨rfl, rfl⟩ := he
      exact h
    · rename_i v σ' h1
      refine (hB _ _ _ _ h1).mono fun o σ'' he => ?_
      simp only [Prod.mk.injEq] at he
      obtain ⟨rfl, rfl⟩ := he
      exact hQ _ _ _ h
    · simp at h
  obtain ⟨d, g, ins⟩ := ri
  unfold stRI at h
  unfold rwp1
  split
  · rename_i hw; rw [hw] at h; simp [nxF] at h
  · rename_i hw; rw [hw] at h; exact h
  · rename_i hw
    rw [hw] at h
    cases ins
    case call k as => exact callK _ _ _ h
    case callv g as =>
      simp only at h ⊢
      split at h
      · rename_i k first cap hg
        rw [hg]
        split at h
        · rename_i hT
          obtain ⟨fd, hfd⟩ := Option.isSome_iff_exists.1 hT
          exact ⟨(hE.hT _ _ hfd).2, callK _ _ _ h⟩
        · simp [nxF] at h
      · simp [nxF] at h
    case defer g as =>
      simp only at h ⊢
      split at h
      · rename_i hn
        refine ⟨hro hn, ?_⟩
        split at h
        · rename_i hg; rw [hg]; exact h
        · simp [nxF] at h
      · simp [nxF] at h
    case panic x =>
      simp only at h ⊢
      split at h
      · rename_i hg; rw [hg]; exact hQ _ _ _ h
      · simp [nxF] at h
    case recover => simp [nxF] at h
    all_goals
      simp only [stG] at h ⊢
      split at h
      · rename_i he; rw [he]; exact h
      · simp [nxF] at h
theorem stQ_ok {rn : Rn} {ri : RI} {Q : AX → Fr → St → Prop} (h : nxF E rn dd rs (stQ ri s f σ) = some r) : rwp1 P ro Y Q (fun f σ => rn dd rs s f σ = some r) ri f σ := by
  obtain ⟨d, g, ins⟩ := ri
  unfold stQ at h
  unfold rwp1
  split
  · rename_i hw; rw [hw] at h; simp [nxF] at h
  · rename_i hw; rw [hw] at h; exact h
  · rename_i hw
    rw [hw] at h
    simp only [stG] at h ⊢
    split at h
    · rename_i v σ' he
      cases ins <;> first | (simp [evI] at he; done) | (simp only; rw [he]; exact h)
    · simp [nxF] at h
theorem rwp1_mono' {Q Q' : AX → Fr → St → Prop} {K K' : Fr → St → Prop} {ri : RI} (h : rwp1 P ro Y Q K ri f σ) (hq : ∀ v f σ, Q (.panic v) f σ → Q' (.panic v) f σ) (hk : ∀ f σ, K f σ → K' f σ) : rwp1 P ro Y Q' K' ri f σ := by
  obtain ⟨d, g, ins⟩ := ri
  unfold rwp1 at h ⊢
  split
  · rename_i hw; rw [hw] at h; exact h
  · rename_i hw; rw [hw] at h; exact hk _ _ h
  · rename_i hw
    rw [hw] at h
    cases ins
    case call k as =>
      refine CCalls.mono h fun o σ' ho => ?_
      cases o with
      | ret v => exact hk _ _ ho
      | panic v => exact hq _ _ _ ho
    case callv g as =>
      simp only at h ⊢
      split
      · rename_i hg
        rw [hg] at h
        refine ⟨h.1, CCalls.mono h.2 fun o σ' ho => ?_⟩
        cases o with
        | ret v => exact hk _ _ ho
        | panic v => exact hq _ _ _ ho
      · rename_i hg
        rw [hg] at h
        refine Y.mono _ _ _ _ _ (fun o σ' ho => ?_) h
        cases o with
        | ret v => exact hk _ _ ho
        | panic v => exact hq _ _ _ ho
      · rename_i hg hg'
        split at h
        · rename_i hg2; exact absurd hg2 (hg _ _ _)
        · rename_i hg2; exact absurd hg2 (hg' _)
        · exact h
    case defer g as =>
      simp only at h ⊢
      refine ⟨h.1, ?_⟩
      have h := h.2
      split
      · rename_i hg; rw [hg] at h; exact hk _ _ h
      · rename_i hg
        split at h
        · rename_i hg2; exact absurd hg2 (hg _ _ _)
        · exact h
    case panic x =>
      simp only at h ⊢
      split
      · rename_i hg; rw [hg] at h; exact hq _ _ _ h
      · rename_i hg
        split at h
        · rename_i hg2; exact absurd hg2 (hg _ _)
        · exact h
    case recover => exact h
    all_goals
      simp only at h ⊢
      split
      · rename_i he; rw [he] at h; exact hk _ _ h
      · rename_i he; rw [he] at h; exact h
theorem reg_ok (hE : E.Ok) {n : Nat} (hB : BOk E (runN E n)) (hro : noRnd s = true → ro = none) : ∀ (l : List RI) (m : Nat) (f : Fr) (σ : St), m ≤ n → runN E m dd rs (.r l :: s) f σ = some r → rwp P ro Y (Ct E n dd rs s r) l f σ
  | _, 0, f, σ, _, h => by simp [runN] at h
  | [], m + 1, f, σ, hm, h => runN_le (by omega) _ _ _ _ _ _ (show runN E m dd rs s f σ = some r from h)
  | x :: l, m + 1, f, σ, hm, h => by
    have h' : nxF E (runN E m) dd rs (stRI E false x (.r l :: s) f σ) = some r := h
    have hB' : BOk E (runN E m) := fun k vs σ x hx => hB k vs σ x (evF_le (runN_le (by omega)) hx)
    exact rwp1_mono' (stRI_ok (s := .r l :: s) (Q := Ct E n dd rs s r) hE hB' hro (fun v f σ hp => panF_le (runN_le (by omega)) (show panF E (runN E m) dd false rs f v s σ = some r from hp)) h') (fun v f σ h => h) (fun f σ hk => reg_ok hE hB hro l m f σ (by omega) hk)
theorem reg_ok1 (hE : E.Ok) {n : Nat} (hB : BOk E (runN E n)) (hro : noRnd s = true → ro = none) : ∀ (l : List RI) (f : Fr) (σ : St), runN E (n + 1) dd rs (.r l :: s) f σ = some r → rwp P ro Y (Ct E n dd rs s r) l f σ
  | [], f, σ, h => (show runN E n dd rs s f σ = some r from h)
  | x :: l, f, σ, h => by
    have h' : nxF E (runN E n) dd rs (stRI E false x (.r l :: s) f σ) = some r := h
    exact rwp1_mono' (stRI_ok (s := .r l :: s) (Q := Ct E n dd rs s r) hE hB hro (fun v f σ hp => (show panF E (runN E n) dd false rs f v s σ = some r from hp)) h') (fun v f σ h => h) (fun f σ hk => reg_ok hE hB hro l n f σ (Nat.le_refl _) hk)
theorem ck_ok {p : Plan} : ∀ (ag : List RI) (m : Nat) (f : Fr) (σ : St), runN E m dd rs (.ck ag :: .p p :: s) f σ = some r → (∀ q ∈ ag, chk q f σ) ∧ runN E m dd rs (.p p :: s) f σ = some r
  | _, 0, f, σ, h => by simp [runN] at h
  | [], m + 1, f, σ, h => ⟨fun q hq => by simp at hq, runN_succ _ _ _ _ _ _ _ (show runN E m dd rs (.p p :: s) f σ = some r from h)⟩
  | q :: qs, m + 1, f, σ, h => by
    have h' : nxF E (runN E m) dd rs (stCk q qs (.p p :: s) f σ) = some r := h
    unfold stCk at h'
    split at h'
    · rename_i hq
      obtain ⟨h1, h2⟩ := ck_ok qs m f σ h'
      exact ⟨fun q' hq' => by
        rcases List.mem_cons.1 hq' with rfl | hq'
        · exact hq
        · exact h1 q' hq', runN_succ _ _ _ _ _ _ _ h2⟩
    · simp [nxF] at h'
theorem drw_ok (hE : E.Ok) {n : Nat} (hB : BOk E (runN E n)) (hro : noRnd s = true → ro = none) : ∀ (p : Plan) (m : Nat) (f : Fr) (σ : St), m ≤ n → runN E m dd rs (.p p :: s) f σ = some r → pwp P ro Y (Ct E n dd rs s r) p f σ
  | _, 0, f, σ, _, h => by simp [runN] at h
  | .done, m + 1, f, σ, hm, h => runN_le (by omega) _ _ _ _ _ _ (show runN E m dd rs s f σ = some r from h)
  | .q x p, m + 1, f, σ, hm, h => by
    have h' : nxF E (runN E m) dd rs (stQ x (.p p :: s) f σ) = some r := h
    exact rwp1_mono' (stQ_ok (Q := fun _ _ _ => False) h') (fun v f σ h => h) (fun f σ hk => drw_ok hE hB hro p m f σ (by omega) hk)
  | .alt x ag p more, m + 1, f, σ, hm, h => by
    have arm : ∀ m', m' ≤ n → runN E m' dd rs (.ar x ag p :: s) f σ = some r → rwp1 P ro Y (fun x f σ => match x with | .panic v => ∀ env, Ct E n dd rs s r (.panic v) ⟨env, f.ds⟩ σ | _ => False) (fun f σ => (∀ q ∈ ag, chk q f σ) ∧ pwp P ro Y (Ct E n dd rs s r) p f σ) x f σ := fun m' hm' h => by
      cases m' with
      | zero => simp [runN] at h
      | succ m' =>
        have h' : nxF E (runN E m') dd rs (stRI E true x (.ck ag :: .p p :: s) f σ) = some r := h
        have hB' : BOk E (runN E m') := fun k vs σ x hx => hB k vs σ x (evF_le (runN_le (by omega)) hx)
        refine rwp1_mono' (stRI_ok (s := .ck ag :: .p p :: s) (Q := fun x f σ => match x with | .panic v => ∀ env, Ct E n dd rs s r (.panic v) ⟨env, f.ds⟩ σ | _ => False) hE hB' hro (fun v f σ hp env => ?_) h') (fun v f σ h => h) (fun f σ hk => ?_)
        · exact panF_any (panF_le (runN_le (by omega)) (show panF E (runN E m') dd true rs f v s σ = some r from hp))
        · obtain ⟨h1, h2⟩ := ck_ok ag m' f σ hk
          exact ⟨h1, drw_ok hE hB hro p m' f σ (by omega) h2⟩
    by_cases hmore : more = .stop
    · subst hmore
      exact ⟨arm m (by omega) (show runN E m dd rs (.ar x ag p :: s) f σ = some r from h), trivial⟩
    · have h' : nxF E (runN E m) dd rs (.both (.ar x ag p :: s) (.p more :: s) f σ) = some r := by
        cases more <;> first | exact absurd rfl hmore | exact h
      obtain ⟨h1, h2⟩ := both_some (show both (runN E m dd rs (.ar x ag p :: s) f σ) (runN E m dd rs (.p more :: s) f σ) = some r from h')
      exact ⟨arm m (by omega) h1, drw_ok hE hB hro more m f σ (by omega) h2⟩
  | .stop, m + 1, f, σ, hm, h => trivial
theorem asgR_ok : ∀ (l : List RI) (e : Env) (σ : St) (e' : Env) (σ1 : St), asgR l e σ = some (e', σ1) → rwp P ro Y (fun x f' σ' => x = .normal ∧ f' = ⟨e', []⟩ ∧ σ' = σ1) l ⟨e, []⟩ σ
  | [], e, σ, e', σ1, h => by
    simp only [asgR, Option.some.injEq, Prod.mk.injEq] at h
    obtain ⟨rfl, rfl⟩ := h
    exact ⟨rfl, rfl, rfl⟩
  | ⟨d, some _, i⟩ :: _, _, _, _, _, h => by simp [asgR] at h
  | ⟨d, none, i⟩ :: l, e, σ, e', σ1, h => by
    simp only [asgR] at h
    split at h
    · rename_i v σ' hv
      have ih := asgR_ok l _ σ' e' σ1 h
      cases i <;> first | (simp [evI] at hv; done) | (simp only [rwp, rwp1, wantG]; rw [hv]; exact ih)
    · simp at h
theorem asgE_ok : ∀ (d : D) (e : Env) (σ : St) (e' : Env) (σ1 : St), asgE d e σ = some (e', σ1) → Asg planOf P nt d.er e σ e' σ1
  | .skip, e, σ, e', σ1, h, ro, Y => by
    simp only [asgE, Option.some.injEq, Prod.mk.injEq] at h
    obtain ⟨rfl, rfl⟩ := h
    exact cw_skip ⟨rfl, rfl, rfl⟩
  | .reg l, e, σ, e', σ1, h, ro, Y => cw_reg (asgR_ok l e σ e' σ1 h)
  | .seq a b, e, σ, e', σ1, h, ro, Y => by
    obtain ⟨⟨e1, σ2⟩, h1, h2⟩ := Option.bind_eq_some_iff.1 h
    refine cw_seq ((asgE_ok a e σ e1 σ2 h1 ro Y).mono ?_)
    rintro x f' σ' ⟨rfl, rfl, rfl⟩
    exact asgE_ok b e1 _ e' σ1 h2 ro Y
  | .drw _, e, _, e', _, h, _, _ => by simp [asgE] at h
  | .kb _ b, e, σ, e', σ1, h, ro, Y => asgE_ok b e σ e' σ1 h ro Y
  | .cond _ _ _, e, _, e', _, h, _, _ => by simp [asgE] at h
  | .block _ _, e, _, e', _, h, _, _ => by simp [asgE] at h
  | .loop _ _, e, _, e', _, h, _, _ => by simp [asgE] at h
  | .rng _ _ _ _, e, _, e', _, h, _, _ => by simp [asgE] at h
  | .exit _, e, _, e', _, h, _, _ => by simp [asgE] at h
  | .ret, e, _, e', _, h, _, _ => by simp [asgE] at h
end
end Go.Proofs.YtmkgmjdbgjiehaaDoor.Ab
namespace Go.Proofs.YtmkgmjdbgjiehaaDoor.Ab
open Go.RowKit
set_option linter.unusedVariables false
set_option linter.unusedSimpArgs false
section
variable {P : Program} {E : En P}
structure POk (E : En P) (n : Nat) : Prop where
  run : ∀ (d : D) (nt : Nat) (ro : Option Nat) (Y : YS P) dd rs s f σ r, (noRnd s = true → ro = none) → runN E n dd rs (.d d :: s) f σ = some r → CWof planOf P ro Y nt d.er f σ (Ct E n dd rs s r)
  call : BOk E (runN E n)
  dfr : DOk E (runN E n)
theorem loopN_up {pl : Program → Nat → Array Oper → Option Plan} {ro : Option Nat} {Y : YS P} {nt : Nat} {b : C} {Q : AX → Fr → St → Prop} : ∀ (n : Nat) (f : Fr) (σ : St), LoopN pl P ro Y nt b Q n f σ → LoopN pl P ro Y nt b Q (n + 1) f σ
  | 0, _, _, h => h.elim
  | n + 1, f, σ, h => CWof.mono h fun x f' σ' hq => by
    cases x with
    | normal => exact loopN_up n f' σ' hq
    | exit id => exact hq
    | ret => exact hq
    | panic v => exact hq
theorem loop_ok {n : Nat} (ih : ∀ m, m ≤ n → POk E m) {nt : Nat} {ro : Option Nat} {Y : YS P} {dd : Bool} {rs : List RC} {s : List SE} {r : CO × St} {ts : List Nat} {b : D} (hro : noRnd s = true → ro = none) :
    ∀ (m : Nat) (f : Fr) (σ : St), m ≤ n + 1 → runN E m dd rs (.d (.loop ts b) :: s) f σ = some r → LoopN planOf P ro Y nt b.er (Ct E (n + 1) dd rs s r) m f σ
  | 0, f, σ, _, h => by simp [runN] at h
  | m + 1, f, σ, hm, h => by
    refine CWof.keep ts (CWof.mono ((ih m (by omega)).run b nt ro Y dd rs (.lp ts b :: s) (kp ts f) σ r hro (show runN E m dd rs (.d b :: .lp ts b :: s) (kp ts f) σ = some r from h)) fun x f' σ' hq => ?_)
    cases x with
    | normal =>
      cases m with
      | zero => simp [Ct, runN] at hq
      | succ m => exact loopN_up m f' σ' (loop_ok ih hro m f' σ' (by omega) (show runN E m dd rs (.d (.loop ts b) :: s) f' σ' = some r from hq))
    | exit id =>
      cases m with
      | zero => simp [Ct, runN] at hq
      | succ m => exact runN_le (by omega) _ _ _ _ _ _ (show runN E m dd rs (.d (.exit id) :: s) f' σ' = some r from hq)
    | ret =>
      cases m with
      | zero => simp [Ct, runN] at hq
      | succ m => exact runN_le (by omega) _ _ _ _ _ _ (show runN E m dd rs (.d .ret :: s) f' σ' = some r from hq)
    | panic v => exact panF_le (runN_le (by omega)) (show panF E (runN E m) dd false rs f' v s σ' = some r from hq)
theorem finD_false {rn : Rn} {rs : List RC} {env : Env} {ds : List AD} {m : Md} {σ : St} : finD E rn false rs env ds m σ = finF E rn rs env ds m σ := by
  cases ds <;> rfl
theorem max_foldl : ∀ (l : List Nat) (a : Nat), a ≤ l.foldl (fun a b => max a (b + 1)) a ∧ ∀ x ∈ l, x < l.foldl (fun a b => max a (b + 1)) a
  | [], a => ⟨Nat.le_refl _, fun x h => by simp at h⟩
  | y :: l, a => by
    obtain ⟨h1, h2⟩ := max_foldl l (max a (y + 1))
    refine ⟨by simp only [List.foldl_cons]; omega, fun x h => ?_⟩
    rcases List.mem_cons.1 h with rfl | h
    · simp only [List.foldl_cons]; omega
    · exact h2 x h
theorem rwp_np {ro : Option Nat} {Y : YS P} {Q Q' : AX → Fr → St → Prop} : ∀ (l : List RI) {f : Fr} {σ : St}, rwp P ro Y Q l f σ → (∀ f σ, Q .normal f σ → Q' .normal f σ) → (∀ v f σ, Q (.panic v) f σ → Q' (.panic v) f σ) → rwp P ro Y Q' l f σ
  | [], f, σ, h, hn, _ => hn f σ h
  | x :: l, f, σ, h, hn, hp => rwp1_mono' h hp fun f σ hk => rwp_np l hk hn hp
theorem rec_er {d : D} {x : Nat} {l : List RI} {c : D} (h : recHead d = some (x, l, c)) : d.er = .seq (.reg (⟨some x, none, .recover⟩ :: l)) c.er := by
  unfold recHead at h
  split at h
  · simp only [Option.some.injEq, Prod.mk.injEq] at h
    obtain ⟨rfl, rfl, rfl⟩ := h
    rfl
  · simp at h
theorem res_plain {P : Program} {pl : Program → Nat → Array Oper → Option Plan} {k : FuncId} {cf : CF} (h : compF pl P k = some cf) : ∀ σ l, cf.res ≠ .cut σ :: l := by
  intro σ l e
  simp only [compF, Option.bind_eq_some_iff, Option.map_eq_some_iff] at h
  obtain ⟨fn, _, b, _, c, _, rs, hrs, rfl⟩ := h
  simp only at e
  subst e
  obtain ⟨_, h2⟩ := mapM_some hrs
  obtain ⟨x, _, hx⟩ := h2 0 _ rfl
  cases x with
  | tmp t => simp only [cRes] at hx; split at hx <;> simp at hx
  | cell a t =>
    simp only [cRes] at hx
    split at hx
    · obtain ⟨d, _, hx⟩ := Option.bind_eq_some_iff.1 hx
      split at hx
      · obtain ⟨_, _, hx⟩ := Option.map_eq_some_iff.1 hx; cases hx
      · cases hx
    · cases hx
theorem ct_plain {rs : List RC} (h : ∀ σ l, rs ≠ .cut σ :: l) (r : CO × St) : ct rs r = r := by
  cases rs with
  | nil => rfl
  | cons x l => cases x <;> first | rfl | (exact absurd rfl (h _ _))
theorem rsOf_plain {rs : List RC} (h : ∀ σ l, rs ≠ .cut σ :: l) : rsOf rs = rs := by
  cases rs with
  | nil => rfl
  | cons x l => cases x <;> first | rfl | (exact absurd rfl (h _ _))
theorem call_of (hE : E.Ok) {n : Nat} (hlow : ∀ m, m < n → BOk E (runN E m)) (hrun' : ∀ m, m ≤ n → ∀ (d : D) (nt : Nat) (ro : Option Nat) (Y : YS P) dd rs s f σ r, (noRnd s = true → ro = none) → runN E m dd rs (.d d :: s) f σ = some r → CWof planOf P ro Y nt d.er f σ (Ct E m dd rs s r)) : BOk E (runN E n) ∧ DOk E (runN E n) := by
  have hrun := hrun' n (Nat.le_refl n)
  have dfr : DOk E (runN E n) := fun k vs m σ x h => by
    unfold dF at h
    split at h
    · rename_i fd hfd
      obtain ⟨hc, hb⟩ := hE.hT _ _ hfd
      split at h
      · rename_i hl
        have fin : ∀ {o σ'} {f : Fr} {σ1 : St}, nxF E (runN E n) true fd.res (.fin f σ1) = some (o, σ') → f.ds = [] ∧ ∃ v, retV fd.res f.env σ1 = some v ∧ ((CO.ret v, σ1) = (o, σ')) := fun {o σ' f σ1} h => by
          simp only [nxF] at h
          unfold finD at h
          split at h
          · rename_i hds
            obtain ⟨v, hv, he⟩ := Option.map_eq_some_iff.1 h
            rw [rsOf_plain (res_plain hc)] at hv
            rw [ct_plain (res_plain hc)] at he
            exact ⟨hds, v, hv, he⟩
          · simp at h
          · simp_all
        have ends : ∀ {o σ'} {x : AX} {f : Fr} {σ1 : St}, Ct E n true fd.res [] (o, σ') x f σ1 → (match x with
            | .normal | .ret => f.ds = [] ∧ ∃ v, retV fd.res f.env σ1 = some v ∧ ((CO.ret v, σ1) = (o, σ'))
            | .panic v => f.ds = [] ∧ ((CO.panic v, σ1) = (o, σ'))
            | .exit _ => False) := fun {o σ' x f σ1} hq => by
          cases x with
          | normal =>
            cases n with
            | zero => simp [Ct, runN] at hq
            | succ n => exact fin (nxF_le (runN_succ n) (show nxF E (runN E n) true fd.res (.fin f σ1) = some (o, σ') from hq))
          | exit id =>
            cases n with
            | zero => simp [Ct, runN] at hq
            | succ n => exact absurd (show (none : Option (CO × St)) = some (o, σ') from hq) (by simp)
          | ret =>
            cases n with
            | zero => simp [Ct, runN] at hq
            | succ n => exact fin (nxF_le (runN_succ n) (show nxF E (runN E n) true fd.res (.fin f σ1) = some (o, σ') from hq))
          | panic v =>
            simp only [Ct, panF, noRnd, if_true] at hq
            rw [if_neg (by simp)] at hq
            unfold finD at hq
            split at hq
            · rename_i hds
              have hq' := Option.some.inj hq
              rw [ct_plain (res_plain hc)] at hq'
              exact ⟨hds, hq'⟩
            · simp at hq
            · simp_all
        split at h
        · rename_i d l c hrec
          obtain ⟨⟨o, σ'⟩, hr, rfl⟩ := Option.map_eq_some_iff.1 h
          refine ⟨hb, (dcalls_rec (R := fun o' σ'' => (o', σ'') = (o, σ')) hc hl (rec_er hrec) rfl ?_).mono fun o' m' σ'' ⟨h1, h2⟩ => ?_⟩
          · cases n with
            | zero => simp [runN] at hr
            | succ n =>
              refine rwp_np l (reg_ok1 hE (hlow n (by omega)) (fun _ => rfl) l _ σ hr) (fun f σ1 hq => ?_) (fun v f σ1 hq => ?_)
              · exact (hrun' n (by omega) c fd.nt none (noY P) true fd.res [] f σ1 _ (fun _ => rfl) hq).mono fun x f σ2 hq => ends (hq.le (Nat.le_succ n))
              · exact ends (x := .panic v) (panF_le (runN_succ n) (show panF E (runN E n) true false fd.res f v [] σ1 = some (o, σ') from hq))
          · subst h1
            simp only [Prod.mk.injEq] at h2
            rw [h2.1, h2.2]
        · obtain ⟨⟨o, σ'⟩, hr, rfl⟩ := Option.map_eq_some_iff.1 h
          refine ⟨hb, (dcalls_of (R := fun o' σ'' => (o', σ'') = (o, σ')) hc hl ((hrun fd.body fd.nt none (noY P) true fd.res [] ⟨envOf vs, []⟩ σ _ (fun _ => rfl) hr).mono fun x f σ1 hq => ends hq)).mono fun o' m' σ'' ⟨h1, h2⟩ => ?_⟩
          subst h1
          simp only [Prod.mk.injEq] at h2
          rw [h2.1, h2.2]
      · simp at h
    · exact hE.hD _ _ _ _ _ h
  refine ⟨fun k vs σ x h => ?_, dfr⟩
  unfold evF at h
  split at h
  · rename_i fd hfd
    obtain ⟨hc, hb⟩ := hE.hT _ _ hfd
    split at h
    · rename_i hl
      obtain ⟨x0, hr, rfl⟩ := Option.map_eq_some_iff.1 h
      have hrs : rsOf (headR fd σ) = fd.res := by
        unfold headR
        split
        · rfl
        · exact rsOf_plain (res_plain hc)
      have raw : CCalls P k vs σ fun o σ' => ct (headR fd σ) (o, σ') = x0 := by
        refine ccalls_of hc hl ((hrun fd.body fd.nt none (noY P) false (headR fd σ) [] ⟨envOf vs, []⟩ σ _ (fun _ => rfl) hr).mono fun x f σ1 hq => ?_)
        have fin : nxF E (runN E n) false (headR fd σ) (.fin f σ1) = some x0 → DLv P fd.res f.env (fun o σ' => ct (headR fd σ) (o, σ') = x0) f.ds .ret σ1 := fun h => by
          simp only [nxF, finD_false] at h
          have := finF_ok dfr h
          rwa [hrs] at this
        cases x with
        | normal =>
          cases n with
          | zero => simp [Ct, runN] at hq
          | succ n => exact fin (nxF_le (runN_succ n) (show nxF E (runN E n) false (headR fd σ) (.fin f σ1) = some x0 from hq))
        | exit id =>
          cases n with
          | zero => simp [Ct, runN] at hq
          | succ n => exact absurd (show (none : Option (CO × St)) = some x0 from hq) (by simp)
        | ret =>
          cases n with
          | zero => simp [Ct, runN] at hq
          | succ n => exact fin (nxF_le (runN_succ n) (show nxF E (runN E n) false (headR fd σ) (.fin f σ1) = some x0 from hq))
        | panic v =>
          simp only [Ct, panF, noRnd, if_true] at hq
          rw [if_neg (by simp), finD_false] at hq
          have := finF_ok dfr hq
          rwa [hrs] at this
      have plain : fd.fz ≠ .cut → ∀ r, ct (headR fd σ) r = r := fun hz r => by
        unfold headR
        split
        · rename_i hz'; exact absurd hz' hz
        · exact ct_plain (res_plain hc) r
      unfold cutR
      split
      · rename_i hz; simpa only [plain (by rw [hz]; simp)] using raw
      · rename_i hz
        refine ccalls_frz (raw.mono fun o σ' e => ⟨fun l => decide (l < σ.n), σ.n, fun l h => ?_, fun l h => ?_, ?_⟩)
        · simpa using h
        · simpa using h
        · have : headR fd σ = .cut σ :: fd.res := by unfold headR; rw [hz]
          rw [this] at e
          exact e
      · rename_i hz
        simp only [plain (by rw [hz]; simp)] at raw
        refine ccalls_frz (raw.mono fun o σ' e => ⟨_, _, fun l h => ?_, fun l h => ?_, by subst e; rfl⟩)
        · simpa using h
        · simpa using h
      · rename_i hz
        simp only [plain (by rw [hz]; simp)] at raw
        refine ccalls_frz (raw.mono fun o σ' e => ⟨fun l => decide (l < σ.n) || (ptrs x0.1).contains l, (ptrs x0.1).foldl (fun a b => max a (b + 1)) σ.n, fun l h => ?_, fun l h => ?_, by subst e; rfl⟩)
        · simp [h]
        · obtain ⟨m1, m2⟩ := max_foldl (ptrs x0.1) σ.n
          simp only [Bool.or_eq_true, decide_eq_true_eq, List.contains_iff_mem] at h
          rcases h with h | h
          · omega
          · exact m2 l h
    · simp at h
  · obtain ⟨v, hv, rfl⟩ := Option.map_eq_some_iff.1 h
    exact (hE.hB _ _ _ _ hv).mono fun o σ' ⟨h1, h2⟩ => by rw [h1, h2]
theorem run_ok (hE : E.Ok) {n : Nat} (ih : ∀ m, m ≤ n → POk E m) (d : D) (nt : Nat) (ro : Option Nat) (Y : YS P) (dd : Bool) (rs : List RC) (s : List SE) (f : Fr) (σ : St) (r : CO × St) (hro : noRnd s = true → ro = none) (h : runN E (n + 1) dd rs (.d d :: s) f σ = some r) :
    CWof planOf P ro Y nt d.er f σ (Ct E (n + 1) dd rs s r) := by
  have ihn := ih n (Nat.le_refl _)
  have up : ∀ {x f σ}, Ct E n dd rs s r x f σ → Ct E (n + 1) dd rs s r x f σ := fun h => h.le (Nat.le_succ n)
  cases d with
  | skip => exact cw_skip (up (x := .normal) (show runN E n dd rs s f σ = some r from h))
  | reg l => exact CWof.mono (cw_reg (reg_ok hE ihn.call hro l n f σ (Nat.le_refl _) (show runN E n dd rs (.r l :: s) f σ = some r from h))) fun x f σ => up
  | drw p => exact CWof.mono (cw_drw (drw_ok hE ihn.call hro p n f σ (Nat.le_refl _) (show runN E n dd rs (.p p :: s) f σ = some r from h))) fun x f σ => up
  | seq a b =>
    refine cw_seq (CWof.mono (ihn.run a nt ro Y dd rs (.d b :: s) f σ r hro (show runN E n dd rs (.d a :: .d b :: s) f σ = some r from h)) fun x f' σ' hq => ?_)
    cases x with
    | normal => exact CWof.mono (ihn.run b nt ro Y dd rs s f' σ' r hro hq) fun x f σ => up
    | exit id =>
      cases n with
      | zero => simp [Ct, runN] at hq
      | succ n => exact runN_le (by omega) _ _ _ _ _ _ (show runN E n dd rs (.d (.exit id) :: s) f' σ' = some r from hq)
    | ret =>
      cases n with
      | zero => simp [Ct, runN] at hq
      | succ n => exact runN_le (by omega) _ _ _ _ _ _ (show runN E n dd rs (.d .ret :: s) f' σ' = some r from hq)
    | panic v => exact panF_le (runN_le (by omega)) (show panF E (runN E n) dd false rs f' v s σ' = some r from hq)
  | kb ts b => exact CWof.keep ts (CWof.mono (ihn.run b nt ro Y dd rs s (kp ts f) σ r hro (show runN E n dd rs (.d b :: s) (kp ts f) σ = some r from h)) fun x f σ => up)
  | cond c a b =>
    have h' : nxF E (runN E n) dd rs (step E (.d (.cond c a b) :: s) f σ) = some r := h
    simp only [step] at h'
    split at h'
    · rename_i hc; exact cw_cond hc (CWof.mono (ihn.run a nt ro Y dd rs s f σ r hro h') fun x f σ => up)
    · rename_i hc; exact cw_cond hc (CWof.mono (ihn.run b nt ro Y dd rs s f σ r hro h') fun x f σ => up)
    · simp [nxF] at h'
  | block id b =>
    refine cw_block (CWof.mono (ihn.run b nt ro Y dd rs (.blk id :: s) f σ r hro (show runN E n dd rs (.d b :: .blk id :: s) f σ = some r from h)) fun x f' σ' hq => ?_)
    cases x with
    | normal =>
      cases n with
      | zero => simp [Ct, runN] at hq
      | succ n => exact runN_le (by omega) _ _ _ _ _ _ (show runN E n dd rs s f' σ' = some r from hq)
    | exit id' =>
      cases n with
      | zero => simp [Ct, runN] at hq
      | succ n =>
        have h' : nxF E (runN E n) dd rs (step E (.d (.exit id') :: .blk id :: s) f' σ') = some r := hq
        simp only [step] at h'
        simp only
        by_cases e : id = id'
        · rw [if_pos e] at h'; rw [if_pos e.symm]; exact runN_le (by omega) _ _ _ _ _ _ h'
        · rw [if_neg e] at h'; rw [if_neg (Ne.symm e)]; exact runN_le (by omega) _ _ _ _ _ _ h'
    | ret =>
      cases n with
      | zero => simp [Ct, runN] at hq
      | succ n => exact runN_le (by omega) _ _ _ _ _ _ (show runN E n dd rs (.d .ret :: s) f' σ' = some r from hq)
    | panic v => exact panF_le (runN_le (by omega)) (show panF E (runN E n) dd false rs f' v s σ' = some r from hq)
  | loop ts b => exact cw_loopN (n + 1) (loop_ok ih hro (n + 1) f σ (Nat.le_refl _) h)
  | exit id => exact cw_exit h
  | ret => exact cw_ret h
  | rng g ps asg body =>
    have h' : nxF E (runN E n) dd rs (step E (.d (.rng g ps asg body) :: s) f σ) = some r := h
    simp only [step] at h'
    split at h'
    · rename_i hn
      obtain rfl := hro hn
      split at h'
      · rename_i gf cap hg
        split at h'
        · rename_i ky xs hxs
          obtain ⟨hb, hI⟩ := hE.hI _ _ _ _ _ hxs
          have hst : ∀ (m i : Nat) f' σ', runN E m dd rs (.rnd f.env f.ds σ.n ps asg body gf cap ky xs i :: s) f' σ' = some r → σ'.H σ.n = some (.lp .busy) ∧ E.It gf cap (σ'.set σ.n (.lp .ready)) = some (ky, xs) := fun m i f' σ' hm => by
            cases m with
            | zero => simp [runN] at hm
            | succ m =>
              have h2 : nxF E (runN E m) dd rs (step E (.rnd f.env f.ds σ.n ps asg body gf cap ky xs i :: s) f' σ') = some r := hm
              simp only [step] at h2
              split at h2
              · rename_i hb
                split at h2
                · rename_i hi; exact ⟨hb, hi⟩
                · simp [nxF] at h2
              · simp [nxF] at h2
          refine cw_rng hg hb hI
            (fun i σ' => ∃ f', runN E n dd rs (.rnd f.env f.ds σ.n ps asg body gf cap ky xs i :: s) f' σ' = some r)
            (fun j σ' => σ'.H σ.n = some (.lp .busy) ∧ E.It gf cap (σ'.set σ.n (.lp (.done j))) = some (ky, xs) ∧ runN E n dd rs ((match j with | some id => .d (.exit id) | none => .d .ret) :: s) ⟨f.env, .coll :: f.ds⟩ (σ'.kill σ.n) = some r)
            ⟨f, h'⟩ (fun i σ' ⟨f', hm⟩ => (hst n i f' σ' hm).1) (fun j σ' hm => hm.1) (fun i σ' ⟨f', hm⟩ => (hst n i f' σ' hm).2) (fun j σ' hm => hm.2.1) ?_ ?_ ?_
          · rintro i x σ' hx ⟨f', hm⟩
            cases n with
            | zero => simp [runN] at hm
            | succ n =>
              have h2 : nxF E (runN E n) dd rs (step E (.rnd f.env f.ds σ.n ps asg body gf cap ky xs i :: s) f' σ') = some r := hm
              simp only [step, hx] at h2
              split at h2
              · split at h2
                · split at h2
                  · rename_i hxl
                    split at h2
                    · rename_i e' σ1 he'
                      split at h2
                      rotate_left
                      · simp [nxF] at h2
                      rename_i hr1
                      refine ⟨hxl, e', σ1, asgE_ok asg _ _ _ _ he', hr1, fun l => ?_⟩
                      refine CWof.mono ((ih n (by omega)).run body nt (some l) (noY P) dd rs (.rnd f.env f.ds σ.n ps asg body gf cap ky xs (i + 1) :: s) ⟨e', []⟩ (σ1.set σ.n (.lp .busy)) r (fun h => by simp [noRnd] at h) h2) fun x f2 σ2 hq => ?_
                      cases x with
                      | normal => exact ⟨f2, runN_le (by omega) _ _ _ _ _ _ hq⟩
                      | exit id =>
                        cases n with
                        | zero => simp [Ct, runN] at hq
                        | succ n =>
                          have h3 : nxF E (runN E n) dd rs (step E (.d (.exit id) :: .rnd f.env f.ds σ.n ps asg body gf cap ky xs (i + 1) :: s) f2 σ2) = some r := hq
                          simp only [step] at h3
                          split at h3
                          · rename_i hb2
                            split at h3
                            · rename_i hi2; exact ⟨hb2, hi2, runN_le (by omega) _ _ _ _ _ _ h3⟩
                            · simp [nxF] at h3
                          · simp [nxF] at h3
                      | ret =>
                        cases n with
                        | zero => simp [Ct, runN] at hq
                        | succ n =>
                          have h3 : nxF E (runN E n) dd rs (step E (.d .ret :: .rnd f.env f.ds σ.n ps asg body gf cap ky xs (i + 1) :: s) f2 σ2) = some r := hq
                          simp only [step] at h3
                          split at h3
                          · rename_i hb2
                            split at h3
                            · rename_i hi2; exact ⟨hb2, hi2, runN_le (by omega) _ _ _ _ _ _ h3⟩
                            · simp [nxF] at h3
                          · simp [nxF] at h3
                      | panic v => simp [Ct, panF, noRnd] at hq
                    · simp [nxF] at h2
                  · simp [nxF] at h2
                · simp [nxF] at h2
              · simp [nxF] at h2
          · rintro σ' ⟨f', hm⟩
            cases n with
            | zero => simp [runN] at hm
            | succ n =>
              have h2 : nxF E (runN E n) dd rs (step E (.rnd f.env f.ds σ.n ps asg body gf cap ky xs xs.length :: s) f' σ') = some r := hm
              simp only [step, List.getElem?_eq_none (Nat.le_refl _)] at h2
              split at h2
              · split at h2
                · exact runN_le (by omega) _ _ _ _ _ _ h2
                · simp [nxF] at h2
              · simp [nxF] at h2
          · rintro j σ' ⟨_, _, hm⟩
            cases j with
            | none => exact runN_le (by omega) _ _ _ _ _ _ hm
            | some id => exact runN_le (by omega) _ _ _ _ _ _ hm
        · simp [nxF] at h'
      · simp [nxF] at h'
    · simp [nxF] at h'
theorem pok (hE : E.Ok) (n : Nat) : POk E n := by
  induction n using Nat.strongRecOn with
  | ind n ih =>
    have hrun : ∀ (d : D) (nt : Nat) (ro : Option Nat) (Y : YS P) dd rs s f σ r, (noRnd s = true → ro = none) → runN E n dd rs (.d d :: s) f σ = some r → CWof planOf P ro Y nt d.er f σ (Ct E n dd rs s r) := fun d nt ro Y dd rs s f σ r hro h => by
      cases n with
      | zero => simp [runN] at h
      | succ n => exact run_ok hE (fun m hm => ih m (by omega)) d nt ro Y dd rs s f σ r hro h
    obtain ⟨h1, h2⟩ := call_of hE (fun m hm => (ih m hm).call) (fun m hm => by
      rcases Nat.lt_or_eq_of_le hm with h | h
      · exact (ih m h).run
      · subst h; exact hrun)
    exact ⟨hrun, h1, h2⟩
end
end Go.Proofs.YtmkgmjdbgjiehaaDoor.Ab
