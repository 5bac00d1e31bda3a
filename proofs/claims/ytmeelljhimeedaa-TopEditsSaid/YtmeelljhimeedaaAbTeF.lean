/-
The walk over the program's texts, told with what its values say: a part of it. No further condition.
-/
import Derived.Test.YtmeelljhimeedaaAbTeC
namespace Go.Proofs.Ytmeelljhimeedaa.Ab
open Go.RowKit
set_option linter.unusedVariables false
set_option linter.unusedSimpArgs false
/-! Loops: where they land. -/
section
variable {P : Program} {E : En P} {dd : Bool} {rs : List RC} {s : List SE}
theorem r_loopU {ts : List Nat} {B b : D} {f : Fr} {σ : St} (h : B = b) : run E dd rs (.d (.loop ts B) :: s) f σ = run E dd rs (.d b :: .lp ts B :: s) (kp ts f) σ := by rw [r_loop, h]
/-- The run comes to go on there. -/
def Lands (E : En P) (dd : Bool) (rs : List RC) (s : List SE) (Q : Fr → St → Prop) (r : Option (CO × St)) : Prop := ∃ f' σ', r = run E dd rs s f' σ' ∧ Q f' σ'
theorem Lands.use {Q : Fr → St → Prop} {r x : Option (CO × St)} (h : Lands E dd rs s Q r) (k : ∀ f' σ', Q f' σ' → run E dd rs s f' σ' = x) : r = x := by
  obtain ⟨f', σ', rfl, h⟩ := h; exact k f' σ' h
theorem Lands.to {C : Option (CO × St) → Prop} {Q : Fr → St → Prop} {r : Option (CO × St)} (h : Lands E dd rs s Q r) (k : ∀ f' σ', Q f' σ' → C (run E dd rs s f' σ')) : C r := by
  obtain ⟨f', σ', rfl, h⟩ := h; exact k f' σ' h
theorem Lands.here {Q : Fr → St → Prop} {f : Fr} {σ : St} (h : Q f σ) : Lands E dd rs s Q (run E dd rs s f σ) := ⟨f, σ, rfl, h⟩
theorem Lands.mono {Q Q' : Fr → St → Prop} {r : Option (CO × St)} (h : Lands E dd rs s Q r) (k : ∀ f' σ', Q f' σ' → Q' f' σ') : Lands E dd rs s Q' r := by
  obtain ⟨f', σ', e, h⟩ := h; exact ⟨f', σ', e, k f' σ' h⟩
section
variable {f : Fr} {σ : St} {e e' : Env} {ds : List AD} {m : Nat} {ps : List Nat} {asg body : D} {gf : FuncId} {cap : List V} {ky : V} {all : List (List V)} {i : Nat} {x : List V}
theorem rng_in (g : Opd) (hn : noRnd s = true) (hg : g.ev f.env = .func (.func gf) [] cap) (hI : E.It gf cap σ = some (ky, all)) :
    run E dd rs (.d (.rng g ps asg body) :: s) f σ = run E dd rs (.rnd f.env f.ds σ.n ps asg body gf cap ky all 0 :: s) f (σ.new (.lp .busy)) := r_rng E dd rs s f σ g ps asg body hn hg hI
theorem rnd_end (h : σ.H m = some (.lp .busy)) (hI : E.It gf cap (σ.set m (.lp .ready)) = some (ky, all)) (hi : all[i]? = none) :
    run E dd rs (.rnd e ds m ps asg body gf cap ky all i :: s) f σ = run E dd rs s ⟨e, .coll :: ds⟩ (σ.kill m) := r_rnd_end E dd rs s f σ h hI hi
theorem rnd_at {b : D} (hb : body = b) (h : σ.H m = some (.lp .busy)) (hI : E.It gf cap (σ.set m (.lp .ready)) = some (ky, all)) (hi : all[i]? = some x) (hl : x.length = ps.length) (he : asgE asg (setPs e ps x) = some e') :
    run E dd rs (.rnd e ds m ps asg body gf cap ky all i :: s) f σ = run E dd rs (.d b :: .rnd e ds m ps asg body gf cap ky all (i + 1) :: s) ⟨e', []⟩ σ := by rw [← hb]; exact r_rnd_at E dd rs s f σ h hI hi hl he
end
open Classical in
theorem r_cks {f : Fr} {σ : St} (q : RI) (qs : List RI) : run E dd rs (.ck (q :: qs) :: s) f σ = if chk q f σ then run E dd rs (.ck qs :: s) f σ else none := by
  rw [run_eq]; show nxF E (run E) dd rs (stCk q qs s f σ) = _
  unfold stCk; split <;> rfl
theorem chk_x {f : Fr} {σ : St} (d : Nat) (i : Ins) : chk ⟨some d, none, i⟩ f σ = (evI f.env σ i = some (f.env d, σ)) := rfl
theorem chk_n {f : Fr} {σ : St} (g : Option (Nat × Bool)) (i : Ins) : chk ⟨none, g, i⟩ f σ = True := rfl
end
/-! Stores that have grown: what was there is as it was. -/
structure Gr (σ σ' : St) : Prop where
  n : σ.n ≤ σ'.n
  H : ∀ l, l < σ.n → σ'.H l = σ.H l
  W : σ'.W = σ.W
section
variable {σ σ' τ : St} {z : Nat} {v : V} {es : List (List V)} {s : List UInt8}
theorem Gr.refl (σ : St) : Gr σ σ := ⟨Nat.le_refl _, fun _ _ => rfl, rfl⟩
theorem Gr.trans (h : Gr σ σ') (k : Gr σ' τ) : Gr σ τ := ⟨Nat.le_trans h.n k.n, fun l hl => (k.H l (Nat.lt_of_lt_of_le hl h.n)).trans (h.H l hl), k.W.trans h.W⟩
theorem Gr.new (h : Gr σ σ') (b : Blk) : Gr σ (σ'.new b) := ⟨by have := h.n; simp; omega, fun l hl => by have := h.n; simp [show l ≠ σ'.n by omega, h.H l hl], h.W⟩
theorem Gr.set (h : Gr σ σ') {l : Nat} (hl : σ.n ≤ l) (b : Blk) : Gr σ (σ'.set l b) := ⟨h.n, fun k hk => by simp [show k ≠ l by omega, h.H k hk], h.W⟩
theorem Gr.kill (h : Gr σ σ') {l : Nat} (hl : σ.n ≤ l) : Gr σ (σ'.kill l) := ⟨h.n, fun k hk => by simp [show k ≠ l by omega, h.H k hk], h.W⟩
theorem Gr.grown (h : Gr σ σ') (hv : ∀ l, v.row = some l → σ.n ≤ l) : Gr σ (grown σ' v) := by
  cases v <;> (try exact h)
  exact h.kill (hv _ rfl)
theorem Gr.turn (h : Gr σ σ') {p : Nat} (hp : σ.n ≤ p) (hn : τ.n = σ'.n) (hW : τ.W = σ'.W) (hH : ∀ l, l ≠ p → τ.H l = σ'.H l) : Gr σ τ :=
  ⟨by rw [hn]; exact h.n, fun l hl => (hH l (by omega)).trans (h.H l hl), hW.trans h.W⟩
theorem Bs.str (h : Bs σ v s) : b2sV σ v = some (.str s) := Bs.b2s h
/-- Values whose rows are there. -/
def V.old (σ : St) (v : V) : Prop := ∀ l off len, v = .slc l off len → l < σ.n
theorem Rd.gr (h : Rd σ z v es) (g : Gr σ σ') (ho : v.old σ) : Rd σ' z v es := h.mono fun l off len e => g.H l (ho l off len e)
theorem Bs.gr (h : Bs σ v s) (g : Gr σ σ') (ho : v.old σ) : Bs σ' v s := Rd.gr h g ho
theorem V.old_islc (z : Nat) (es : List (List V)) : (V.islc z es).old σ := fun _ _ _ h => by simp at h
theorem V.old_nils : (V.nils).old σ := fun _ _ _ h => by simp at h
theorem V.old_cut (h : v.old σ) (a b : Nat) : (cutV v a b).old σ := by
  cases v <;> first | exact h | (intro l off len e; simp [cutV] at e; try exact h _ _ _ (by rw [e.1]) )
theorem V.old_gr (h : v.old σ) (g : Gr σ σ') : v.old σ' := fun l off len e => Nat.lt_of_lt_of_le (h l off len e) g.n
theorem Rd.lda (h : Rd σ z v es) {i m : Nat} {e : List V} (he : es[i]? = some e) (hm : m = e.length) : ldaV σ m (elA v i) = some (.agg e) := by
  subst hm
  have hi : i < es.length := (List.getElem?_eq_some_iff.1 he).1
  rcases h.inv with ⟨rfl, rfl⟩ | rfl | ⟨l, off, rows, rfl, h1, h2, h3⟩
  · simp at he
  · simp [elA, he]
  · have : rows[off + i]? = some e := by
      rw [h3, List.getElem?_take, List.getElem?_drop] at he
      simpa [hi] using he
    simp [elA, h1, this]
/-- A slice of one's own, told whole. -/
def told (z : Nat) (v : V) (es : List (List V)) : V := match v with
  | .nils => .nils
  | _ => .islc z es
theorem Sl.frz (h : Sl σ z v es) {n : Nat → Bool} (hn : ∀ l, v.row = some l → n l = false) (hp : ∀ e ∈ es, ∀ u ∈ e, u.pure = true) (m : Nat) : frzC σ.H n (m + 1) v = told z v es := by
  rcases h with ⟨rfl, rfl⟩ | ⟨l, rfl, h⟩
  · rfl
  · rw [frz_slc _ _ m (hn l rfl) h (by omega) hp]
    simp [told]
theorem told_is {z : Nat} {v : V} {es : List (List V)} (h : v ≠ .nils) : told z v es = .islc z es := by
  cases v <;> first | rfl | exact absurd rfl h
theorem told_rd (h : Sl σ z v es) : Rd σ' z (told z v es) es := by
  rcases h with ⟨rfl, rfl⟩ | ⟨l, rfl, h⟩
  · rfl
  · simp [told, Rd, cont]
/-- A slice of one's own, made since. -/
structure Own (σ0 σ : St) (z : Nat) (v : V) (es : List (List V)) : Prop where
  sl : Sl σ z v es
  gr : Gr σ0 σ
  lo : ∀ k, v.row = some k → σ0.n ≤ k ∧ k < σ.n
theorem Own.rd {σ0 σ : St} (h : Own σ0 σ z v es) : Rd σ z v es := h.sl.rd
theorem Own.old {σ0 σ : St} (h : Own σ0 σ z v es) : v.old σ := fun l off len e => (h.lo l (by rw [e]; rfl)).2
theorem Own.nils (σ : St) (z : Nat) : Own σ σ z .nils [] := ⟨.inl ⟨rfl, rfl⟩, .refl _, fun k h => by simp [V.row] at h⟩
theorem Own.new {σ0 σ : St} (g : Gr σ0 σ) (z : Nat) (es : List (List V)) {n : Nat} (hn : n = es.length) : Own σ0 (σ.new (.row z es)) z (.slc σ.n 0 n) es :=
  ⟨.inr ⟨σ.n, by rw [hn], by simp⟩, g.new _, fun k h => by simp [V.row] at h; subst h; exact ⟨g.n, by simp⟩⟩
theorem Own.step {σ0 σ τ : St} (h : Own σ0 σ z v es) (g : Gr σ τ) : Own σ0 τ z v es :=
  ⟨h.sl.mono fun l hl => g.H l (h.lo l hl).2, h.gr.trans g, fun k hk => ⟨(h.lo k hk).1, Nat.lt_of_lt_of_le (h.lo k hk).2 g.n⟩⟩
theorem Own.app {σ0 σ : St} (h : Own σ0 σ z v es) {y : V} {ys : List (List V)} (hy : srcOf σ z y = some ys) (hne : ys ≠ []) {bytes : Nat} (hb : (es.length + ys.length) * bytes ≤ reach) (hr : es.length + ys.length ≤ reach) :
    appV σ bytes z v y = some (.slc σ.n 0 (es.length + ys.length), (grown σ v).new (.row z (es ++ ys))) ∧ Own σ0 ((grown σ v).new (.row z (es ++ ys))) z (.slc σ.n 0 (es.length + ys.length)) (es ++ ys) := by
  refine ⟨h.sl.app hy hne hb hr, ?_⟩
  have := Own.new (σ0 := σ0) (σ := grown σ v) (h.gr.grown fun l hl => (h.lo l hl).1) z (es ++ ys) (n := es.length + ys.length) (by simp)
  simpa using this
theorem Own.base {σ0 σ1 σ : St} (h : Own σ1 σ z v es) (g : Gr σ0 σ1) : Own σ0 σ z v es := ⟨h.sl, g.trans h.gr, fun k hk => ⟨Nat.le_trans g.n (h.lo k hk).1, (h.lo k hk).2⟩⟩
/-- Some more, or none. -/
theorem Own.appA {σ0 σ : St} (h : Own σ0 σ z v es) {y : V} {ys : List (List V)} (hy : srcOf σ z y = some ys) {bytes : Nat} (hb : (es.length + ys.length) * bytes ≤ reach) (hr : es.length + ys.length ≤ reach) :
    ∃ u τ, appV σ bytes z v y = some (u, τ) ∧ Own σ0 τ z u (es ++ ys) ∧ (v ≠ .nils → u ≠ .nils) := by
  by_cases hne : ys = []
  · subst hne
    exact ⟨v, σ, h.sl.app0 hy, by simpa using h, id⟩
  · obtain ⟨h1, h2⟩ := h.app hy hne hb hr
    exact ⟨_, _, h1, h2, fun _ => by simp⟩
/-- One more, that was just made. -/
theorem Own.app1 {σ0 σ : St} (h : Own σ0 σ z v es) (ys : List (List V)) (hne : ys ≠ []) {bytes : Nat} (hb : (es.length + ys.length) * bytes ≤ reach) (hr : es.length + ys.length ≤ reach) {n : Nat} (hn : n = ys.length) :
    ∃ u τ, appV (σ.new (.row z ys)) bytes z v (.slc σ.n 0 n) = some (u, τ) ∧ Own σ0 τ z u (es ++ ys) := by
  subst hn
  have h' := h.step ((Gr.refl σ).new (.row z ys))
  exact ⟨_, _, h'.app (by simp [srcOf, cont]) hne hb hr⟩
theorem Own.app1N {σ0 σ : St} (h : Own σ0 σ z v es) (ys : List (List V)) (hne : ys ≠ []) {bytes : Nat} (hb : (es.length + ys.length) * bytes ≤ reach) (hr : es.length + ys.length ≤ reach) {n : Nat} (hn : n = ys.length) :
    ∃ u τ, appV (σ.new (.row z ys)) bytes z v (.slc σ.n 0 n) = some (u, τ) ∧ Own σ0 τ z u (es ++ ys) ∧ (∀ k, u.row = some k → σ.n ≤ k) ∧ σ.n ≤ τ.n ∧ (∀ l, l < σ.n → v.row ≠ some l → τ.H l = σ.H l) := by
  subst hn
  have h' := h.step ((Gr.refl σ).new (.row z ys))
  obtain ⟨h1, h2⟩ := h'.app (y := .slc σ.n 0 ys.length) (ys := ys) (by simp [srcOf, cont]) hne hb hr
  refine ⟨_, _, h1, h2, fun k hk => ?_, by simp; omega, fun l hl hv => ?_⟩
  · simp [V.row] at hk; omega
  · have e1 : l ≠ (grown (σ.new (.row z ys)) v).n := by simp; omega
    simp only [new_H, if_neg e1, grown_H, if_neg hv]
    simp [show l ≠ σ.n by omega]
theorem Own.frz {σ0 σ : St} (h : Own σ0 σ z v es) (hp : ∀ e ∈ es, ∀ u ∈ e, u.pure = true) (m : Nat) : frzC σ.H (fun l => decide (l < σ0.n)) (m + 1) v = told z v es :=
  h.sl.frz (fun l hl => by have := (h.lo l hl).1; simp; omega) hp m
theorem Own.frzV {σ0 σ : St} (h : Own σ0 σ z v es) (hp : ∀ e ∈ es, ∀ u ∈ e, u.pure = true) : frzV σ.H (fun l => decide (l < σ0.n)) v = told z v es := by
  have := h.frz hp 3
  rcases h.sl with ⟨rfl, rfl⟩ | ⟨l, rfl, h'⟩
  · rfl
  · simpa using this
theorem Own.told {σ0 σ τ : St} (h : Own σ0 σ z v es) : Rd τ z (told z v es) es := told_rd h.sl
/-- A slice that is told whole. -/
def Tl (z : Nat) (v : V) (es : List (List V)) : Prop := (v = .nils ∧ es = []) ∨ v = .islc z es
theorem Tl.rd {σ : St} (h : Tl z v es) : Rd σ z v es := by
  rcases h with ⟨rfl, rfl⟩ | rfl
  · rfl
  · simp [Rd, cont]
theorem Tl.old {σ : St} (h : Tl z v es) : v.old σ := by
  rcases h with ⟨rfl, _⟩ | rfl
  · exact V.old_nils
  · exact V.old_islc _ _
theorem Tl.nils (z : Nat) : Tl z .nils [] := .inl ⟨rfl, rfl⟩
theorem Tl.islc (z : Nat) (es : List (List V)) : Tl z (.islc z es) es := .inr rfl
theorem Tl.frz (h : Tl z v es) (H : Nat → Option Blk) (n : Nat → Bool) (m : Nat) : frzC H n (m + 1) v = v := by
  rcases h with ⟨rfl, _⟩ | rfl <;> rfl
theorem Tl.frzV (h : Tl z v es) (H : Nat → Option Blk) (n : Nat → Bool) : frzV H n v = v := by
  rcases h with ⟨rfl, _⟩ | rfl <;> rfl
theorem Tl.scal (h : Tl z v es) : v.scal = true := by rcases h with ⟨rfl, _⟩ | rfl <;> rfl
theorem Own.tl {σ0 σ : St} (h : Own σ0 σ z v es) : Tl z (Go.Proofs.Ytmeelljhimeedaa.Ab.told z v es) es := by
  rcases h.sl with ⟨rfl, rfl⟩ | ⟨l, rfl, h⟩
  · exact .inl ⟨rfl, rfl⟩
  · exact .inr rfl
end
/-! Calls that hand back a new row by its name. -/
section
variable {P : Program} {E : En P} {k : FuncId} {fd : FD} {vs : List V} {σ σ' : St} {o o' : CO}
/-- One new row stays. -/
def St.add (σ : St) (p : Nat) (b : Blk) : St := ⟨fun l => if l = p then some b else σ.H l, p + 1, σ.W⟩
theorem add_gr {p : Nat} (hp : σ.n ≤ p) (b : Blk) : Gr σ (σ.add p b) := ⟨by simp [St.add]; omega, fun l hl => by simp [St.add, show l ≠ p by omega], rfl⟩
@[simp] theorem add_n {p : Nat} (b : Blk) : (σ.add p b).n = p + 1 := rfl
@[simp] theorem add_W {p : Nat} (b : Blk) : (σ.add p b).W = σ.W := rfl
@[simp] theorem add_H {p : Nat} (b : Blk) (l : Nat) : (σ.add p b).H l = if l = p then some b else σ.H l := rfl
theorem ev_own0 (h : E.T k = some fd) (hl : vs.length ≤ fd.nt) (hz : fd.fz = .own) (hr : run E false fd.res [.d fd.body] ⟨envOf vs, []⟩ σ = some (o, σ')) (hp : ptrs o = []) (hH : ∀ l, l < σ.n → σ'.H l = σ.H l) (hW : σ'.W = σ.W)
    (ho : frzO σ'.H (fun l => decide (l < σ.n)) o = o') : ev E k vs σ = some (o', σ) := by
  rw [ev_eq h hl, hr]
  simp only [cutR, hz, hp, Option.map_some, List.contains_nil, Bool.or_false, List.foldl_nil, frz_same hH hW, ho]
theorem ev_own1 (h : E.T k = some fd) (hl : vs.length ≤ fd.nt) (hz : fd.fz = .own) (hr : run E false fd.res [.d fd.body] ⟨envOf vs, []⟩ σ = some (o, σ')) {p : Nat} {b : Blk} (hp : ptrs o = [p]) (hn : σ.n ≤ p) (h0 : σ.H p = none)
    (hb : (σ'.H p).map (frzB σ'.H fun l => decide (l < σ.n) || [p].contains l) = some b) (hH : ∀ l, l < σ.n → σ'.H l = σ.H l) (hW : σ'.W = σ.W)
    (ho : frzO σ'.H (fun l => decide (l < σ.n) || [p].contains l) o = o') : ev E k vs σ = some (o', σ.add p b) := by
  rw [ev_eq h hl, hr]
  simp only [cutR, hz, hp, Option.map_some, ho, Option.some.injEq, Prod.mk.injEq, true_and]
  refine St.ext' (fun l => ?_) (by simp [St.frz]; omega) hW
  simp only [St.frz, add_H]
  by_cases e : l = p
  · subst e
    have hne : ¬ σ'.H l = σ.H l := fun e => by rw [e, h0] at hb; simp at hb
    simp [hne] at hb ⊢
    exact hb
  · by_cases hl : l < σ.n
    · simp [hl, e, hH l hl]
    · simp [hl, e]
end
end Go.Proofs.Ytmeelljhimeedaa.Ab
namespace Go.Proofs.Ytmeelljhimeedaa
open Go.Proofs.Ytmeelljhimeedaa.Ab
set_option linter.unusedVariables false
set_option linter.unusedSimpArgs false
variable {E : En Try.prog}
def uni (r : Int) : Nat := if 65535 < r then 2 else 1
theorem units_ev (hT : E.T = T) {σ : St} (r : Int) : ev E 25 [.int .i32 r] σ = some (.ret (.int .i64 (uni r)), σ) := by
  refine ev_same (fd := f25) (o := .ret (.int .i64 (uni r))) (by rw [hT]; rfl) (by simp [f25]) rfl ?_ (by simp)
  by_cases h : r > 65535
  · have h' : (65535 : Int) < r := h
    simp [f25, d25, h', uni]
  · have h' : ¬ (65535 : Int) < r := h
    simp [f25, d25, h', uni]
/-- Where a line's letters end. -/
def endL (s : List UInt8) (i : Nat) : Nat :=
  if h : i < s.length then if s[i] = 10 ∨ s[i] = 13 then i else endL s (i + 1) else i
termination_by s.length - i
theorem endL_le {s : List UInt8} {i : Nat} (h : i ≤ s.length) : i ≤ endL s i ∧ endL s i ≤ s.length := by
  rw [endL]
  split
  · split
    · omega
    · have := endL_le (s := s) (i := i + 1) (by omega); omega
  · omega
termination_by s.length - i
theorem end_loop {σ : St} {v : V} {b : List UInt8} (hv : Bs σ v b) (hb : b.length < 2 ^ 40) {dd : Bool} {rs : List RC} {s : List SE} {B : D} (hB : B = b23_0) :
    ∀ (n i : Nat) (f : Fr), b.length ≤ i + n → f.ds = [] → f.env 0 = v → f.env 5 = .int .i64 i → Lands E dd rs s (fun f' σ' => σ' = σ ∧ f'.ds = [] ∧ f'.env 5 = .int .i64 (endL b i)) (run E dd rs (.d (.loop [0, 5] B) :: .blk 0 :: s) f σ)
  | n, i, f, hn, hd, h0, h5 => by
    rw [r_loopU hB, endL]
    by_cases h : i < b.length
    · have h1 : b[i]? = some b[i] := by simp
      have ld := hv.ld h1
      have k10 := u8n (c := b[i]) (n := 10) (by omega)
      have k13 := u8n (c := b[i]) (n := 13) (by omega)
      rw [dif_pos h]
      cases n with
      | zero => omega
      | succ n =>
      by_cases c1 : b[i] = 10
      · have c1' : ((b[i].toNat : Int) = 10) := by rw [c1]; rfl
        simp [b23_0, h0, h5, hd, hv.len, h, hv.at, ld, c1', c1]
        exact .here (by simp)
      by_cases c2 : b[i] = 13
      · have c2' : ((b[i].toNat : Int) = 13) := by rw [c2]; rfl
        have c1' : ¬ ((b[i].toNat : Int) = 10) := by rw [c2]; decide
        simp [b23_0, h0, h5, hd, hv.len, h, hv.at, ld, c1', c1, c2', c2]
        exact .here (by simp)
      · have c1' : ¬ ((b[i].toNat : Int) = 10) := fun e => c1 (k10.1 e)
        have c2' : ¬ ((b[i].toNat : Int) = 13) := fun e => c2 (k13.1 e)
        have hw : IntKind.i64.wrap ((i : Int) + 1) = ((i + 1 : Nat) : Int) := by rw [IntWalk.i64_in _ (by omega)]; omega
        simp [b23_0, h0, h5, hd, hv.len, h, hv.at, ld, c1', c1, c2', c2, hw]
        exact end_loop hv hb hB n (i + 1) _ (by omega) rfl (by simp) (by simp)
    · rw [dif_neg h]
      simp [b23_0, h0, h5, hd, hv.len, h]
      exact .here (by simp)
theorem end_ev (hT : E.T = T) {σ : St} {v : V} {b : List UInt8} (hv : Bs σ v b) (hb : b.length < 2 ^ 40) {i : Nat} : ev E 23 [v, .int .i64 i] σ = some (.ret (.int .i64 (endL b i)), σ) := by
  refine ev_same (fd := f23) (o := .ret (.int .i64 (endL b i))) (by rw [hT]; rfl) (by simp [f23]) rfl ?_ (by simp)
  simp [f23, d23]
  refine (end_loop hv hb rfl b.length i _ (by omega) rfl (by simp) (by simp)).use ?_
  rintro f' _ ⟨rfl, e2, e3⟩
  simp [e2, e3]
end Go.Proofs.Ytmeelljhimeedaa
namespace Go.Proofs.Ytmeelljhimeedaa
open Go.Proofs.Ytmeelljhimeedaa.Ab
set_option linter.unusedVariables false
set_option linter.unusedSimpArgs false
variable {E : En Try.prog}
def szU (r : Nat) : Nat := if r < 128 then 1 else if r < 2048 then 2 else if r < 65536 then 3 else 4
theorem lt1_size {s : List UInt8} {i r n : Nat} (h : lt1 s i = some (r, n)) : szU r = n ∧ r ≤ 1114111 ∧ ¬ (55296 ≤ r ∧ r ≤ 57343) := by
  unfold lt1 at h
  have hx := nx_lt s i
  unfold szU
  split at h
  · rename_i hc
    simp at h; obtain ⟨rfl, rfl⟩ := h
    simp [hc]; omega
  split at h
  · rename_i hc
    simp at h
    obtain ⟨rfl, rfl⟩ := h
    unfold lt2 at *
    rw [if_neg (by omega), if_pos (by omega)]
    omega
  split at h
  · rename_i hc
    simp only at h
    split at h
    · rename_i hr
      simp at h
      obtain ⟨rfl, rfl⟩ := h
      unfold lt3 at *
      rw [if_neg (by omega), if_neg (by omega), if_pos (by omega)]
      omega
    · simp at h
  split at h
  · simp only at h
    split at h
    · rename_i hr
      simp at h
      obtain ⟨rfl, rfl⟩ := h
      rw [if_neg (by omega), if_neg (by omega), if_neg (by omega)]
      omega
    · simp at h
  · simp at h
theorem encode_ev (hT : E.T = T) {σ : St} {r : Nat} (h1 : r ≤ 1114111) (h2 : ¬ (55296 ≤ r ∧ r ≤ 57343)) : ∃ bs, bs.length = szU r ∧ ev E 24 [.int .i32 r] σ = some (.ret (.tup [.islc 1 bs, .int .i64 0]), σ) := by
  obtain ⟨bs, hb, hp, hr⟩ : ∃ bs, bs.length = szU r ∧ (∀ e ∈ bs, ∀ u ∈ e, u.pure = true) ∧ run E false f24.res [.d f24.body] ⟨envOf [.int .i32 r], []⟩ σ = some (.ret (.tup [.slc σ.n 0 (szU r), .int .i64 0]), σ.new (.row 1 bs)) := by
    have k0 : ¬ (r : Int) < 0 := by omega
    have k1 : ¬ (1114111 : Int) < r := by omega
    unfold szU
    by_cases a1 : r < 128
    · rw [if_pos a1]
      have b1 : (r : Int) < 128 := by omega
      have b2 : ¬ (55296 : Int) ≤ r := by omega
      refine ⟨_, ?_, ?_, by simp [f24, d24, k0, k1, b1, b2]; rfl⟩ <;> simp
    rw [if_neg a1]
    have b1 : ¬ (r : Int) < 128 := by omega
    by_cases a2 : r < 2048
    · rw [if_pos a2]
      have b3 : (r : Int) < 2048 := by omega
      have b2 : ¬ (55296 : Int) ≤ r := by omega
      refine ⟨_, ?_, ?_, by simp [f24, d24, k0, k1, b1, b2, b3]; rfl⟩ <;> simp
    rw [if_neg a2]
    have b3 : ¬ (r : Int) < 2048 := by omega
    by_cases a3 : r < 65536
    · rw [if_pos a3]
      have b4 : (r : Int) < 65536 := by omega
      by_cases a4 : r < 55296
      · have b2 : ¬ (55296 : Int) ≤ r := by omega
        refine ⟨_, ?_, ?_, by simp [f24, d24, k0, k1, b1, b2, b3, b4]; rfl⟩ <;> simp
      · have b2 : (55296 : Int) ≤ r := by omega
        have b5 : ¬ (r : Int) ≤ 57343 := by omega
        refine ⟨_, ?_, ?_, by simp [f24, d24, k0, k1, b1, b2, b3, b4, b5]; rfl⟩ <;> simp
    · rw [if_neg a3]
      have b4 : ¬ (r : Int) < 65536 := by omega
      have b2 : (55296 : Int) ≤ r := by omega
      have b5 : ¬ (r : Int) ≤ 57343 := by omega
      refine ⟨_, ?_, ?_, by simp [f24, d24, k0, k1, b1, b2, b3, b4, b5]; rfl⟩ <;> simp
  refine ⟨bs, hb, ev_pure (fd := f24) (by rw [hT]; rfl) (by simp [f24]) rfl hr ?_ rfl ?_⟩
  · intro l hl; simp [show l ≠ σ.n by omega]
  · simp
    have := frz_slc (H := (σ.new (.row 1 bs)).H) (n := fun l => decide (l < σ.n)) (l := σ.n) (off := 0) (len := bs.length) (z := 1) (es := bs) 3 (by simp) (by simp) (by omega) hp
    simp at this
    rw [← hb]; exact this
end Go.Proofs.Ytmeelljhimeedaa
namespace Go.Proofs.Ytmeelljhimeedaa
open Go.Proofs.Ytmeelljhimeedaa.Ab
set_option linter.unusedVariables false
set_option linter.unusedSimpArgs false
variable {E : En Try.prog}
def intE (n : Nat) : List V := [.int .i64 n]
/-- A line ends with that byte. -/
def brk (s : List UInt8) (i : Nat) : Prop := s[i]? = some 10 ∨ s[i]? = some 13 ∧ s[i + 1]? ≠ some 10
instance (s : List UInt8) (i : Nat) : Decidable (brk s i) := inferInstanceAs (Decidable (_ ∨ _))
def lns (s : List UInt8) (i : Nat) : List Nat := if h : i < s.length then if brk s i then (i + 1) :: lns s (i + 1) else lns s (i + 1) else []
termination_by s.length - i
theorem brk_lt {s : List UInt8} {i : Nat} (h : brk s i) : i < s.length := by
  rcases Nat.lt_or_ge i s.length with h' | h'
  · exact h'
  · rcases h with h | h <;> simp [List.getElem?_eq_none h'] at h
theorem lines_loop {σ0 : St} {v : V} {b : List UInt8} (hv : Bs σ0 v b) (ho : v.old σ0) (hb : b.length < 2 ^ 40) {dd : Bool} {rs : List RC} {s : List SE} {B : D} (hB : B = b17_0) :
    ∀ (n i : Nat) (acc : List Nat) (f : Fr) (σ : St), b.length = i + n → acc.length ≤ i + 1 → f.ds = [] → f.env 0 = v → f.env 7 = .int .i64 b.length → f.env 8 = .int .i64 i → Own σ0 σ 1 (f.env 3) (acc.map intE) →
      Lands E dd rs s (fun f' σ' => f'.ds = [] ∧ Own σ0 σ' 1 (f'.env 3) ((acc ++ lns b i).map intE)) (run E dd rs (.d (.loop [0, 3, 7, 8] B) :: .blk 0 :: s) f σ)
  | 0, i, acc, f, σ, hn, ha, hd, h0, h7, h8, hq => by
    rw [r_loopU hB, lns, dif_neg (by omega)]
    have h : ¬ i < b.length := by omega
    simp [b17_0, h0, h7, h8, h, hd]
    exact .here ⟨by simp, by simpa using hq⟩
  | n + 1, i, acc, f, σ, hn, ha, hd, h0, h7, h8, hq => by
    rw [r_loopU hB, lns]
    have h : i < b.length := by omega
    have hv' := hv.gr hq.gr ho
    have h1 : b[i]? = some b[i] := by simp
    have ld := hv'.ld h1
    have k10 := u8n (c := b[i]) (n := 10) (by omega)
    have k13 := u8n (c := b[i]) (n := 13) (by omega)
    rw [dif_pos h]
    have hw : IntKind.i64.wrap ((i : Int) + 1) = ((i + 1 : Nat) : Int) := by rw [IntWalk.i64_in _ (by omega)]; omega
    obtain ⟨j, hj⟩ : ∃ j, j = i + 1 := ⟨_, rfl⟩
    rw [← hj] at hw ⊢
    obtain ⟨u, τ, ap, hq'⟩ := hq.app1 [intE j] (by simp) (bytes := 8) (by simp [reach]; omega) (by simp [reach]; omega) (n := 1) rfl
    have hyes : ∀ g : Fr, g.ds = [] → g.env 0 = v → g.env 7 = .int .i64 b.length → g.env 8 = .int .i64 j → g.env 3 = u → _ := fun g g1 g2 g3 g4 g5 => lines_loop hv ho hb (dd := dd) (rs := rs) (s := s) hB n j (acc ++ [j]) g τ (by omega) (by simp; omega) g1 g2 g3 g4 (by rw [g5]; simpa using hq')
    have hno : ∀ g : Fr, g.ds = [] → g.env 0 = v → g.env 7 = .int .i64 b.length → g.env 8 = .int .i64 j → g.env 3 = f.env 3 → _ := fun g g1 g2 g3 g4 g5 => lines_loop hv ho hb (dd := dd) (rs := rs) (s := s) hB n j acc g σ (by omega) (by omega) g1 g2 g3 g4 (by rw [g5]; exact hq)
    simp only [List.append_assoc, List.singleton_append] at hyes
    by_cases c1 : b[i] = 10
    · have c1' : ((b[i].toNat : Int) = 10) := by rw [c1]; rfl
      have hbr : brk b i := .inl (by rw [h1, c1])
      rw [if_pos hbr]
      simp [intE] at ap
      simp [b17_0, h0, h7, h8, hd, hv'.len, h, hv'.at, ld, c1', c1, hw, ap]
      exact .mono (hyes _ rfl (by simp) (by simp) (by simp) (by simp)) fun _ _ h => by simpa using h
    have c1' : ¬ ((b[i].toNat : Int) = 10) := fun e => c1 (k10.1 e)
    by_cases c2 : b[i] = 13
    · have c2' : ((b[i].toNat : Int) = 13) := by rw [c2]; rfl
      by_cases c3 : j = b.length
      · have c3' : (j : Int) = b.length := by omega
        have hbr : brk b i := .inr ⟨by rw [h1, c2], by rw [List.getElem?_eq_none (by omega)]; simp⟩
        rw [if_pos hbr]
        simp [intE] at ap
        simp [b17_0, h0, h7, h8, hd, hv'.len, h, hv'.at, ld, c1', c2', eq_true c3', hw, ap]
        exact .mono (hyes _ rfl (by simp) (by simp) (by simp) (by simp)) fun _ _ h => by simpa using h
      · have hjl : j < b.length := by omega
        have c3' : ¬ (j : Int) = b.length := by omega
        have hl2 := hv'.ld (i := j) (c := b[j]) (by simp)
        have k := u8n (c := b[j]) (n := 10) (by omega)
        by_cases c4 : b[j] = 10
        · have c4' : ((b[j].toNat : Int) = 10) := by rw [c4]; rfl
          have hbr : ¬ brk b i := by
            rintro (e | ⟨_, e⟩)
            · rw [h1] at e; simp at e; exact c1 e
            · apply e; rw [← hj]; simp [hjl, c4]
          rw [if_neg hbr]
          simp [b17_0, h0, h7, h8, hd, hv'.len, h, hv'.at, ld, c1', c2', c3', hw, hjl, hl2, c4']
          exact .mono (hno _ rfl (by simp) (by simp) (by simp) (by simp)) fun _ _ h => by simpa using h
        · have c4' : ¬ ((b[j].toNat : Int) = 10) := fun e => c4 (k.1 e)
          have hbr : brk b i := .inr ⟨by rw [h1, c2], by rw [← hj]; simp [hjl]; exact c4⟩
          rw [if_pos hbr]
          simp [intE] at ap
          simp [b17_0, h0, h7, h8, hd, hv'.len, h, hv'.at, ld, c1', c2', c3', hw, hjl, hl2, c4', ap]
          exact .mono (hyes _ rfl (by simp) (by simp) (by simp) (by simp)) fun _ _ h => by simpa using h
    · have c2' : ¬ ((b[i].toNat : Int) = 13) := fun e => c2 (k13.1 e)
      have hbr : ¬ brk b i := by
        rintro (e | ⟨e, _⟩) <;> (rw [h1] at e; simp at e)
        · exact c1 e
        · exact c2 e
      rw [if_neg hbr]
      simp [b17_0, h0, h7, h8, hd, hv'.len, h, hv'.at, ld, c1', c2', hw]
      exact .mono (hno _ rfl (by simp) (by simp) (by simp) (by simp)) fun _ _ h => by simpa using h
theorem lines_ev (hT : E.T = T) {σ : St} {v : V} {b : List UInt8} (hv : Bs σ v b) (ho : v.old σ) (hb : b.length < 2 ^ 40) : ev E 17 [v] σ = some (.ret (.islc 1 ((0 :: lns b 0).map intE)), σ) := by
  have hq := Own.new (Gr.refl σ) 1 [intE 0] (n := 1) rfl
  have hl := lines_loop (E := E) hv ho hb (dd := false) (rs := f17.res) (s := [.d (.kb [3] (.seq (.reg [⟨some 43, none, .mv (.t 3)⟩, ⟨some 2, none, .mv (.t 43)⟩]) .ret))]) rfl b.length 0 [0] ⟨lk [0, 3, 7, 8] [v, .slc σ.n 0 1, .int .i64 b.length, .int .i64 0], []⟩ (σ.new (.row 1 [intE 0])) (by omega) (by simp) rfl (by simp) (by simp) (by simp) (by simpa using hq)
  obtain ⟨f', σ', e, hd, hq'⟩ := hl
  refine ev_pure (fd := f17) (o := .ret (f'.env 3)) (σ' := σ') (by rw [hT]; rfl) (by simp [f17]) rfl ?_ hq'.gr.H hq'.gr.W ?_
  · simp [f17, d17, hv.len, intE] at e ⊢
    rw [e]
    simp [hd]
  · simp only [frzO_ret]
    rw [hq'.frzV (fun e he u hu => by simp [intE] at he; obtain ⟨a, _, rfl⟩ | ⟨a, _, rfl⟩ := he <;> (simp at hu; subst hu; rfl))]
    rcases hq'.sl with ⟨h1, h2⟩ | ⟨l, h1, h2⟩
    · simp at h2
    · rw [h1]; rfl
end Go.Proofs.Ytmeelljhimeedaa
