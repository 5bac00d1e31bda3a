/-
The walk over the program's texts, told with what its values say: a part of it. No further condition.
-/
import Derived.Test.YtmkgmjdbgjiehaaDoorAbSwG
namespace Go.Proofs.YtmkgmjdbgjiehaaDoor
open Go.Proofs.YtmkgmjdbgjiehaaDoor.Ab
set_option linter.unusedVariables false
set_option linter.unusedSimpArgs false
attribute [local simp] Gr.refl Gr.new Gr.set Gr.kill Nat.add_assoc r_ckk chk_x chk_n
variable {B : Int}
open Classical in
noncomputable def eqB (a b : Ex) : Bool := decide (er a = er b)
open Classical in
noncomputable def eqBs (a b : List Ex) : Bool := decide (a.map er = b.map er)
theorem eqBs_nil : eqBs [] [] = true := by simp [eqBs]
theorem eqBs_cons (a b : Ex) (l m : List Ex) : eqBs (a :: l) (b :: m) = (eqB a b && eqBs l m) := by
  unfold eqBs eqB
  rw [Bool.eq_iff_iff]
  simp only [Bool.and_eq_true, decide_eq_true_iff]
  simp
theorem eqB_mk {k k' m m' : Nat} {nm nm' : List UInt8} {l l' : List Ex} {a b a' b' : Nat} : eqB (.mk k nm m l a b) (.mk k' nm' m' l' a' b') = (decide (k = k') && decide (nm = nm') && decide (m = m') && eqBs l l') := by
  unfold eqB eqBs
  rw [er_mk, er_mk]
  rw [Bool.eq_iff_iff]
  simp only [Bool.and_eq_true, decide_eq_true_iff]
  simp [and_assoc]
theorem eqBs_len {l m : List Ex} (h : l.length ≠ m.length) : eqBs l m = false := by
  unfold eqBs
  simp only [decide_eq_false_iff_not]
  intro e
  have := congrArg List.length e
  simp at this
  exact h this
theorem eq_loop {la lb : List Ex} {s2 : St} {p q : Nat} {a0 a1 a2 a3 a5 a6 b0 b1 b2 b3 b5 b6 : V} (hl : la.length = lb.length) (hs : la.length ≤ 1000) (hp : s2.H p = some (.row 7 [[a0, a1, a2, a3, argV (exsE B la), a5, a6]])) (hq : s2.H q = some (.row 7 [[b0, b1, b2, b3, argV (exsE B lb), b5, b6]]))
    (hw : ∀ x ∈ la, ∀ y ∈ lb, ∀ σ, ev ET 11 [exV B x, exV B y] σ = some (.ret (.bool (eqB x y)), σ)) {st : List SE} (hst : ∀ f, run ET false [.t 4] (.d .ret :: st) f s2 = run ET false [.t 4] [.d .ret] f s2) {B0 : D} (hB0 : B0 = b11_0)
    (K : ∀ f' : Fr, f'.ds = [] → run ET false [.t 4] st f' s2 = some (.ret (.bool true), s2)) :
    ∀ (ra rb : List Ex) (i : Nat) (f : Fr), la.drop i = ra → lb.drop i = rb → i + ra.length = la.length → f.ds = [] → f.env 2 = .ptr p 0 0 → f.env 3 = .ptr q 0 0 → f.env 37 = .int .i64 la.length → f.env 38 = .int .i64 i →
      run ET false [.t 4] (.d (.loop [2, 3, 37, 38] B0) :: .blk 0 :: st) f s2 = some (.ret (.bool (eqBs ra rb)), s2)
  | [], rb, i, f, hda, hdb, hi, hd, e2, e3, e37, e38 => by
    have hrb : rb = [] := by
      rw [← hdb]; apply List.drop_eq_nil_of_le; simp at hi; omega
    subst hrb
    rw [r_loopU hB0, eqBs_nil]
    have h : ¬ i < la.length := by simp at hi; omega
    simp [b11_0, hd, e2, e3, e37, e38, h]
    exact K _ (by simp)
  | x :: ra, [], i, f, hda, hdb, hi, hd, e2, e3, e37, e38 => by
    have := congrArg List.length hdb
    simp at this hi
    omega
  | x :: ra, y :: rb, i, f, hda, hdb, hi, hd, e2, e3, e37, e38 => by
    rw [r_loopU hB0]
    have hlt : i < la.length := by simp at hi; omega
    have hlt' : i < lb.length := by omega
    have hga : la[i]? = some x := by have := congrArg (·[0]?) hda; simpa using this
    have hgb : lb[i]? = some y := by have := congrArg (·[0]?) hdb; simpa using this
    have hda' : la.drop (i + 1) = ra := by rw [← List.drop_drop, hda]; rfl
    have hdb' : lb.drop (i + 1) = rb := by rw [← List.drop_drop, hdb]; rfl
    have hxy := hw x (List.mem_of_getElem? hga) y (List.mem_of_getElem? hgb)
    have h64 : IntKind.i64.wrap ((i : Int) + 1) = ((i + 1 : Nat) : Int) := by rw [IntWalk.i64_in _ (by omega)]; omega
    have ata := fun σ' : St => ((argV_tl B la).rd (σ := σ')).at (k := .i64) (i := i) (by simpa using hlt)
    have atb := fun σ' : St => ((argV_tl B lb).rd (σ := σ')).at (k := .i64) (i := i) (by simpa using hlt')
    have lda := fun σ' : St => ((argV_tl B la).rd (σ := σ')).lda (show (la.map (exE B))[i]? = some (exE B x) by rw [List.getElem?_map, hga]; rfl) (m := 7) (exE_len B x).symm
    have ldb := fun σ' : St => ((argV_tl B lb).rd (σ := σ')).lda (show (lb.map (exE B))[i]? = some (exE B y) by rw [List.getElem?_map, hgb]; rfl) (m := 7) (exE_len B y).symm
    have ih := fun f' => eq_loop hl hs hp hq hw hst hB0 K ra rb (i + 1) f' hda' hdb' (by simp at hi; omega)
    obtain ⟨i', hi'⟩ : ∃ k, k = i + 1 := ⟨_, rfl⟩
    simp only [← hi'] at h64 ih
    obtain ⟨va, hva⟩ : ∃ v, v = argV (exsE B la) := ⟨_, rfl⟩
    obtain ⟨vb, hvb⟩ : ∃ v, v = argV (exsE B lb) := ⟨_, rfl⟩
    rw [← hva] at hp ata lda
    rw [← hvb] at hq atb ldb
    unfold exV at hxy
    rw [eqBs_cons]
    cases hc : eqB x y with
    | true =>
      rw [hc] at hxy
      simp [b11_0, hd, e2, e3, e37, e38, hlt, hp, hq, ata, atb, lda, ldb, hxy, h64]
      exact ih _ (by simp) (by simp) (by simp) (by simp) (by simp)
    | false =>
      rw [hc] at hxy
      simp [b11_0, hd, e2, e3, e37, e38, hlt, hp, hq, ata, atb, lda, ldb, hxy, h64, hst]
set_option maxHeartbeats 2000000 in
theorem equal_ev (hB : B = 4294967296) : ∀ a b : Ex, Okx a → Okx b → ∀ σ, ev ET 11 [exV B a, exV B b] σ = some (.ret (.bool (eqB a b)), σ)
  | .mk k nm m l fr to, .mk k' nm' m' l' fr' to', ha, hb, σ => by
    rw [Okx] at ha hb
    have ih : ∀ x ∈ l, ∀ y ∈ l', ∀ σ, ev ET 11 [exV B x, exV B y] σ = some (.ret (.bool (eqB x y)), σ) := fun x hx y hy σ => equal_ev hB x y (Okxs_mem ha.2 x hx) (Okxs_mem hb.2 y hy) σ
    have hll : l.length ≤ 6 := by have := ha.1; unfold wfK at this; omega
    have h2 : (2 : Int) ≤ B := by omega
    have hml : m < 10 ^ 40 := by have := ha.1; unfold wfK at this; omega
    have hml' : m' < 10 ^ 40 := by have := hb.1; unfold wfK at this; omega
    have c1 : (cn B (m : Int)).length ≤ 5 := cn_length h2 (by subst hB; omega)
    have c2 : (cn B (m' : Int)).length ≤ 5 := cn_length h2 (by subst hB; omega)
    have hsc : (magV B (m : Int)).scal = true := magV_scal
    have hsc' : (magV B (m' : Int)).scal = true := magV_scal
    have hav := argV_scal (exsE B l)
    have hav' := argV_scal (exsE B l')
    have hlen := ((argV_tl B l).rd (σ := σ)).len
    have hlen' := ((argV_tl B l').rd (σ := σ)).len
    simp only [List.length_map] at hlen hlen'
    obtain ⟨s2, hs2⟩ : ∃ s2, s2 = (σ.new (.row 7 [exE B (.mk k nm m l fr to)])).new (.row 7 [exE B (.mk k' nm' m' l' fr' to')]) := ⟨_, rfl⟩
    obtain ⟨x, hx, hx0⟩ := bcmp_ev hB (σ := s2) m m' (by omega) (by omega)
    refine ev_pure (fd := f11) (o := .ret (.bool (eqB (.mk k nm m l fr to) (.mk k' nm' m' l' fr' to')))) (σ' := s2) rfl (by simp [f11]) rfl ?_ (fun j hj => by rw [hs2]; simp [show j ≠ σ.n by omega, show j ≠ σ.n + 1 by omega]) (by rw [hs2]; rfl) (by simp)
    have q1 : s2.H σ.n = some (.row 7 [exE B (.mk k nm m l fr to)]) := by rw [hs2]; simp
    have q2 : s2.H (σ.n + 1) = some (.row 7 [exE B (.mk k' nm' m' l' fr' to')]) := by rw [hs2]; simp
    simp only [exV, exE] at hs2 q1 q2 ⊢
    have hloop := fun (hl : l.length = l'.length) (st : List SE) hst K f' a b c d e => eq_loop (B := B) hl (by omega) q1 q2 ih (B0 := b11_0) (st := st) hst rfl K l l' 0 f' rfl rfl (by simp) a b c d e
    rw [eqB_mk]
    unfold numV at hx
    obtain ⟨va, hva⟩ : ∃ v, v = argV (exsE B l) := ⟨_, rfl⟩
    obtain ⟨vb, hvb⟩ : ∃ v, v = argV (exsE B l') := ⟨_, rfl⟩
    rw [← hva] at hav hlen hs2 q1 ⊢
    rw [← hvb] at hav' hlen' hs2 q2 ⊢
    by_cases hk : k = k'
    · by_cases hn : nm = nm'
      · by_cases hm : m = m'
        · have hx1 : x = 0 := hx0.2 hm
          subst hk; subst hn; subst hm; subst hx1
          by_cases hl : l.length = l'.length
          · have hl' : (l.length : Int) = (l'.length : Int) := by omega
            rw [hl'] at hlen
            simp [f11, d11, hsc, hsc', hav, hav', ← hs2, q1, q2, hx, hlen, hlen']
            exact hloop hl _ (fun f => by simp) (fun f' h => by simp [h]) _ (by simp) (by simp) (by simp) (by simp [hl]) (by simp)
          · have hl' : ¬ (l.length : Int) = (l'.length : Int) := by omega
            rw [eqBs_len hl]
            simp [f11, d11, hsc, hsc', hav, hav', ← hs2, q1, q2, hx, hlen, hlen', hl, hl']
        · have hx1 : ¬ x = 0 := fun h => hm (hx0.1 h)
          subst hk; subst hn
          simp [f11, d11, hsc, hsc', hav, hav', ← hs2, q1, q2, hx, hm, hx1]
      · subst hk
        simp [f11, d11, hsc, hsc', hav, hav', ← hs2, q1, q2, hn]
    · have hk' : ¬ (k : Int) = (k' : Int) := by omega
      simp [f11, d11, hsc, hsc', hav, hav', ← hs2, q1, q2, hk, hk']
end Go.Proofs.YtmkgmjdbgjiehaaDoor
namespace Go.Proofs.YtmkgmjdbgjiehaaDoor
open Go.Proofs.YtmkgmjdbgjiehaaDoor.Ab
set_option linter.unusedVariables false
set_option linter.unusedSimpArgs false
attribute [local simp] Gr.refl Gr.new Gr.set Gr.kill Nat.add_assoc r_ckk chk_x chk_n
variable {B : Int}
end Go.Proofs.YtmkgmjdbgjiehaaDoor
namespace Go.Proofs.YtmkgmjdbgjiehaaDoor.Ab
set_option linter.unusedVariables false
theorem er_kind (e : Ex) : (er e).kind = e.kind := by cases e; rw [er_mk]; rfl
theorem pcA_of {l : List Ex} (h : ∀ a ∈ l, pcB (er a) = pcB a) : pcA (l.map er) = pcA l := by
  induction l with
  | nil => rfl
  | cons a l ih =>
    simp only [List.map_cons, pcA]
    rw [ih fun x hx => h x (by simp [hx]), h a (by simp), er_kind]
theorem pcB_er : ∀ e : Ex, pcB (er e) = pcB e
  | .mk k nm m l a b => by
    rw [er_mk, pcB, pcB, pcA_of fun x hx => pcB_er x]
theorem sh_er (e : Ex) (n : Nat) : sh (er e) n = sh e n := by unfold sh pcE; rw [pcB_er, er_kind]
theorem sh_eq2 {a b : Ex} (h : er a = er b) (n : Nat) : sh a n = sh b n := by rw [← sh_er a, h, sh_er]
theorem prS_er (o : Option Ex) : prS (o.map er) = prS o := by
  cases o with
  | none => rfl
  | some e => simp only [Option.map_some, prS, sh_er]
theorem tyS_er {t u : Ty} (h : erT t = erT u) : tyS t = tyS u := by
  have h1 : t.base = u.base := by have := congrArg Ty.base h; exact this
  have h2 : t.len = u.len := by have := congrArg Ty.len h; exact this
  have h3 : t.pred.map er = u.pred.map er := by have := congrArg Ty.pred h; exact this
  unfold tyS baS
  rw [h1, h2, ← prS_er t.pred, h3, prS_er]
theorem pmS_er {k : Nat} {m p : Pm} (h : erP m = erP p) : pmS k m = pmS k p := by
  have h1 : m.name = p.name := by have := congrArg Pm.name h; exact this
  have h2 : erT m.ty = erT p.ty := by have := congrArg Pm.ty h; exact this
  unfold pmS
  rw [h1, tyS_er h2]
theorem pms_er {k : Nat} : ∀ {l m : List Pm}, l.map erP = m.map erP → l.map (pmS k) = m.map (pmS k)
  | [], [], _ => rfl
  | [], _ :: _, h => by simp at h
  | _ :: _, [], h => by simp at h
  | a :: l, b :: m, h => by
    simp only [List.map_cons, List.cons.injEq] at h ⊢
    exact ⟨pmS_er h.1, pms_er h.2⟩
theorem itS_er {a b : It} (h : erI a = erI b) : itS a = itS b ∧ er a.body = er b.body ∧ a.name = b.name ∧ a.params.length = b.params.length := by
  have h1 : a.kind = b.kind := by have := congrArg It.kind h; exact this
  have h2 : a.pub = b.pub := by have := congrArg It.pub h; exact this
  have h3 : a.name = b.name := by have := congrArg It.name h; exact this
  have h4 : a.params.map erP = b.params.map erP := by have := congrArg It.params h; exact this
  have h5 : erT a.result = erT b.result := by have := congrArg It.result h; exact this
  have h6 : er a.body = er b.body := by have := congrArg It.body h; exact this
  refine ⟨?_, h6, h3, by have := congrArg List.length h4; simpa using this⟩
  unfold itS heS
  rw [h1, h2, h3, tyS_er h5, sh_eq2 h6, pms_er (k := 1) h4, pms_er (k := 2) h4]
end Go.Proofs.YtmkgmjdbgjiehaaDoor.Ab
namespace Go.Proofs.YtmkgmjdbgjiehaaDoor
open Go.Proofs.YtmkgmjdbgjiehaaDoor.Ab
set_option linter.unusedVariables false
set_option linter.unusedSimpArgs false
attribute [local simp] Gr.refl Gr.new Gr.set Gr.kill Nat.add_assoc r_ckk chk_x chk_n
theorem print_ok2 {b : List UInt8} {it : It} (h : parseF b = .good it) (hb : b.length < 2 ^ 30) {s : St} (ht : Tab s) : ev ET 10 [.agg (itE BB it)] s = some (.ret (.str (itS it)), s) := by
  obtain ⟨h1, h2⟩ := parse_ok h
  exact print_ev rfl h1 (by omega) ht
theorem itS_small2 {b : List UInt8} {it : It} (h : parseF b = .good it) : (itS it).length ≤ 160 * b.length + 160 := by
  obtain ⟨h1, h2⟩ := parse_ok h
  have := itS_len h1
  omega
theorem itE_body (it : It) : ∃ a0 a1 a2 a3 a4 a5 a6, exE BB it.body = [a0, a1, a2, a3, a4, a5, a6] ∧ itE BB it = [.int .i64 it.kind, .bool it.pub, .str it.name, .int .i64 it.fr, .int .i64 it.to, parsV BB it.params, .int .i64 it.result.base, .int .i64 it.result.len, predV BB it.result.pred, .int .i64 it.result.fr, .int .i64 it.result.to, a0, a1, a2, a3, a4, a5, a6] := itE_ex BB it
end Go.Proofs.YtmkgmjdbgjiehaaDoor
namespace Go.Proofs.YtmkgmjdbgjiehaaDoor.Ab
set_option linter.unusedVariables false
set_option linter.unusedSimpArgs false
def gapF (turns : List Bool) (i : Nat) : List UInt8 := if turns[i]? = some true then [13, 10, 9] else [32, 47, 47, 32, 102, 110, 32, 40, 10]
def rep (turns : List Bool) : Nat → List UInt8 → List UInt8
  | _, [] => []
  | i, c :: t => (if c = 32 then gapF turns i else [c]) ++ rep turns (i + 1) t
theorem rep_app (turns : List Bool) : ∀ (a b : List UInt8) (i : Nat), rep turns i (a ++ b) = rep turns i a ++ rep turns (i + a.length) b
  | [], b, i => by simp [rep]
  | c :: a, b, i => by
    simp only [List.cons_append, rep, List.length_cons, List.append_assoc]
    rw [rep_app turns a b (i + 1), show i + 1 + a.length = i + (a.length + 1) by omega]
theorem rep_no (turns : List Bool) : ∀ (s : List UInt8) (i : Nat), (32 : UInt8) ∉ s → rep turns i s = s
  | [], i, _ => rfl
  | c :: s, i, h => by
    simp only [List.mem_cons, not_or] at h
    simp only [rep]
    rw [if_neg fun e => h.1 e.symm, rep_no turns s (i + 1) h.2]; rfl
theorem rep_len (turns : List Bool) : ∀ (s : List UInt8) (i : Nat), (rep turns i s).length ≤ 9 * s.length
  | [], i => by simp [rep]
  | c :: s, i => by
    have := rep_len turns s (i + 1)
    have h : (if c = 32 then gapF turns i else [c]).length ≤ 9 := by
      unfold gapF; split
      · split <;> simp
      · simp
    simp only [rep, List.length_append, List.length_cons]
    omega
theorem gap_turn (turns : List Bool) (i : Nat) : Gap (gapF turns i) := by
  unfold gapF
  split
  · exact ⟨fun rest => by simp [skipF, offB, blankB, slashB], 13, _, rfl, .inr rfl⟩
  · exact ⟨fun rest => by simp [skipF, offB, blankB, slashB], 32, _, rfl, .inl rfl⟩
theorem piece_32 {p : Pc} (h : pieceOK p) : (32 : UInt8) ∉ p.s := by
  obtain ⟨h1, h2⟩ := h
  obtain ⟨a, t, hs, hh⟩ := piece_cases h1 h2
  rw [hs]
  rw [hs] at hh
  rcases hh with ⟨_, hw, _⟩ | ⟨_, _, hw, _⟩ | ⟨g, g2, _, hsg⟩
  · intro h; have := takeWhile_all hw _ h; simp [goesB, smallB, digitB] at this
  · intro h; have := takeWhile_all hw _ h; simp [digitB] at this
  · rw [sign_cons] at hsg
    cases t with
    | nil =>
      intro h
      simp at h
      rw [← h] at hsg
      simp [twoS, oneL] at hsg
    | cons d u =>
      have hl : (a :: d :: u).length = u.length + 2 := rfl
      rw [hl] at hsg
      have ht : twoS a (d :: u) = true := by
        by_cases k : twoS a (d :: u) = true
        · exact k
        · rw [if_neg k] at hsg; split at hsg <;> omega
      rw [if_pos ht] at hsg
      have hu : u = [] := List.length_eq_zero_iff.1 (by omega)
      subst hu
      intro h
      simp only [List.mem_cons, List.not_mem_nil, or_false] at h
      rcases h with h | h
      · rw [← h] at ht; simp [twoS, twoB] at ht
      · rw [← h] at ht; simp [twoS, twoB] at ht
theorem ch_all : ∀ {ps : List Pc} {p0 : Pc}, Ch p0 ps → ∀ p ∈ ps, pieceOK p
  | [], _, _, p, hp => by simp at hp
  | q :: ps, p0, h, p, hp => by
    obtain ⟨_, h2, h3⟩ := h
    rcases List.mem_cons.1 hp with rfl | hp
    · exact h2
    · exact ch_all h3 p hp
theorem rep_fill (turns : List Bool) : ∀ (ps : List Pc) (i : Nat), (∀ p ∈ ps, (32 : UInt8) ∉ p.s) → ∃ gs, Fill ps gs ∧ txtG ps gs = rep turns i (txtP ps)
  | [], i, _ => ⟨[], trivial, rfl⟩
  | p :: ps, i, h => by
    obtain ⟨gs, h1, h2⟩ := rep_fill turns ps (i + p.txt.length) fun x hx => h x (by simp [hx])
    have hp := rep_no turns p.s (i + 1) (h p (by simp))
    have hp0 := rep_no turns p.s i (h p (by simp))
    by_cases hb : p.b = true
    · refine ⟨gapF turns i :: gs, ⟨by rw [if_pos hb]; exact gap_turn turns i, h1⟩, ?_⟩
      rw [txtP_cons, rep_app, ← h2]
      simp only [txtG, Pc.txt, if_pos hb, rep, if_true, hp, List.append_assoc]
    · refine ⟨[] :: gs, ⟨by rw [if_neg hb], h1⟩, ?_⟩
      rw [txtP_cons, rep_app, ← h2]
      simp only [txtG, Pc.txt, if_neg hb, hp0, List.nil_append]
theorem blanks_ok {it : It} (h : okI it) (turns : List Bool) :
    (∃ x y, parseF (rep turns 0 (itS it)) = .good x ∧ parseF (itS it) = .good y ∧ erI x = erI y ∧ erI y = erI it) ∨ ∃ a b a' b' e, parseF (rep turns 0 (itS it)) = .err a b e ∧ parseF (itS it) = .err a' b' e := by
  have hch := ch_item h (rest := []) trivial
  rw [List.append_nil] at hch
  obtain ⟨gs, h1, h2⟩ := rep_fill turns (itP it) 0 fun p hp => piece_32 (ch_all hch p hp)
  rw [itP_txt h] at h2
  rcases parse_like h h1 (ones_fill (itP it)) with ⟨x, y, a1, a2, a3⟩ | ⟨a, b, a', b', e, a1, a2⟩
  · rw [h2] at a1
    rw [ones_txt, itP_txt h] at a2
    refine .inl ⟨x, y, a1, a2, a3, ?_⟩
    rcases parse_back h with ⟨it', k1, k2⟩ | ⟨u, w, k⟩
    · rw [a2] at k1; cases k1; exact k2
    · rw [a2] at k; cases k
  · rw [h2] at a1
    rw [ones_txt, itP_txt h] at a2
    exact .inr ⟨a, b, a', b', e, a1, a2⟩
end Go.Proofs.YtmkgmjdbgjiehaaDoor.Ab
namespace Go.Proofs.YtmkgmjdbgjiehaaDoor
open Go.Proofs.YtmkgmjdbgjiehaaDoor.Ab
set_option linter.unusedVariables false
set_option linter.unusedSimpArgs false
attribute [local simp] Gr.refl Gr.new Gr.set Gr.kill Nat.add_assoc r_ckk chk_x chk_n
def BkQ (σ0 : St) (S out : List UInt8) (f' : Fr) (σ' : St) : Prop := ∃ v, Own σ0 σ' 1 v (out.map byteE) ∧ f'.ds = [] ∧ f'.env 8 = v ∧ f'.env 9 = .str S
set_option maxHeartbeats 1000000 in
theorem bk_loop {σ0 : St} {S : List UInt8} {turns : List Bool} {v1 : V} (hS : S.length ≤ 1000000) (hv1 : ∀ σ, Rd σ 1 v1 (turns.map fun b => [V.bool b])) {rs : List RC} {st : List SE} {B0 : D} (hB0 : B0 = b4_0) :
    ∀ (r : List UInt8) (i : Nat) (acc : List UInt8) (u : V) (f : Fr) (σ : St), S.drop i = r → i + r.length = S.length → acc.length ≤ 9 * i → Own σ0 σ 1 u (acc.map byteE) → f.ds = [] → f.env 1 = v1 → f.env 8 = u → f.env 9 = .str S → f.env 10 = .int .i64 i →
      Lands ET false rs st (BkQ σ0 S (acc ++ rep turns i r)) (run ET false rs (.d (.loop [1, 8, 9, 10] B0) :: .blk 0 :: st) f σ)
  | [], i, acc, u, f, σ, hdr, hi, ha, ho, hd, e1, e8, e9, e10 => by
    rw [r_loopU hB0]
    have h : ¬ i < S.length := by simp at hi; omega
    simp [b4_0, hd, e1, e8, e9, e10, h, rep]
    exact .here ⟨u, ho, by simp, by simp, by simp⟩
  | c :: r, i, acc, u, f, σ, hdr, hi, ha, ho, hd, e1, e8, e9, e10 => by
    rw [r_loopU hB0]
    obtain ⟨h1, h2, h3⟩ := at_drop hdr
    obtain ⟨_, hg⟩ := List.getElem?_eq_some_iff.1 h2
    have h64 : IntKind.i64.wrap ((i : Int) + 1) = ((i + 1 : Nat) : Int) := by rw [IntWalk.i64_in _ (by omega)]; omega
    have hlen := (hv1 σ).len
    simp only [List.length_map] at hlen
    have hi' : i < S.length := h1
    have fin : ∀ (g : List UInt8) (w : V) (τ : St), g.length ≤ 9 → Own σ0 τ 1 w ((acc ++ g).map byteE) → rep turns i (c :: r) = g ++ rep turns (i + 1) r → ∀ f', f'.ds = [] → f'.env 1 = v1 → f'.env 8 = w → f'.env 9 = .str S → f'.env 10 = .int .i64 ((i + 1 : Nat) : Int) →
        Lands ET false rs st (BkQ σ0 S (acc ++ rep turns i (c :: r))) (run ET false rs (.d (.loop [1, 8, 9, 10] B0) :: .blk 0 :: st) f' τ) := by
      intro g w τ hgl hw hr f' a b c' d e
      rw [hr, ← List.append_assoc]
      exact bk_loop hS hv1 hB0 r (i + 1) (acc ++ g) w f' τ h3 (by simp at hi; omega) (by simp; omega) hw a b c' d e
    obtain ⟨j, hj⟩ : ∃ k, k = i + 1 := ⟨_, rfl⟩
    rw [← hj] at h64 fin
    by_cases hc : c = 32
    · subst hc
      have hr : rep turns i (32 :: r) = gapF turns i ++ rep turns j r := by rw [hj]; simp [rep]
      by_cases ht : turns[i]? = some true
      · have hil : i < turns.length := (List.getElem?_eq_some_iff.1 ht).1
        have hgf : gapF turns i = [13, 10, 9] := by unfold gapF; rw [if_pos ht]
        have hat := (hv1 σ).at (k := .i64) (i := i) (by simpa using hil)
        have hld : ldV σ (elA v1 i) = some (.bool true) := (Rd.el (hv1 σ) (i := i) (e := [.bool true]) (by rw [List.getElem?_map, ht]; rfl)).trans rfl
        rw [hgf] at hr
        obtain ⟨w, τ, a1, a2, _⟩ := ho.appA (y := .str [13, 10, 9]) (ys := ([13, 10, 9] : List UInt8).map byteE) (by rfl) (bytes := 1) (by simp [reach]; omega) (by simp [reach]; omega)
        rw [← List.map_append] at a2
        simp [b4_0, hd, e1, e8, e9, e10, hi', hg, hlen, hil, hat, hld, a1, h64]
        exact fin _ w τ (by simp) a2 hr _ (by simp) (by simp) (by simp) (by simp) (by simp)
      · have hgf : gapF turns i = [32, 47, 47, 32, 102, 110, 32, 40, 10] := by unfold gapF; rw [if_neg ht]
        rw [hgf] at hr
        obtain ⟨w, τ, a1, a2, _⟩ := ho.appA (y := .str [32, 47, 47, 32, 102, 110, 32, 40, 10]) (ys := ([32, 47, 47, 32, 102, 110, 32, 40, 10] : List UInt8).map byteE) (by rfl) (bytes := 1) (by simp [reach]; omega) (by simp [reach]; omega)
        rw [← List.map_append] at a2
        by_cases hil : i < turns.length
        · have hat := (hv1 σ).at (k := .i64) (i := i) (by simpa using hil)
          have hf : turns[i]? = some false := by
            have := List.getElem?_eq_getElem hil
            cases hb : turns[i] with
            | true => rw [hb] at this; exact absurd this ht
            | false => rw [hb] at this; exact this
          have hld : ldV σ (elA v1 i) = some (.bool false) := (Rd.el (hv1 σ) (i := i) (e := [.bool false]) (by rw [List.getElem?_map, hf]; rfl)).trans rfl
          simp [b4_0, hd, e1, e8, e9, e10, hi', hg, hlen, hil, hat, hld, a1, h64]
          exact fin _ w τ (by simp) a2 hr _ (by simp) (by simp) (by simp) (by simp) (by simp)
        · simp [b4_0, hd, e1, e8, e9, e10, hi', hg, hlen, hil, a1, h64]
          exact fin _ w τ (by simp) a2 hr _ (by simp) (by simp) (by simp) (by simp) (by simp)
    · have hc' : ¬ (c.toNat : Int) = 32 := fun e => hc (by apply UInt8.toNat_inj.1; show c.toNat = 32; omega)
      have hc'' : ¬ c.toNat = 32 := by omega
      have hr : rep turns i (c :: r) = [c] ++ rep turns j r := by rw [hj]; simp [rep, hc]
      obtain ⟨w, τ, a1, a2⟩ := ho.app1 [[V.int .u8 c.toNat]] (by simp) (bytes := 1) (by simp [reach]; omega) (by simp [reach]; omega) (n := 1) rfl
      have a2' : Own σ0 τ 1 w ((acc ++ [c]).map byteE) := by rw [List.map_append]; exact a2
      simp [b4_0, hd, e1, e8, e9, e10, hi', hg, hc', hc'', a1, h64]
      exact fin _ w τ (by simp) a2' hr _ (by simp) (by simp) (by simp) (by simp) (by simp)
set_option maxHeartbeats 8000000 in
theorem blanks_ev {σ : St} {v v1 : V} {b : List UInt8} {turns : List Bool} (hv : Bs σ v b) (ho : v.old σ) (hv1 : ∀ σ, Rd σ 1 v1 (turns.map fun b => [V.bool b])) (ht : Tab σ) : ev ET 4 [v, v1] σ = some (.ret (.bool true), σ) := by
  have hp := fun (s : St) (g : Gr σ s) => parsed_ev (σ := s) (ht.gr g)
  have hlen := hv.len
  suffices h : ∃ τ, run ET false f4.res [.d f4.body] ⟨envOf [v, v1], []⟩ σ = some (.ret (.bool true), τ) ∧ Gr σ τ by
    obtain ⟨τ, h, g⟩ := h
    exact ev_pure (fd := f4) rfl (by simp [f4]) rfl h g.H g.W (by simp)
  have hp0 := hp σ (Gr.refl σ)
  by_cases hl : 1000 < b.length
  · have hl' : (1000 : Int) < (b.length : Int) := by omega
    exact ⟨σ, by simp [f4, d4, hp0, hlen, hl, hl'], Gr.refl σ⟩
  have hl' : ¬ (1000 : Int) < (b.length : Int) := by omega
  have p1 := parse_ev (E := ET) (B := BB) rfl rfl hv ho (by omega)
  cases h1 : parseF b with
  | err x y e =>
    rw [h1, errV] at p1
    have he : ¬ (e : Int) = 0 := by have := parse_err0 h1; omega
    have he' := parse_err0 h1
    obtain ⟨s2, hs2⟩ : ∃ s2, s2 = st2 σ z18 [.int .i64 x, .int .i64 y] := ⟨_, rfl⟩
    refine ⟨s2, ?_, by rw [hs2]; exact st2_gr _ _ _⟩
    have hs2' := hs2
    simp only [st2, z18, zz] at hs2'
    simp only [z18] at p1
    simp [f4, d4, hp0, hlen, hl, hl', p1, ← hs2', he, he']
  | good it =>
    rw [h1, goodV] at p1
    have hpr := fun (s : St) (g : Gr σ s) => print_ok2 h1 (by omega) (ht.gr g)
    have hsm := itS_small2 h1
    obtain ⟨i1, i2, i3⟩ := itE_ok BB it
    have hk := (parse_ok h1).1
    have hbl := blanks_ok hk turns
    have hrl := rep_len turns (itS it) 0
    obtain ⟨S, hS⟩ : ∃ S, S = itS it := ⟨_, rfl⟩
    simp only [← hS] at hpr hsm hbl hrl
    obtain ⟨ie, hie⟩ : ∃ ie, ie = itE BB it := ⟨_, rfl⟩
    simp only [← hie] at p1 hpr i1 i2
    have htk : ie.take 18 = ie := List.take_of_length_le (by omega)
    have hdr : ie.drop 18 = [] := List.drop_eq_nil_of_le (by omega)
    obtain ⟨s2, hs2⟩ : ∃ s2, s2 = st2 σ ie zz := ⟨_, rfl⟩
    have g2 : Gr σ s2 := by rw [hs2]; exact st2_gr _ _ _
    have m2 : s2.H σ.n = some (.row 18 [ie]) := by rw [hs2]; exact st2_a _ _ _
    have hpr2 := hpr s2 g2
    have hloop := fun (rs : List RC) (st : List SE) f' a b c d e => bk_loop (S := S) (by omega) hv1 (B0 := b4_0) rfl (rs := rs) (st := st) S 0 [] .nils f' s2 rfl (by simp) (by simp) (Own.nils s2 1) a b c d e
    simp only [List.nil_append] at hloop
    simp only [st2, z18, zz] at hs2
    have p1' := p1
    simp only [zz] at p1'
    simp [f4, d4, hp0, hlen, hl, hl', p1', ← hs2, i1, eq_true i2, hdr, htk, m2, hpr2]
    refine Lands.to (C := fun r => ∃ τ, r = some (CO.ret (V.bool true), τ) ∧ Gr σ τ) (hloop _ _ _ (by simp) (by simp) (by simp) (by simp) (by simp)) fun f' σ' ⟨u, b1, b2, b3, b4⟩ => ?_
    have g3 : Gr σ σ' := g2.trans b1.gr
    obtain ⟨R, hR⟩ : ∃ R, R = rep turns 0 S := ⟨_, rfl⟩
    rw [← hR] at b1 hbl hrl
    have p3 := parse_ev (E := ET) (B := BB) rfl rfl (σ := σ') (v := u) (b := R) b1.rd b1.old (by omega)
    rcases hbl with ⟨x, y, k1, k2, k3, k4⟩ | ⟨a, c, a', c', e, k1, k2⟩
    · rw [k1, goodV] at p3
      have hkx := (parse_ok k1).1
      have hky := (parse_ok k2).1
      obtain ⟨t1, t2, t3, t4⟩ := itS_er k3
      obtain ⟨t5, _, _, _⟩ := itS_er k4
      have hprx := fun (s : St) (g : Gr σ s) => print_ok2 k1 (by omega) (ht.gr g)
      rw [t1, t5, ← hS] at hprx
      have heq := fun σ' : St => equal_ev (B := BB) rfl x.body y.body hkx.2.1 hky.2.1 σ'
      rw [show eqB x.body y.body = true from by unfold eqB; simp [t2]] at heq
      obtain ⟨x1, x2, _⟩ := itE_ok BB x
      obtain ⟨y1, y2, _⟩ := itE_ok BB y
      obtain ⟨a0, a1, a2, a3, a4, a5, a6, hxe, hxi⟩ := itE_body x
      obtain ⟨c0, c1, c2, c3, c4, c5, c6, hye, hyi⟩ := itE_body y
      unfold exV at heq
      rw [hxe, hye] at heq
      obtain ⟨xe, hxe'⟩ : ∃ e, e = itE BB x := ⟨_, rfl⟩
      obtain ⟨ye, hye'⟩ : ∃ e, e = itE BB y := ⟨_, rfl⟩
      rw [← hxe'] at x1 x2 hxi p3
      simp only [← hxe'] at hprx
      rw [← hye'] at y1 y2 hyi
      obtain ⟨s4, hs4⟩ : ∃ s4, s4 = st2 σ' xe zz := ⟨_, rfl⟩
      have g4' : Gr σ' s4 := by rw [hs4]; exact st2_gr _ _ _
      have g4 := g3.trans g4'
      have m4 : s4.H σ'.n = some (.row 18 [xe]) := by rw [hs4]; exact st2_a _ _ _
      have n4 : s4.n = σ'.n + 2 := by rw [hs4]; exact st2_n _ _ _
      obtain ⟨s5, hs5⟩ : ∃ s5, s5 = s4.new (.row 1 (S.map byteE)) := ⟨_, rfl⟩
      have g5 : Gr σ s5 := by rw [hs5]; exact g4.new _
      have n5 : s5.n = σ'.n + 3 := by rw [hs5]; simp [n4]
      have p5 := parse_str (σ := s4) (s := S) (by omega)
      rw [← hs5, k2, goodV, ← hye'] at p5
      obtain ⟨s6, hs6⟩ : ∃ s6, s6 = st2 s5 ye zz := ⟨_, rfl⟩
      have g6 : Gr σ s6 := by rw [hs6]; exact g5.trans (st2_gr _ _ _)
      have m6 : s6.H s5.n = some (.row 18 [ye]) := by rw [hs6]; exact st2_a _ _ _
      have m5 : s5.H σ'.n = some (.row 18 [xe]) := by rw [hs5]; simp [show ¬ σ'.n = s4.n by omega, m4]
      have m7 : s6.H σ'.n = some (.row 18 [xe]) := by rw [hs6, (st2_gr s5 ye zz).H _ (by omega)]; exact m5
      have hpr6 := hprx s6 g6
      refine ⟨s6, ?_, g6⟩
      have q1 : xe.take 18 = xe := List.take_of_length_le (by omega)
      have q2 : xe.drop 18 = [] := List.drop_eq_nil_of_le (by omega)
      have q3 : ye.take 18 = ye := List.take_of_length_le (by omega)
      have q4 : ye.drop 18 = [] := List.drop_eq_nil_of_le (by omega)
      have q5 : (xe.drop 11).take 7 = [a0, a1, a2, a3, a4, a5, a6] := by rw [hxi]; rfl
      have q6 : (ye.drop 11).take 7 = [c0, c1, c2, c3, c4, c5, c6] := by rw [hyi]; rfl
      simp only [st2, z18, zz] at hs4 hs6
      simp only [zz] at p3 p5
      simp [b2, b3, b4, p3, x1, eq_true x2, q1, q2, ← hs4, ← hs5, p5, y1, eq_true y2, q3, q4, ← hs6, m6, m7, hpr6, q5, q6, heq, f4]
    · rw [k1, errV] at p3
      obtain ⟨s4, hs4⟩ : ∃ s4, s4 = st2 σ' z18 [.int .i64 a, .int .i64 c] := ⟨_, rfl⟩
      have g4 : Gr σ s4 := by rw [hs4]; exact g3.trans (st2_gr _ _ _)
      obtain ⟨s5, hs5⟩ : ∃ s5, s5 = s4.new (.row 1 (S.map byteE)) := ⟨_, rfl⟩
      have g5 : Gr σ s5 := by rw [hs5]; exact g4.new _
      have p5 := parse_str (σ := s4) (s := S) (by omega)
      rw [← hs5, k2, errV] at p5
      obtain ⟨s6, hs6⟩ : ∃ s6, s6 = st2 s5 z18 [.int .i64 a', .int .i64 c'] := ⟨_, rfl⟩
      refine ⟨s6, ?_, by rw [hs6]; exact g5.trans (st2_gr _ _ _)⟩
      have he : ¬ (e : Int) = 0 := by have := parse_err0 k1; omega
      have he' := parse_err0 k1
      simp only [st2, z18, zz] at hs4 hs6
      simp only [z18] at p3 p5
      simp [b2, b3, b4, p3, ← hs4, ← hs5, p5, ← hs6, he, he', f4]
end Go.Proofs.YtmkgmjdbgjiehaaDoor
