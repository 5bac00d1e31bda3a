/-
The walk over the program's texts, told with what its values say: a part of it. No further condition.
-/
import Derived.Test.YtmkgmjdbgjiehaaDoorAbSwG
import Derived.Test.YtmkgmjdbgjiehaaDoorAbO
import Derived.Test.YtmkgmjdbgjiehaaDoorShelf
namespace Go.Proofs.YtmkgmjdbgjiehaaDoor
open Go.Proofs.YtmkgmjdbgjiehaaDoor.Ab
set_option linter.unusedVariables false
set_option linter.unusedSimpArgs false
attribute [local simp] Gr.refl Gr.new Gr.set Gr.kill Nat.add_assoc r_ckk chk_x chk_n
variable {B : Int}
open Classical in
noncomputable def eqB (a b : Ex) : Bool := decide (er a = er b)
open Classical in
noncomputable def eqBs (a b : List Ex) : Bool := decide (a.map er = b.map er)
theorem eqBs_nil : eqBs [] [] = true := by simp [eqBs]
theorem eqBs_cons (a b : Ex) (l m : List Ex) : eqBs (a :: l) (b :: m) = (eqB a b && eqBs l m) := by
  unfold eqBs eqB
  rw [Bool.eq_iff_iff]
  simp only [Bool.and_eq_true, decide_eq_true_iff]
  simp
theorem eqB_mk {k k' m m' : Nat} {nm nm' : List UInt8} {l l' : List Ex} {a b a' b' : Nat} : eqB (.mk k nm m l a b) (.mk k' nm' m' l' a' b') = (decide (k = k') && decide (nm = nm') && decide (m = m') && eqBs l l') := by
  unfold eqB eqBs
  rw [er_mk, er_mk]
  rw [Bool.eq_iff_iff]
  simp only [Bool.and_eq_true, decide_eq_true_iff]
  simp [and_assoc]
theorem eqBs_len {l m : List Ex} (h : l.length ≠ m.length) : eqBs l m = false := by
  unfold eqBs
  simp only [decide_eq_false_iff_not]
  intro e
  have := congrArg List.length e
  simp at this
  exact h this
theorem eq_loop {la lb : List Ex} {s2 : St} {p q : Nat} {a0 a1 a2 a3 a5 a6 b0 b1 b2 b3 b5 b6 : V} (hl : la.length = lb.length) (hs : la.length ≤ 1000) (hp : s2.H p = some (.row 7 [[a0, a1, a2, a3, argV (exsE B la), a5, a6]])) (hq : s2.H q = some (.row 7 [[b0, b1, b2, b3, argV (exsE B lb), b5, b6]]))
    (hw : ∀ x ∈ la, ∀ y ∈ lb, ∀ σ, ev ET 11 [exV B x, exV B y] σ = some (.ret (.bool (eqB x y)), σ)) {st : List SE} (hst : ∀ f, run ET false [.t 4] (.d .ret :: st) f s2 = run ET false [.t 4] [.d .ret] f s2) {B0 : D} (hB0 : B0 = b11_0)
    (K : ∀ f' : Fr, f'.ds = [] → run ET false [.t 4] st f' s2 = some (.ret (.bool true), s2)) :
    ∀ (ra rb : List Ex) (i : Nat) (f : Fr), la.drop i = ra → lb.drop i = rb → i + ra.length = la.length → f.ds = [] → f.env 2 = .ptr p 0 0 → f.env 3 = .ptr q 0 0 → f.env 37 = .int .i64 la.length → f.env 38 = .int .i64 i →
      run ET false [.t 4] (.d (.loop [2, 3, 37, 38] B0) :: .blk 0 :: st) f s2 = some (.ret (.bool (eqBs ra rb)), s2)
  | [], rb, i, f, hda, hdb, hi, hd, e2, e3, e37, e38 => by
    have hrb : rb = [] := by
      rw [← hdb]; apply List.drop_eq_nil_of_le; simp at hi; omega
    subst hrb
    rw [r_loopU hB0, eqBs_nil]
    have h : ¬ i < la.length := by simp at hi; omega
    simp [b11_0, hd, e2, e3, e37, e38, h]
    exact K _ (by simp)
  | x :: ra, [], i, f, hda, hdb, hi, hd, e2, e3, e37, e38 => by
    have := congrArg List.length hdb
    simp at this hi
    omega
  | x :: ra, y :: rb, i, f, hda, hdb, hi, hd, e2, e3, e37, e38 => by
    rw [r_loopU hB0]
    have hlt : i < la.length := by simp at hi; omega
    have hlt' : i < lb.length := by omega
    have hga : la[i]? = some x := by have := congrArg (·[0]?) hda; simpa using this
    have hgb : lb[i]? = some y := by have := congrArg (·[0]?) hdb; simpa using this
    have hda' : la.drop (i + 1) = ra := by rw [← List.drop_drop, hda]; rfl
    have hdb' : lb.drop (i + 1) = rb := by rw [← List.drop_drop, hdb]; rfl
    have hxy := hw x (List.mem_of_getElem? hga) y (List.mem_of_getElem? hgb)
    have h64 : IntKind.i64.wrap ((i : Int) + 1) = ((i + 1 : Nat) : Int) := by rw [IntWalk.i64_in _ (by omega)]; omega
    have ata := fun σ' : St => ((argV_tl B la).rd (σ := σ')).at (k := .i64) (i := i) (by simpa using hlt)
    have atb := fun σ' : St => ((argV_tl B lb).rd (σ := σ')).at (k := .i64) (i := i) (by simpa using hlt')
    have lda := fun σ' : St => ((argV_tl B la).rd (σ := σ')).lda (show (la.map (exE B))[i]? = some (exE B x) by rw [List.getElem?_map, hga]; rfl) (m := 7) (exE_len B x).symm
    have ldb := fun σ' : St => ((argV_tl B lb).rd (σ := σ')).lda (show (lb.map (exE B))[i]? = some (exE B y) by rw [List.getElem?_map, hgb]; rfl) (m := 7) (exE_len B y).symm
    have ih := fun f' => eq_loop hl hs hp hq hw hst hB0 K ra rb (i + 1) f' hda' hdb' (by simp at hi; omega)
    obtain ⟨i', hi'⟩ : ∃ k, k = i + 1 := ⟨_, rfl⟩
    simp only [← hi'] at h64 ih
    obtain ⟨va, hva⟩ : ∃ v, v = argV (exsE B la) := ⟨_, rfl⟩
    obtain ⟨vb, hvb⟩ : ∃ v, v = argV (exsE B lb) := ⟨_, rfl⟩
    rw [← hva] at hp ata lda
    rw [← hvb] at hq atb ldb
    unfold exV at hxy
    rw [eqBs_cons]
    cases hc : eqB x y with
    | true =>
      rw [hc] at hxy
      simp [b11_0, hd, e2, e3, e37, e38, hlt, hp, hq, ata, atb, lda, ldb, hxy, h64]
      exact ih _ (by simp) (by simp) (by simp) (by simp) (by simp)
    | false =>
      rw [hc] at hxy
      simp [b11_0, hd, e2, e3, e37, e38, hlt, hp, hq, ata, atb, lda, ldb, hxy, h64, hst]
set_option maxHeartbeats 2000000 in
theorem equal_ev (hB : B = 4294967296) : ∀ a b : Ex, Okx a → Okx b → ∀ σ, ev ET 11 [exV B a, exV B b] σ = some (.ret (.bool (eqB a b)), σ)
  | .mk k nm m l fr to, .mk k' nm' m' l' fr' to', ha, hb, σ => by
    rw [Okx] at ha hb
    have ih : ∀ x ∈ l, ∀ y ∈ l', ∀ σ, ev ET 11 [exV B x, exV B y] σ = some (.ret (.bool (eqB x y)), σ) := fun x hx y hy σ => equal_ev hB x y (Okxs_mem ha.2 x hx) (Okxs_mem hb.2 y hy) σ
    have hll : l.length ≤ 6 := by have := ha.1; unfold wfK at this; omega
    have h2 : (2 : Int) ≤ B := by omega
    have hml : m < 10 ^ 40 := by have := ha.1; unfold wfK at this; omega
    have hml' : m' < 10 ^ 40 := by have := hb.1; unfold wfK at this; omega
    have c1 : (cn B (m : Int)).length ≤ 5 := cn_length h2 (by subst hB; omega)
    have c2 : (cn B (m' : Int)).length ≤ 5 := cn_length h2 (by subst hB; omega)
    have hsc : (magV B (m : Int)).scal = true := magV_scal
    have hsc' : (magV B (m' : Int)).scal = true := magV_scal
    have hav := argV_scal (exsE B l)
    have hav' := argV_scal (exsE B l')
    have hlen := ((argV_tl B l).rd (σ := σ)).len
    have hlen' := ((argV_tl B l').rd (σ := σ)).len
    simp only [List.length_map] at hlen hlen'
    obtain ⟨s2, hs2⟩ : ∃ s2, s2 = (σ.new (.row 7 [exE B (.mk k nm m l fr to)])).new (.row 7 [exE B (.mk k' nm' m' l' fr' to')]) := ⟨_, rfl⟩
    obtain ⟨x, hx, hx0⟩ := bcmp_ev hB (σ := s2) m m' (by omega) (by omega)
    refine ev_pure (fd := f11) (o := .ret (.bool (eqB (.mk k nm m l fr to) (.mk k' nm' m' l' fr' to')))) (σ' := s2) rfl (by simp [f11]) rfl ?_ (fun j hj => by rw [hs2]; simp [show j ≠ σ.n by omega, show j ≠ σ.n + 1 by omega]) (by rw [hs2]; rfl) (by simp)
    have q1 : s2.H σ.n = some (.row 7 [exE B (.mk k nm m l fr to)]) := by rw [hs2]; simp
    have q2 : s2.H (σ.n + 1) = some (.row 7 [exE B (.mk k' nm' m' l' fr' to')]) := by rw [hs2]; simp
    simp only [exV, exE] at hs2 q1 q2 ⊢
    have hloop := fun (hl : l.length = l'.length) (st : List SE) hst K f' a b c d e => eq_loop (B := B) hl (by omega) q1 q2 ih (B0 := b11_0) (st := st) hst rfl K l l' 0 f' rfl rfl (by simp) a b c d e
    rw [eqB_mk]
    unfold numV at hx
    obtain ⟨va, hva⟩ : ∃ v, v = argV (exsE B l) := ⟨_, rfl⟩
    obtain ⟨vb, hvb⟩ : ∃ v, v = argV (exsE B l') := ⟨_, rfl⟩
    rw [← hva] at hav hlen hs2 q1 ⊢
    rw [← hvb] at hav' hlen' hs2 q2 ⊢
    by_cases hk : k = k'
    · by_cases hn : nm = nm'
      · by_cases hm : m = m'
        · have hx1 : x = 0 := hx0.2 hm
          subst hk; subst hn; subst hm; subst hx1
          by_cases hl : l.length = l'.length
          · have hl' : (l.length : Int) = (l'.length : Int) := by omega
            rw [hl'] at hlen
            simp [f11, d11, hsc, hsc', hav, hav', ← hs2, q1, q2, hx, hlen, hlen']
            exact hloop hl _ (fun f => by simp) (fun f' h => by simp [h]) _ (by simp) (by simp) (by simp) (by simp [hl]) (by simp)
          · have hl' : ¬ (l.length : Int) = (l'.length : Int) := by omega
            rw [eqBs_len hl]
            simp [f11, d11, hsc, hsc', hav, hav', ← hs2, q1, q2, hx, hlen, hlen', hl, hl']
        · have hx1 : ¬ x = 0 := fun h => hm (hx0.1 h)
          subst hk; subst hn
          simp [f11, d11, hsc, hsc', hav, hav', ← hs2, q1, q2, hx, hm, hx1]
      · subst hk
        simp [f11, d11, hsc, hsc', hav, hav', ← hs2, q1, q2, hn]
    · have hk' : ¬ (k : Int) = (k' : Int) := by omega
      simp [f11, d11, hsc, hsc', hav, hav', ← hs2, q1, q2, hk, hk']
end Go.Proofs.YtmkgmjdbgjiehaaDoor
namespace Go.Proofs.YtmkgmjdbgjiehaaDoor
open Go.Proofs.YtmkgmjdbgjiehaaDoor.Ab
set_option linter.unusedVariables false
set_option linter.unusedSimpArgs false
attribute [local simp] Gr.refl Gr.new Gr.set Gr.kill Nat.add_assoc r_ckk chk_x chk_n
variable {B : Int}
def zA : List V := [.int .i64 0, .str [], .bool false, .nils, .nils, .int .i64 0, .int .i64 0]
def BQ (B : Int) (σ0 : St) (p q : Nat) (c0 c1 c2 c3 : V) (l : List Ex) (f' : Fr) (σ' : St) : Prop :=
  ∃ u, Own σ0 σ' 7 u (l.map fun e => exE B (er e)) ∧ σ'.H q = some (.row 7 [[c0, c1, c2, c3, u, .int .i64 0, .int .i64 0]]) ∧ σ'.H p = some (.row 7 [zA]) ∧ (l = [] → u = .nils) ∧ (∀ k, u.row = some k → q < k) ∧ f'.ds = [] ∧ f'.env 2 = .ptr p 0 0 ∧ f'.env 3 = .ptr q 0 0
set_option maxHeartbeats 1000000 in
theorem bx_loop {σ0 : St} {p q : Nat} {c0 c1 c2 c3 : V} {l : List Ex} (hl : l.length ≤ 1000) (h0 : c0.scal = true) (h1 : c1.scal = true) (h2 : c2.scal = true) (h3 : c3.scal = true) (hpq : p < q) (hp0 : σ0.n ≤ p)
    (hw : ∀ e ∈ l, ∀ σ, ev ET 15 [exV B e] σ = some (.ret (exV B (er e)), σ)) {rs : List RC} {st : List SE} {B0 : D} (hB0 : B0 = b15_0) :
    ∀ (r : List Ex) (i : Nat) (u : V) (f : Fr) (σ : St), l.drop i = r → i + r.length = l.length → Own σ0 σ 7 u ((l.take i).map fun e => exE B (er e)) → (∀ k, u.row = some k → q < k) → σ.H q = some (.row 7 [[c0, c1, c2, c3, u, .int .i64 0, .int .i64 0]]) → σ.H p = some (.row 7 [zA]) → q < σ.n → (l = [] → u = .nils) →
      f.ds = [] → f.env 2 = .ptr p 0 0 → f.env 3 = .ptr q 0 0 → f.env 15 = argV (exsE B l) → f.env 16 = .int .i64 l.length → f.env 17 = .int .i64 i →
      Lands ET false rs st (BQ B σ0 p q c0 c1 c2 c3 l) (run ET false rs (.d (.loop [2, 3, 15, 16, 17] B0) :: .blk 0 :: st) f σ)
  | [], i, u, f, σ, hdr, hi, ho, hu, hq, hp, hqn, hz, hd, e2, e3, e15, e16, e17 => by
    rw [r_loopU hB0]
    have h : ¬ i < l.length := by simp at hi; omega
    simp [b15_0, hd, e2, e3, e15, e16, e17, h]
    refine .here ⟨u, ?_, hq, hp, hz, hu, by simp, by simp, by simp⟩
    rwa [List.take_of_length_le (by omega)] at ho
  | e :: r, i, u, f, σ, hdr, hi, ho, hu, hq, hp, hqn, hz, hd, e2, e3, e15, e16, e17 => by
    rw [r_loopU hB0]
    have hlt : i < l.length := by simp at hi; omega
    have hge : l[i]? = some e := by have := congrArg (·[0]?) hdr; simpa using this
    have hdr' : l.drop (i + 1) = r := by rw [← List.drop_drop, hdr]; rfl
    have hwe := hw e (List.mem_of_getElem? hge)
    have h64 : IntKind.i64.wrap ((i : Int) + 1) = ((i + 1 : Nat) : Int) := by rw [IntWalk.i64_in _ (by omega)]; omega
    have hat := fun σ' : St => ((argV_tl B l).rd (σ := σ')).at (k := .i64) (i := i) (by simpa using hlt)
    have hlda := fun σ' : St => ((argV_tl B l).rd (σ := σ')).lda (show (l.map (exE B))[i]? = some (exE B e) by rw [List.getElem?_map, hge]; rfl) (m := 7) (exE_len B e).symm
    obtain ⟨v, hv⟩ : ∃ v, v = argV (exsE B l) := ⟨_, rfl⟩
    rw [← hv] at hat hlda e15
    have hx := exE_len B e
    have hxs := exE_sc B e
    have htk : (exE B e).take 7 = exE B e := exE_take B e
    have hx' := exE_len B (er e)
    have hxs' := exE_sc B (er e)
    have htk' : (exE B (er e)).take 7 = exE B (er e) := exE_take B (er e)
    unfold exV at hwe
    have husc : u.scal = true := ho.rd.scal
    obtain ⟨s1, hs1⟩ : ∃ s1, s1 = (σ.new (.row 7 [zA])).set σ.n (.row 7 [exE B e]) := ⟨_, rfl⟩
    have g1 : Gr σ s1 := by rw [hs1]; exact ((Gr.refl σ).new _).set (Nat.le_refl _) _
    have hs1H : s1.H σ.n = some (.row 7 [exE B e]) := by rw [hs1]; simp
    have hs1q : s1.H q = some (.row 7 [[c0, c1, c2, c3, u, .int .i64 0, .int .i64 0]]) := by rw [g1.H q hqn]; exact hq
    have hn1 : s1.n = σ.n + 1 := by rw [hs1]; rfl
    have hwe1 := hwe s1
    obtain ⟨s2, hs2⟩ : ∃ s2, s2 = s1.new (.row 7 [exE B (er e)]) := ⟨_, rfl⟩
    have hs2q : s2.H q = some (.row 7 [[c0, c1, c2, c3, u, .int .i64 0, .int .i64 0]]) := by rw [hs2]; simp [show ¬ q = s1.n by omega, hs1q]
    obtain ⟨w, τ, a1, a2, a3, a4, a5⟩ := (ho.step g1).app1N [exE B (er e)] (by simp) (bytes := 96) (by simp [reach]; omega) (by simp [reach]; omega) (n := 1) rfl
    rw [← hs2] at a1
    have hune : u.row ≠ some q := fun h => by have := hu q h; omega
    have hunp : u.row ≠ some p := fun h => by have := hu p h; omega
    have hτq : τ.H q = some (.row 7 [[c0, c1, c2, c3, u, .int .i64 0, .int .i64 0]]) := by rw [a5 q (by omega) hune]; exact hs1q
    have hτp : τ.H p = some (.row 7 [zA]) := by rw [a5 p (by omega) hunp, g1.H p (by omega)]; exact hp
    have hwsc : w.scal = true := a2.rd.scal
    obtain ⟨s3, hs3⟩ : ∃ s3, s3 = τ.set q (.row 7 [[c0, c1, c2, c3, w, .int .i64 0, .int .i64 0]]) := ⟨_, rfl⟩
    have hwr : ∀ k, w.row = some k → q < k := fun k hk => by have := a3 k hk; omega
    have ho3 : Own σ0 s3 7 w ((l.take (i + 1)).map fun e => exE B (er e)) := by
      rw [List.take_add_one, hge, List.map_append, hs3]
      refine ⟨a2.sl.mono fun k hk => ?_, a2.gr.set (by omega) _, fun k hk => by have := a2.lo k hk; simpa using this⟩
      have := hwr k hk
      simp [show ¬ k = q by omega]
    have ih := fun f' => bx_loop hl h0 h1 h2 h3 hpq hp0 hw (rs := rs) (st := st) hB0 r (i + 1) w f' s3 hdr' (by simp at hi; omega) ho3 hwr (by rw [hs3]; simp) (by rw [hs3]; simp [show ¬ p = q by omega, hτp]) (by rw [hs3]; simp; omega) (fun h => by rw [h] at hlt; simp at hlt)
    obtain ⟨i', hi'⟩ : ∃ k, k = i + 1 := ⟨_, rfl⟩
    simp only [← hi'] at h64 ih
    simp only [zA] at hs1
    simp [b15_0, hd, e2, e3, e15, e16, e17, hlt, hat, hlda, hx, eq_true hxs, ← hs1, hs1H, htk, hs1q, husc, hwe1, hx', eq_true hxs', htk', ← hs2, hs2q, a1, hτq, hwsc, cells_scal hwsc, ← hs3, h64]
    exact ih _ (by simp) (by simp) (by simp) (by simp [hv]) (by simp) (by simp)
theorem told_argV {σ0 σ : St} {u : V} {l : List Ex} (h : Own σ0 σ 7 u (l.map fun e => exE B (er e))) (hz : l = [] → u = .nils) : told 7 u (l.map fun e => exE B (er e)) = argV (exsE B (l.map er)) := by
  have e : exsE B (l.map er) = l.map fun e => exE B (er e) := by rw [exsE_map, List.map_map]; rfl
  rw [e]
  cases l with
  | nil => rw [hz rfl]; rfl
  | cons x l =>
    rw [told_is (fun hu => by rcases h.sl with ⟨_, hh⟩ | ⟨k, hh, _⟩; simp at hh; rw [hu] at hh; cases hh)]
    rfl
set_option maxHeartbeats 1000000 in
theorem bareX_ev (hB : B = 4294967296) : ∀ e : Ex, Okx e → ∀ σ, ev ET 15 [exV B e] σ = some (.ret (exV B (er e)), σ)
  | .mk k nm m l fr to, he, σ => by
    rw [Okx] at he
    have hw : ∀ x ∈ l, ∀ σ, ev ET 15 [exV B x] σ = some (.ret (exV B (er x)), σ) := fun x hx σ => bareX_ev hB x (Okxs_mem he.2 x hx) σ
    have hll : l.length ≤ 6 := by have := he.1; unfold wfK at this; omega
    have h2 : (2 : Int) ≤ B := by omega
    have hml : m < 10 ^ 40 := by have := he.1; unfold wfK at this; omega
    have c1 : (cn B (m : Int)).length ≤ 5 := cn_length h2 (by subst hB; omega)
    have hsc : (magV B (m : Int)).scal = true := magV_scal
    have hav := argV_scal (exsE B l)
    have hlen := ((argV_tl B l).rd (σ := σ)).len
    simp only [List.length_map] at hlen
    have hnrm := fun σ' : St => bnormI_ev (E := ET) rfl hB (σ := σ') (m : Int) (by simpa using (show (cn B (m : Int)).length < 2 ^ 40 by omega))
    simp only [← numV_int] at hnrm
    unfold numV at hnrm
    refine ev_cut (fd := f15) rfl (by simp [f15]) rfl ?_
    obtain ⟨s3, hs3⟩ : ∃ s3, s3 = (((σ.new (.row 7 [exE B (.mk k nm m l fr to)])).new (.row 7 [zA])).new (.row 7 [zA])).set (σ.n + 2) (.row 7 [[.int .i64 k, .str nm, .bool false, magV B m, .nils, .int .i64 0, .int .i64 0]]) := ⟨_, rfl⟩
    have g3 : Gr σ s3 := by rw [hs3]; exact ((((Gr.refl σ).new _).new _).new _).set (by omega) _
    have q0 : s3.H σ.n = some (.row 7 [exE B (.mk k nm m l fr to)]) := by rw [hs3]; simp
    have q1 : s3.H (σ.n + 1) = some (.row 7 [zA]) := by rw [hs3]; simp
    have q2 : s3.H (σ.n + 2) = some (.row 7 [[.int .i64 k, .str nm, .bool false, magV B m, .nils, .int .i64 0, .int .i64 0]]) := by rw [hs3]; simp
    have hown : Own σ s3 7 .nils ((l.take 0).map fun e => exE B (er e)) := (Own.nils σ 7).step g3
    have hloop := fun (rs : List RC) (st : List SE) f' a b c d e g => bx_loop (B := B) (by omega) rfl rfl rfl hsc (show σ.n + 1 < σ.n + 2 by omega) (by omega) hw (B0 := b15_0) rfl (rs := rs) (st := st) l 0 .nils f' s3 rfl (by simp) hown (fun k hk => by simp [V.row] at hk) q2 q1 (by rw [hs3]; simp) (fun _ => rfl) a b c d e g
    rw [show exV B (er (.mk k nm m l fr to)) = .agg [.int .i64 k, .str nm, .bool false, magV B m, argV (exsE B (l.map er)), .int .i64 0, .int .i64 0] from by rw [er_mk]; rfl]
    simp only [exV, exE, zA] at hs3 q0 q1 ⊢
    obtain ⟨va, hva⟩ : ∃ v, v = argV (exsE B l) := ⟨_, rfl⟩
    rw [← hva] at hav hlen hs3 q0 ⊢
    simp only [← hva] at hloop
    obtain ⟨mv, hmv⟩ : ∃ mv, mv = magV B (m : Int) := ⟨_, rfl⟩
    rw [← hmv] at hsc hs3 q0 q2 ⊢
    simp only [← hmv] at hnrm hloop
    simp [f15, d15, hsc, hav, hnrm, ← hs3, q0, hlen]
    refine Lands.to (C := fun r => r = some (CO.ret (V.agg [.int .i64 k, .str nm, .bool false, mv, argV (exsE B (l.map er)), .int .i64 0, .int .i64 0]), σ)) (hloop _ _ _ (by simp) (by simp) (by simp) (by simp) (by simp) (by simp)) fun f' σ' ⟨u, b1, b2, b3, b4, b8, b5, b6, b7⟩ => ?_
    have husc : u.scal = true := b1.rd.scal
    simp only [zA] at b3
    simp [b5, b6, b7, b2, b3, hsc, husc, cells_scal hsc, cells_scal husc]
    have htold := told_argV b1 b4
    have hfz := (b1.sl.mono (σ' := σ'.set (σ.n + 1) (.row 7 [[.int .i64 k, .str nm, .bool false, mv, u, .int .i64 0, .int .i64 0]])) (fun j hj => by have := b8 j hj; simp [show ¬ j = σ.n + 1 by omega])).frz (n := fun j => decide (j < σ.n)) (fun j hj => by have := (b1.lo j hj).1; simp; omega) (fun es hes v hv => by obtain ⟨x, _, rfl⟩ := List.mem_map.1 hes; exact exE_pure B _ v hv) 1099511627775
    refine cut_pure (fun j hj => by simp [show ¬ j = σ.n + 1 by omega, b1.gr.H j hj]) (by simp [b1.gr.W]) ?_
    rw [htold] at hfz
    subst hmv
    simp [hfz, magV_frz]
end Go.Proofs.YtmkgmjdbgjiehaaDoor
namespace Go.Proofs.YtmkgmjdbgjiehaaDoor.Ab
set_option linter.unusedVariables false
theorem er_kind (e : Ex) : (er e).kind = e.kind := by cases e; rw [er_mk]; rfl
theorem pcA_of {l : List Ex} (h : ∀ a ∈ l, pcB (er a) = pcB a) : pcA (l.map er) = pcA l := by
  induction l with
  | nil => rfl
  | cons a l ih =>
    simp only [List.map_cons, pcA]
    rw [ih fun x hx => h x (by simp [hx]), h a (by simp), er_kind]
theorem pcB_er : ∀ e : Ex, pcB (er e) = pcB e
  | .mk k nm m l a b => by
    rw [er_mk, pcB, pcB, pcA_of fun x hx => pcB_er x]
theorem sh_er (e : Ex) (n : Nat) : sh (er e) n = sh e n := by unfold sh pcE; rw [pcB_er, er_kind]
theorem sh_eq2 {a b : Ex} (h : er a = er b) (n : Nat) : sh a n = sh b n := by rw [← sh_er a, h, sh_er]
theorem prS_er (o : Option Ex) : prS (o.map er) = prS o := by
  cases o with
  | none => rfl
  | some e => simp only [Option.map_some, prS, sh_er]
theorem tyS_er {t u : Ty} (h : erT t = erT u) : tyS t = tyS u := by
  have h1 : t.base = u.base := by have := congrArg Ty.base h; exact this
  have h2 : t.len = u.len := by have := congrArg Ty.len h; exact this
  have h3 : t.pred.map er = u.pred.map er := by have := congrArg Ty.pred h; exact this
  unfold tyS baS
  rw [h1, h2, ← prS_er t.pred, h3, prS_er]
theorem pmS_er {k : Nat} {m p : Pm} (h : erP m = erP p) : pmS k m = pmS k p := by
  have h1 : m.name = p.name := by have := congrArg Pm.name h; exact this
  have h2 : erT m.ty = erT p.ty := by have := congrArg Pm.ty h; exact this
  unfold pmS
  rw [h1, tyS_er h2]
theorem pms_er {k : Nat} : ∀ {l m : List Pm}, l.map erP = m.map erP → l.map (pmS k) = m.map (pmS k)
  | [], [], _ => rfl
  | [], _ :: _, h => by simp at h
  | _ :: _, [], h => by simp at h
  | a :: l, b :: m, h => by
    simp only [List.map_cons, List.cons.injEq] at h ⊢
    exact ⟨pmS_er h.1, pms_er h.2⟩
theorem itS_er {a b : It} (h : erI a = erI b) : itS a = itS b ∧ er a.body = er b.body ∧ a.name = b.name ∧ a.params.length = b.params.length := by
  have h1 : a.kind = b.kind := by have := congrArg It.kind h; exact this
  have h2 : a.pub = b.pub := by have := congrArg It.pub h; exact this
  have h3 : a.name = b.name := by have := congrArg It.name h; exact this
  have h4 : a.params.map erP = b.params.map erP := by have := congrArg It.params h; exact this
  have h5 : erT a.result = erT b.result := by have := congrArg It.result h; exact this
  have h6 : er a.body = er b.body := by have := congrArg It.body h; exact this
  refine ⟨?_, h6, h3, by have := congrArg List.length h4; simpa using this⟩
  unfold itS heS
  rw [h1, h2, h3, tyS_er h5, sh_eq2 h6, pms_er (k := 1) h4, pms_er (k := 2) h4]
end Go.Proofs.YtmkgmjdbgjiehaaDoor.Ab
namespace Go.Proofs.YtmkgmjdbgjiehaaDoor
open Go.Proofs.YtmkgmjdbgjiehaaDoor.Ab
set_option linter.unusedVariables false
set_option linter.unusedSimpArgs false
attribute [local simp] Gr.refl Gr.new Gr.set Gr.kill Nat.add_assoc r_ckk chk_x chk_n
theorem print_ok2 {b : List UInt8} {it : It} (h : parseF b = .good it) (hb : b.length < 2 ^ 30) {s : St} (ht : Tab s) : ev ET 10 [.agg (itE BB it)] s = some (.ret (.str (itS it)), s) := by
  obtain ⟨h1, h2⟩ := parse_ok h
  exact print_ev rfl h1 (by omega) ht
theorem itS_small2 {b : List UInt8} {it : It} (h : parseF b = .good it) : (itS it).length ≤ 160 * b.length + 160 := by
  obtain ⟨h1, h2⟩ := parse_ok h
  have := itS_len h1
  omega
theorem itE_body (it : It) : ∃ a0 a1 a2 a3 a4 a5 a6, exE BB it.body = [a0, a1, a2, a3, a4, a5, a6] ∧ itE BB it = [.int .i64 it.kind, .bool it.pub, .str it.name, .int .i64 it.fr, .int .i64 it.to, parsV BB it.params, .int .i64 it.result.base, .int .i64 it.result.len, predV BB it.result.pred, .int .i64 it.result.fr, .int .i64 it.result.to, a0, a1, a2, a3, a4, a5, a6] := itE_ex BB it
theorem okx_er : ∀ e : Ex, Okx e → Okx (er e)
  | .mk k nm m l a b, h => by
    rw [Okx] at h
    rw [er_mk]
    refine okx_mk (by simpa using h.1) fun x hx => ?_
    obtain ⟨y, hy, rfl⟩ := List.mem_map.1 hx
    exact okx_er y (Okxs_mem h.2 y hy)
theorem get_of {α : Type} {l : List α} {i : Nat} {x : α} (h : l[i]? = some x) : ∀ k : i < l.length, l[i]'k = x := fun k => (List.getElem?_eq_some_iff.1 h).2
set_option maxHeartbeats 8000000 in
theorem back_ev {σ : St} {v : V} {b : List UInt8} (hv : Bs σ v b) (ho : v.old σ) (ht : Tab σ) : ev ET 7 [v] σ = some (.ret (.bool true), σ) := by
  have hp := fun (s : St) (g : Gr σ s) => parsed_ev (σ := s) (ht.gr g)
  have hlen := hv.len
  suffices h : ∃ τ, run ET false f7.res [.d f7.body] ⟨envOf [v], []⟩ σ = some (.ret (.bool true), τ) ∧ Gr σ τ by
    obtain ⟨τ, h, g⟩ := h
    exact ev_pure (fd := f7) rfl (by simp [f7]) rfl h g.H g.W (by simp)
  have hp0 := hp σ (Gr.refl σ)
  by_cases hl : 2000 < b.length
  · have hl' : (2000 : Int) < (b.length : Int) := by omega
    exact ⟨σ, by simp [f7, d7, hp0, hlen, hl, hl'], Gr.refl σ⟩
  have hl' : ¬ (2000 : Int) < (b.length : Int) := by omega
  have p1 := parse_ev (E := ET) (B := BB) rfl rfl hv ho (by omega)
  cases h1 : parseF b with
  | err x y e =>
    rw [h1, errV] at p1
    have he : ¬ (e : Int) = 0 := by have := parse_err0 h1; omega
    have he' := parse_err0 h1
    obtain ⟨s2, hs2⟩ : ∃ s2, s2 = st2 σ z18 [.int .i64 x, .int .i64 y] := ⟨_, rfl⟩
    refine ⟨s2, ?_, by rw [hs2]; exact st2_gr _ _ _⟩
    have hs2' := hs2
    simp only [st2, z18, zz] at hs2'
    simp only [z18] at p1
    simp [f7, d7, hp0, hlen, hl, hl', p1, ← hs2', he, he']
  | good it =>
    rw [h1, goodV] at p1
    have hpr := fun (s : St) (g : Gr σ s) => print_ok2 h1 (by omega) (ht.gr g)
    have hsm := itS_small2 h1
    obtain ⟨i1, i2, i3⟩ := itE_ok BB it
    have hk := (parse_ok h1).1
    have hback := parse_back hk
    obtain ⟨S, hS⟩ : ∃ S, S = itS it := ⟨_, rfl⟩
    simp only [← hS] at hpr hsm hback
    obtain ⟨a0, a1, a2, a3, a4, a5, a6, hbe, hie'⟩ := itE_body it
    have e18 := i1
    obtain ⟨ie, hie⟩ : ∃ ie, ie = itE BB it := ⟨_, rfl⟩
    simp only [← hie] at p1 hpr i1 i2 hie'
    have htk : ie.take 18 = ie := List.take_of_length_le (by omega)
    have hdr : ie.drop 18 = [] := List.drop_eq_nil_of_le (by omega)
    obtain ⟨s2, hs2⟩ : ∃ s2, s2 = st2 σ ie zz := ⟨_, rfl⟩
    have g2 : Gr σ s2 := by rw [hs2]; exact st2_gr _ _ _
    have m2 : s2.H σ.n = some (.row 18 [ie]) := by rw [hs2]; exact st2_a _ _ _
    have n2 : s2.n = σ.n + 2 := by rw [hs2]; exact st2_n _ _ _
    have hpr2 := hpr s2 g2
    obtain ⟨s3, hs3⟩ : ∃ s3, s3 = s2.new (.row 1 (S.map byteE)) := ⟨_, rfl⟩
    have g3 : Gr σ s3 := by rw [hs3]; exact g2.new _
    have n3 : s3.n = σ.n + 3 := by rw [hs3]; simp [n2]
    have m3 : s3.H σ.n = some (.row 18 [ie]) := by rw [hs3]; simp [show ¬ σ.n = s2.n by omega, m2]
    have p3 := parse_str (σ := s2) (s := S) (by omega)
    rw [← hs3] at p3
    rcases hback with ⟨it', hg, her⟩ | ⟨x, y, hb⟩
    · rw [hg, goodV] at p3
      have hk' := (parse_ok hg).1
      obtain ⟨h4, h5, h6, h7⟩ := itS_er her
      have hpr' := fun (s : St) (g : Gr σ s) => print_ok2 hg (by omega) (ht.gr g)
      rw [h4, ← hS] at hpr'
      obtain ⟨j1, j2, j3⟩ := itE_ok BB it'
      obtain ⟨b0, b1, b2, b3, b4, b5, b6, hbe', hje'⟩ := itE_body it'
      have heq := fun σ' : St => equal_ev (B := BB) rfl it'.body it.body hk'.2.1 hk.2.1 σ'
      have hb1 := fun σ' : St => bareX_ev (B := BB) rfl it'.body hk'.2.1 σ'
      have hb2 := fun σ' : St => bareX_ev (B := BB) rfl it.body hk.2.1 σ'
      have q1 : eqB it'.body it.body = true := by unfold eqB; simp [h5]
      have heq2 : ∀ σ' : St, ev ET 11 [exV BB (er it'.body), exV BB (er it.body)] σ' = some (.ret (.bool true), σ') := fun σ' => by
        rw [h5]
        have hok : Okx (er it.body) := okx_er _ hk.2.1
        have := equal_ev (B := BB) rfl (er it.body) (er it.body) hok hok σ'
        rwa [show eqB (er it.body) (er it.body) = true from by unfold eqB; simp] at this
      rw [q1] at heq
      unfold exV at heq hb1 hb2 heq2
      rw [hbe, hbe'] at heq
      rw [hbe'] at hb1
      rw [hbe] at hb2
      obtain ⟨je, hje⟩ : ∃ je, je = itE BB it' := ⟨_, rfl⟩
      simp only [← hje] at p3 hpr' j1 j2 hje'
      have htk' : je.take 18 = je := List.take_of_length_le (by omega)
      have hdr' : je.drop 18 = [] := List.drop_eq_nil_of_le (by omega)
      obtain ⟨s4, hs4⟩ : ∃ s4, s4 = st2 s3 je zz := ⟨_, rfl⟩
      have g4 : Gr σ s4 := by rw [hs4]; exact g3.trans (st2_gr _ _ _)
      have m4 : s4.H s3.n = some (.row 18 [je]) := by rw [hs4]; exact st2_a _ _ _
      have m5 : s4.H σ.n = some (.row 18 [ie]) := by rw [hs4, (st2_gr s3 je zz).H _ (by omega)]; exact m3
      have hpr4 := hpr' s4 g4
      refine ⟨s4, ?_, g4⟩
      have l1 := ((parsV_tl BB it.params).rd (σ := σ)).len
      have l2 := ((parsV_tl BB it'.params).rd (σ := σ)).len
      simp only [List.length_map, h7] at l1 l2
      simp only [st2, z18, zz] at hs2 hs4
      simp only [zz] at p1 p3
      obtain ⟨er1, her1⟩ : ∃ e, e = exE BB (er it.body) := ⟨_, rfl⟩
      obtain ⟨er2, her2⟩ : ∃ e, e = exE BB (er it'.body) := ⟨_, rfl⟩
      simp only [← her1] at hb2 heq2
      simp only [← her2] at hb1 heq2
      have m4' := m4
      have m5' := m5
      rw [hje'] at m4'
      rw [hie'] at m5'
      have k1 : (je.drop 11).take 7 = [b0, b1, b2, b3, b4, b5, b6] := by rw [hje']; rfl
      have k2 : (ie.drop 11).take 7 = [a0, a1, a2, a3, a4, a5, a6] := by rw [hie']; rfl
      have k3 : je[2]? = some (.str it'.name) := by rw [hje']; rfl
      have k4 : ie[2]? = some (.str it.name) := by rw [hie']; rfl
      have k5 : je[5]? = some (parsV BB it'.params) := by rw [hje']; rfl
      have k6 : ie[5]? = some (parsV BB it.params) := by rw [hie']; rfl
      simp [f7, d7, hp0, hlen, hl, hl', p1, ← hs2, i1, eq_true i2, hdr, htk, m2, hpr2, ← hs3, p3, j1, eq_true j2, hdr', htk', ← hs4, m4, m5, hpr4, k1, k2, get_of k3, get_of k4, get_of k5, get_of k6, heq, chk, wantG, hb1, hb2, heq2, h6, l1, l2]
    · rw [hb, errV] at p3
      obtain ⟨s4, hs4⟩ : ∃ s4, s4 = st2 s3 z18 [.int .i64 x, .int .i64 y] := ⟨_, rfl⟩
      refine ⟨s4, ?_, by rw [hs4]; exact g3.trans (st2_gr _ _ _)⟩
      simp only [st2, z18, zz] at hs2 hs4
      simp only [z18, zz] at p1 p3
      simp [f7, d7, hp0, hlen, hl, hl', p1, ← hs2, i1, eq_true i2, hdr, htk, m2, hpr2, ← hs3, p3, ← hs4]
end Go.Proofs.YtmkgmjdbgjiehaaDoor
namespace Go.Proofs.YtmkgmjdbgjiehaaDoor.Ab
open Go.RowKit
set_option linter.unusedVariables false
section
variable {P : Program} {φ φ' : Phi} {I I' : Nat → Prop} {σ σ' : St} {w w' : World}
theorem below_sim (hs : Sim φ I σ w) (hb : Below w.heap.size w w') : Evo φ I σ w φ I σ w' ∧ Sim φ I σ w' := by
  have hI : ∀ b, I b → w'.heap[b]? = w.heap[b]? := fun b h => hb.block b (hs.imm b h)
  have hN : ∀ b, b < w.heap.size → cellsOf w' b = cellsOf w b := fun b h => by unfold cellsOf; rw [hb.block b h]
  refine ⟨⟨fun _ _ h => h, fun _ h => h, fun _ h => .inl h, fun _ h => .inl h, hb.size, hN, fun b h _ => hb.block b h, hb.os, hb.tape, hb.output, rfl, .same fun b h => hb.block b h⟩,
    ⟨hs.dom, fun l x h => Nat.lt_of_lt_of_le (hs.blk l x h) hb.size, fun l b h => ?_, hs.notI, hs.inj, fun b h => Nat.lt_of_lt_of_le (hs.imm b h) hb.size, fun b h => ⟨(hs.base b h).1, (hI b (hs.base b h).1).trans (hs.base b h).2⟩⟩⟩
  obtain ⟨x, h1, h2⟩ := hs.live l b h
  exact ⟨x, h1, h2.keep hs (fun _ _ h => h) hI hN (hb.block _ (hs.blk l x h1))⟩
theorem ccalls_lift {k : FuncId} {vs : List V} {v : V} (h : ∀ φ I w cs, Sim φ I σ w → RelA φ I w vs cs → Calls P k cs w fun e w' => ∃ c, e = .returned c ∧ Below w.heap.size w w' ∧ Rel φ I w v c) :
    CCalls P k vs σ fun o σ' => o = .ret v ∧ σ' = σ := fun φ I w cs hs ha =>
  (h φ I w cs hs ha).mono fun e w' ⟨c, he, hb, hr⟩ => by
    subst he
    obtain ⟨h1, h2⟩ := below_sim hs hb
    exact ⟨_, _, φ, I, ⟨rfl, rfl⟩, .ret (hr.evo hs h1), h1, h2⟩
theorem base_cell (hs : Sim φ I σ w) {a : Addr} {c : Value} (h : σ.W.cell? a = some c) : w.cell? a = some c := by
  have hlt : a.block < σ.W.heap.size := by
    unfold World.cell? at h
    rcases Nat.lt_or_ge a.block σ.W.heap.size with h' | h'
    · exact h'
    · rw [Array.getElem?_eq_none h'] at h; simp at h
  unfold World.cell? at h ⊢
  rw [(hs.base _ hlt).2]
  exact h
theorem base_var (hs : Sim φ I σ w) {name : String} {cs : Array Value} (h : σ.W.var? P name = some cs) : w.var? P name = some cs := by
  unfold World.var? at h ⊢
  obtain ⟨g, hg, h⟩ := Option.bind_eq_some_iff.1 h
  rw [hg, Option.bind_some]
  have hlt : g < σ.W.heap.size := by
    rcases Nat.lt_or_ge g σ.W.heap.size with h' | h'
    · exact h'
    · rw [Array.getElem?_eq_none h'] at h; simp at h
  rw [(hs.base g hlt).2]
  exact h
end
end Go.Proofs.YtmkgmjdbgjiehaaDoor.Ab
namespace Go.Proofs.YtmkgmjdbgjiehaaDoor
open Go.Proofs.YtmkgmjdbgjiehaaDoor.Ab
open Go.RowKit
open Go.Sort (grow)
set_option linter.unusedVariables false
set_option linter.unusedSimpArgs false
theorem strOf_inv {e : List V} {s : List UInt8} (h : strOf e = some s) : e = [.str s] := by
  match e, h with
  | [.str t], h => simp only [strOf, Option.some.injEq] at h; rw [h]
theorem strs_inv : ∀ {es : List (List V)} {l : List (List UInt8)}, es.mapM strOf = some l → es = l.map fun s => [V.str s]
  | [], l, h => by simp at h; subst h; rfl
  | e :: es, l, h => by
    rw [List.mapM_cons] at h
    cases h1 : strOf e with
    | none => rw [h1] at h; simp at h
    | some s =>
      cases h2 : es.mapM strOf with
      | none => rw [h1, h2] at h; simp at h
      | some t =>
        rw [h1, h2] at h
        simp at h
        subst h
        rw [strOf_inv h1, strs_inv h2]; rfl
theorem ba_of {s : ByteArray} {l : List UInt8} (h : s.data.toList = l) : s = ⟨l.toArray⟩ := by
  obtain ⟨d⟩ := s
  subst h
  simp
theorem rel_strs {φ : Phi} {I : Nat → Prop} {σ : St} {w : World} (hs : Sim φ I σ w) {v : V} {c : Value} (hr : Rel φ I w v c) {l : List (List UInt8)} (h : strL σ v = some l) :
    (l = [] ∧ ∃ a k, c = .slice a 0 k) ∨ ∃ b o cap, c = .slice (some ⟨b, o, none⟩) l.length cap ∧ l.length ≤ cap ∧ b < w.heap.size ∧ ∀ (j : Nat) s, l[j]? = some s → w.cell? ⟨b, o + j, none⟩ = some (.string ⟨s.toArray⟩) := by
  cases hr with
  | nils =>
    left
    simp only [strL, Option.bind_some, List.mapM_nil] at h
    exact ⟨by cases h; rfl, _, _, rfl⟩
  | slc hφ hlc hN ha =>
    rename_i k off len b base z cap a
    unfold strL at h
    simp only at h
    split at h
    · rename_i es hH
      split at h
      · rename_i hle
        rw [Option.bind_some] at h
        have hes := strs_inv h
        have hlen : l.length = len := by have := congrArg List.length hes; simp at this; omega
        by_cases h0 : len = 0
        · left
          subst h0
          exact ⟨List.length_eq_zero_iff.1 hlen, _, _, rfl⟩
        · right
          have hget : ∀ (j : Nat) s, l[j]? = some s → es[off + j]? = some [.str s] := fun j s hj => by
            have h1 : (l.map fun s => [V.str s])[j]? = some [.str s] := by rw [List.getElem?_map, hj]; rfl
            rw [← hes] at h1
            have hjl : j < len := by have := (List.getElem?_eq_some_iff.1 hj).1; omega
            rwa [List.getElem?_take_of_lt hjl, List.getElem?_drop] at h1
          have hcell : ∀ (j : Nat) s, l[j]? = some s → z = 1 ∧ w.cell? ⟨b, base + (off + j), none⟩ = some (.string ⟨s.toArray⟩) := fun j s hj => by
            obtain ⟨hz, c, hc, hrel, _⟩ := hs.cell hH (hget j s hj) (j := 0) rfl hφ
            refine ⟨hz, ?_⟩
            cases hrel with
            | str hh => rw [ba_of hh] at hc; simpa using hc
          have hz1 : z = 1 := by
            cases l with
            | nil => simp at hlen; exact absurd hlen.symm h0
            | cons s l => exact (hcell 0 s rfl).1
          refine ⟨b, base + off, cap, ?_, by omega, hs.blk _ _ hφ, fun j s hj => ?_⟩
          · rw [ha (by omega), hz1, hlen]; simp
          · rw [Nat.add_assoc]; exact (hcell j s hj).2
      · simp at h
    · simp at h
  | islc hl ha hz hc ho hp hr =>
    rename_i z es b o cap a cs
    have hz1 : z = 1 := by
      by_cases k : z = 1
      · exact k
      · exfalso; unfold strL at h; split at h
        · rename_i heq; cases heq
        · rename_i heq; cases heq
        · rename_i heq; cases heq; exact k rfl
        · simp at h
    subst hz1
    have hes := strs_inv (es := es) (l := l) h
    have hlen : es.length = l.length := by rw [hes]; simp
    by_cases h0 : es = []
    · subst h0
      exact .inl ⟨List.length_eq_zero_iff.1 hlen.symm, _, _, rfl⟩
    · obtain ⟨rfl, hI⟩ := ha h0
      refine .inr ⟨b, o, cap, by rw [hlen], by omega, hs.imm b hI, fun j s hj => ?_⟩
      have hjl : j < es.length := by have := (List.getElem?_eq_some_iff.1 hj).1; omega
      have h1 : es[j]? = some [.str s] := by rw [hes, List.getElem?_map, hj]; rfl
      have h2 := hc j 0 hjl (by decide)
      have h3 := hr j 0 _ _ h1 rfl
      generalize cs j 0 = x at h2 h3
      cases h3 with
      | str hh => rw [ba_of hh] at h2; simpa using h2
  | _ => simp [strL] at h
theorem args_two {c : Array Value} (h : c.size = 2) : ∃ x y, c = #[x, y] := by
  obtain ⟨l⟩ := c
  match l, h with
  | [x, y], _ => exact ⟨x, y, rfl⟩
theorem args_one {c : Array Value} (h : c.size = 1) : ∃ x, c = #[x] := by
  obtain ⟨l⟩ := c
  match l, h with
  | [x], _ => exact ⟨x, rfl⟩
theorem join_c {σ : St} {v : V} {l : List (List UInt8)} {sep : List UInt8} (h : strL σ v = some l) (h1 : l.length ≤ 140737488355328) (h2 : (Lib.join l sep).length ≤ 140737488355328) : CCalls Tryd.prog 20 [v, .str sep] σ (fun o σ' => o = .ret (.str (Lib.join l sep)) ∧ σ' = σ) := by
  refine ccalls_lift fun φ I w cs hs ha => ?_
  obtain ⟨c, d, rfl⟩ := args_two (by simpa using ha.1)
  have r0 := ha.2 0 _ rfl
  have r1 := ha.2 1 _ rfl
  simp only [Array.getD_eq_getD_getElem?] at r0 r1
  have r0' : Rel φ I w v c := r0
  have r1' : Rel φ I w (.str sep) d := r1
  cases r1' with
  | str hsep =>
    rename_i sp
    rcases rel_strs hs r0' h with ⟨rfl, a, k, rfl⟩ | ⟨b, o, cap, rfl, hcap, hb, hc⟩
    · refine (Tryd.strings_Join_none a k sp w).mono ?_
      rintro e w' ⟨rfl, rfl⟩
      exact ⟨_, rfl, .refl _ _, .str rfl⟩
    · have hm : (l.map fun s => (⟨s.toArray⟩ : ByteArray)).map (·.data.toList) = l := by rw [List.map_map]; simp [Function.comp_def]
      have := Tryd.strings_Join b o cap (l.map fun s => (⟨s.toArray⟩ : ByteArray)) sp w (fun j x hx => by
        rw [List.getElem?_map] at hx
        cases hj : l[j]? with
        | none => rw [hj] at hx; simp at hx
        | some s => rw [hj] at hx; simp at hx; subst hx; exact hc j s hj) hb (by simpa using h1) (by simpa using hcap) (by rw [hm, hsep]; exact h2)
      rw [List.length_map, hm, hsep] at this
      refine this.mono ?_
      rintro e w' ⟨rfl, hbl⟩
      exact ⟨_, rfl, hbl, .str rfl⟩
theorem grow_below (w : World) (k : Nat) (os : Array Obj) : RowKit.Below w.heap.size w (grow (w.drewN k) os) :=
  ⟨rfl, rfl, rfl, by simp [grow, World.drewN], fun b hb => by simp [grow, World.drewN, Array.getElem?_append, hb]⟩
theorem itoa_c (σ : St) (n : Nat) (hn : n < 2 ^ 63) (ht : Tab σ) : CCalls Tryd.prog 34 [.int .i64 n] σ (fun o σ' => o = .ret (.str (Lib.decDigits n)) ∧ σ' = σ) := by
  refine ccalls_lift fun φ I w cs hs ha => ?_
  obtain ⟨c, rfl⟩ := args_one (by simpa using ha.1)
  have r0 : Rel φ I w (.int .i64 n) c := ha.2 0 _ rfl
  cases r0
  refine (Tryd.strconv_Itoa n (by omega) (by omega) w (base_var hs ht)).mono ?_
  rintro e w' ⟨rfl, k, os, rfl⟩
  refine ⟨_, rfl, grow_below w k os, .str ?_⟩
  unfold Lib.itoa
  rw [if_neg (by omega)]
  simp
theorem Bt_ok {k : FuncId} {vs : List V} {σ : St} {v : V} (h : BtF k vs σ = some v) : CCalls Tryd.prog k vs σ fun o σ' => o = .ret v ∧ σ' = σ := by
  unfold BtF at h
  split at h
  · rename_i hk
    subst hk
    split at h
    · rename_i u sep
      obtain ⟨l, h1, h2⟩ := Option.bind_eq_some_iff.1 h
      split at h2
      · rename_i hl; cases h2; exact join_c h1 hl.1 hl.2
      · cases h2
    · cases h
  · split at h
    · rename_i hk
      subst hk
      split at h
      · rename_i n
        split at h
        · rename_i hl
          cases h
          have hn : n = ((n.toNat : Nat) : Int) := by omega
          have := itoa_c σ n.toNat (by omega) hl.2.2
          rw [← hn] at this
          exact this
        · cases h
      · cases h
    · cases h
theorem ET_ok : ET.Ok := ⟨T_ok, fun gf cap σ ky xs h => by
    simp only [ET] at h
    split at h
    · rename_i hg
      subst hg
      split at h
      · rename_i c
        obtain ⟨l, h1, h2, rfl, rfl⟩ := It26_inv h
        refine ⟨(T_ok 76 _ rfl).2, ?_⟩
        have inv : ∀ σ, ET.It 76 [c] σ = some (.islc 1 (l.map nE), lx l l.length) → boxL σ c = some l := fun σ this => by
          simp only [ET, if_true] at this
          obtain ⟨b', h3, _, h4, _⟩ := It26_inv this
          injection h4 with h5 h6; rw [map_nE_inj h6]; exact h3
        intro Y y J X σ' hJ hX hY h0
        exact iter76 c l h2 Y y J X σ' (fun i σ hj => inv σ (hJ i σ hj)) (fun σ hx => inv σ (hX σ hx)) hY h0
      · simp at h
    · simp at h, fun k vs σ v h => Bt_ok h, fun _ _ _ _ _ h => by simp [ET] at h⟩
end Go.Proofs.YtmkgmjdbgjiehaaDoor
