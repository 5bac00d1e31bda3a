/-
The walk over the program's texts, told with what its values say: a part of it. No further condition.
-/
import Derived.Test.YtmkgmjdbgjiehaaDoorAbSwG
namespace Go.Proofs.YtmkgmjdbgjiehaaDoor
open Go.Proofs.YtmkgmjdbgjiehaaDoor.Ab
set_option linter.unusedVariables false
set_option linter.unusedSimpArgs false
attribute [local simp] Gr.refl Gr.new Gr.set Gr.kill Nat.add_assoc r_ckk chk_x chk_n
variable {B : Int}
open Classical in
noncomputable def eqB (a b : Ex) : Bool := decide (er a = er b)
open Classical in
noncomputable def eqBs (a b : List Ex) : Bool := decide (a.map er = b.map er)
theorem eqBs_nil : eqBs [] [] = true := by simp [eqBs]
theorem eqBs_cons (a b : Ex) (l m : List Ex) : eqBs (a :: l) (b :: m) = (eqB a b && eqBs l m) := by
  unfold eqBs eqB
  rw [Bool.eq_iff_iff]
  simp only [Bool.and_eq_true, decide_eq_true_iff]
  simp
theorem eqB_mk {k k' m m' : Nat} {nm nm' : List UInt8} {l l' : List Ex} {a b a' b' : Nat} : eqB (.mk k nm m l a b) (.mk k' nm' m' l' a' b') = (decide (k = k') && decide (nm = nm') && decide (m = m') && eqBs l l') := by
  unfold eqB eqBs
  rw [er_mk, er_mk]
  rw [Bool.eq_iff_iff]
  simp only [Bool.and_eq_true, decide_eq_true_iff]
  simp [and_assoc]
theorem eqBs_len {l m : List Ex} (h : l.length ≠ m.length) : eqBs l m = false := by
  unfold eqBs
  simp only [decide_eq_false_iff_not]
  intro e
  have := congrArg List.length e
  simp at this
  exact h this
theorem eq_loop {la lb : List Ex} {s2 : St} {p q : Nat} {a0 a1 a2 a3 a5 a6 b0 b1 b2 b3 b5 b6 : V} (hl : la.length = lb.length) (hs : la.length ≤ 1000) (hp : s2.H p = some (.row 7 [[a0, a1, a2, a3, argV (exsE B la), a5, a6]])) (hq : s2.H q = some (.row 7 [[b0, b1, b2, b3, argV (exsE B lb), b5, b6]]))
    (hw : ∀ x ∈ la, ∀ y ∈ lb, ∀ σ, ev ET 11 [exV B x, exV B y] σ = some (.ret (.bool (eqB x y)), σ)) {st : List SE} (hst : ∀ f, run ET false [.t 4] (.d .ret :: st) f s2 = run ET false [.t 4] [.d .ret] f s2) {B0 : D} (hB0 : B0 = b11_0)
    (K : ∀ f' : Fr, f'.ds = [] → run ET false [.t 4] st f' s2 = some (.ret (.bool true), s2)) :
    ∀ (ra rb : List Ex) (i : Nat) (f : Fr), la.drop i = ra → lb.drop i = rb → i + ra.length = la.length → f.ds = [] → f.env 2 = .ptr p 0 0 → f.env 3 = .ptr q 0 0 → f.env 37 = .int .i64 la.length → f.env 38 = .int .i64 i →
      run ET false [.t 4] (.d (.loop [2, 3, 37, 38] B0) :: .blk 0 :: st) f s2 = some (.ret (.bool (eqBs ra rb)), s2)
  | [], rb, i, f, hda, hdb, hi, hd, e2, e3, e37, e38 => by
    have hrb : rb = [] := by
      rw [← hdb]; apply List.drop_eq_nil_of_le; simp at hi; omega
    subst hrb
    rw [r_loopU hB0, eqBs_nil]
    have h : ¬ i < la.length := by simp at hi; omega
    simp [b11_0, hd, e2, e3, e37, e38, h]
    exact K _ (by simp)
  | x :: ra, [], i, f, hda, hdb, hi, hd, e2, e3, e37, e38 => by
    have := congrArg List.length hdb
    simp at this hi
    omega
  | x :: ra, y :: rb, i, f, hda, hdb, hi, hd, e2, e3, e37, e38 => by
    rw [r_loopU hB0]
    have hlt : i < la.length := by simp at hi; omega
    have hlt' : i < lb.length := by omega
    have hga : la[i]? = some x := by have := congrArg (·[0]?) hda; simpa using this
    have hgb : lb[i]? = some y := by have := congrArg (·[0]?) hdb; simpa using this
    have hda' : la.drop (i + 1) = ra := by rw [← List.drop_drop, hda]; rfl
    have hdb' : lb.drop (i + 1) = rb := by rw [← List.drop_drop, hdb]; rfl
    have hxy := hw x (List.mem_of_getElem? hga) y (List.mem_of_getElem? hgb)
    have h64 : IntKind.i64.wrap ((i : Int) + 1) = ((i + 1 : Nat) : Int) := by rw [IntWalk.i64_in _ (by omega)]; omega
    have ata := fun σ' : St => ((argV_tl B la).rd (σ := σ')).at (k := .i64) (i := i) (by simpa using hlt)
    have atb := fun σ' : St => ((argV_tl B lb).rd (σ := σ')).at (k := .i64) (i := i) (by simpa using hlt')
    have lda := fun σ' : St => ((argV_tl B la).rd (σ := σ')).lda (show (la.map (exE B))[i]? = some (exE B x) by rw [List.getElem?_map, hga]; rfl) (m := 7) (exE_len B x).symm
    have ldb := fun σ' : St => ((argV_tl B lb).rd (σ := σ')).lda (show (lb.map (exE B))[i]? = some (exE B y) by rw [List.getElem?_map, hgb]; rfl) (m := 7) (exE_len B y).symm
    have ih := fun f' => eq_loop hl hs hp hq hw hst hB0 K ra rb (i + 1) f' hda' hdb' (by simp at hi; omega)
    obtain ⟨i', hi'⟩ : ∃ k, k = i + 1 := ⟨_, rfl⟩
    simp only [← hi'] at h64 ih
    obtain ⟨va, hva⟩ : ∃ v, v = argV (exsE B la) := ⟨_, rfl⟩
    obtain ⟨vb, hvb⟩ : ∃ v, v = argV (exsE B lb) := ⟨_, rfl⟩
    rw [← hva] at hp ata lda
    rw [← hvb] at hq atb ldb
    unfold exV at hxy
    rw [eqBs_cons]
    cases hc : eqB x y with
    | true =>
      rw [hc] at hxy
      simp [b11_0, hd, e2, e3, e37, e38, hlt, hp, hq, ata, atb, lda, ldb, hxy, h64]
      exact ih _ (by simp) (by simp) (by simp) (by simp) (by simp)
    | false =>
      rw [hc] at hxy
      simp [b11_0, hd, e2, e3, e37, e38, hlt, hp, hq, ata, atb, lda, ldb, hxy, h64, hst]
set_option maxHeartbeats 2000000 in
theorem equal_ev (hB : B = 4294967296) : ∀ a b : Ex, Okx a → Okx b → ∀ σ, ev ET 11 [exV B a, exV B b] σ = some (.ret (.bool (eqB a b)), σ)
  | .mk k nm m l fr to, .mk k' nm' m' l' fr' to', ha, hb, σ => by
    rw [Okx] at ha hb
    have ih : ∀ x ∈ l, ∀ y ∈ l', ∀ σ, ev ET 11 [exV B x, exV B y] σ = some (.ret (.bool (eqB x y)), σ) := fun x hx y hy σ => equal_ev hB x y (Okxs_mem ha.2 x hx) (Okxs_mem hb.2 y hy) σ
    have hll : l.length ≤ 6 := by have := ha.1; unfold wfK at this; omega
    have h2 : (2 : Int) ≤ B := by omega
    have hml : m < 10 ^ 40 := by have := ha.1; unfold wfK at this; omega
    have hml' : m' < 10 ^ 40 := by have := hb.1; unfold wfK at this; omega
    have c1 : (cn B (m : Int)).length ≤ 5 := cn_length h2 (by subst hB; omega)
    have c2 : (cn B (m' : Int)).length ≤ 5 := cn_length h2 (by subst hB; omega)
    have hsc : (magV B (m : Int)).scal = true := magV_scal
    have hsc' : (magV B (m' : Int)).scal = true := magV_scal
    have hav := argV_scal (exsE B l)
    have hav' := argV_scal (exsE B l')
    have hlen := ((argV_tl B l).rd (σ := σ)).len
    have hlen' := ((argV_tl B l').rd (σ := σ)).len
    simp only [List.length_map] at hlen hlen'
    obtain ⟨s2, hs2⟩ : ∃ s2, s2 = (σ.new (.row 7 [exE B (.mk k nm m l fr to)])).new (.row 7 [exE B (.mk k' nm' m' l' fr' to')]) := ⟨_, rfl⟩
    obtain ⟨x, hx, hx0⟩ := bcmp_ev hB (σ := s2) m m' (by omega) (by omega)
    refine ev_pure (fd := f11) (o := .ret (.bool (eqB (.mk k nm m l fr to) (.mk k' nm' m' l' fr' to')))) (σ' := s2) rfl (by simp [f11]) rfl ?_ (fun j hj => by rw [hs2]; simp [show j ≠ σ.n by omega, show j ≠ σ.n + 1 by omega]) (by rw [hs2]; rfl) (by simp)
    have q1 : s2.H σ.n = some (.row 7 [exE B (.mk k nm m l fr to)]) := by rw [hs2]; simp
    have q2 : s2.H (σ.n + 1) = some (.row 7 [exE B (.mk k' nm' m' l' fr' to')]) := by rw [hs2]; simp
    simp only [exV, exE] at hs2 q1 q2 ⊢
    have hloop := fun (hl : l.length = l'.length) (st : List SE) hst K f' a b c d e => eq_loop (B := B) hl (by omega) q1 q2 ih (B0 := b11_0) (st := st) hst rfl K l l' 0 f' rfl rfl (by simp) a b c d e
    rw [eqB_mk]
    unfold numV at hx
    obtain ⟨va, hva⟩ : ∃ v, v = argV (exsE B l) := ⟨_, rfl⟩
    obtain ⟨vb, hvb⟩ : ∃ v, v = argV (exsE B l') := ⟨_, rfl⟩
    rw [← hva] at hav hlen hs2 q1 ⊢
    rw [← hvb] at hav' hlen' hs2 q2 ⊢
    by_cases hk : k = k'
    · by_cases hn : nm = nm'
      · by_cases hm : m = m'
        · have hx1 : x = 0 := hx0.2 hm
          subst hk; subst hn; subst hm; subst hx1
          by_cases hl : l.length = l'.length
          · have hl' : (l.length : Int) = (l'.length : Int) := by omega
            rw [hl'] at hlen
            simp [f11, d11, hsc, hsc', hav, hav', ← hs2, q1, q2, hx, hlen, hlen']
            exact hloop hl _ (fun f => by simp) (fun f' h => by simp [h]) _ (by simp) (by simp) (by simp) (by simp [hl]) (by simp)
          · have hl' : ¬ (l.length : Int) = (l'.length : Int) := by omega
            rw [eqBs_len hl]
            simp [f11, d11, hsc, hsc', hav, hav', ← hs2, q1, q2, hx, hlen, hlen', hl, hl']
        · have hx1 : ¬ x = 0 := fun h => hm (hx0.1 h)
          subst hk; subst hn
          simp [f11, d11, hsc, hsc', hav, hav', ← hs2, q1, q2, hx, hm, hx1]
      · subst hk
        simp [f11, d11, hsc, hsc', hav, hav', ← hs2, q1, q2, hn]
    · have hk' : ¬ (k : Int) = (k' : Int) := by omega
      simp [f11, d11, hsc, hsc', hav, hav', ← hs2, q1, q2, hk, hk']
end Go.Proofs.YtmkgmjdbgjiehaaDoor
namespace Go.Proofs.YtmkgmjdbgjiehaaDoor
open Go.Proofs.YtmkgmjdbgjiehaaDoor.Ab
set_option linter.unusedVariables false
set_option linter.unusedSimpArgs false
attribute [local simp] Gr.refl Gr.new Gr.set Gr.kill Nat.add_assoc r_ckk chk_x chk_n
variable {B : Int}
end Go.Proofs.YtmkgmjdbgjiehaaDoor
namespace Go.Proofs.YtmkgmjdbgjiehaaDoor.Ab
set_option linter.unusedVariables false
end Go.Proofs.YtmkgmjdbgjiehaaDoor.Ab
namespace Go.Proofs.YtmkgmjdbgjiehaaDoor
open Go.Proofs.YtmkgmjdbgjiehaaDoor.Ab
set_option linter.unusedVariables false
set_option linter.unusedSimpArgs false
attribute [local simp] Gr.refl Gr.new Gr.set Gr.kill Nat.add_assoc r_ckk chk_x chk_n
theorem itE_body (it : It) : ∃ a0 a1 a2 a3 a4 a5 a6, exE BB it.body = [a0, a1, a2, a3, a4, a5, a6] ∧ itE BB it = [.int .i64 it.kind, .bool it.pub, .str it.name, .int .i64 it.fr, .int .i64 it.to, parsV BB it.params, .int .i64 it.result.base, .int .i64 it.result.len, predV BB it.result.pred, .int .i64 it.result.fr, .int .i64 it.result.to, a0, a1, a2, a3, a4, a5, a6] := itE_ex BB it
end Go.Proofs.YtmkgmjdbgjiehaaDoor
namespace Go.Proofs.YtmkgmjdbgjiehaaDoor.Ab
set_option linter.unusedVariables false
set_option linter.unusedSimpArgs false
end Go.Proofs.YtmkgmjdbgjiehaaDoor.Ab
namespace Go.Proofs.YtmkgmjdbgjiehaaDoor.Ab
set_option linter.unusedVariables false
section
variable {M : Nat} {L : List TK}
theorem paren_at {ts rest : List TK} {e : Ex} {tp tc : TK} (h1 : tp.kind = 4) (h2 : tp.txt = [40]) (h3 : tc.kind = 4) (h4 : tc.txt = [41]) (h : ∀ n d, Q (exprT M L n d (ts ++ tc :: rest)) e (tc :: rest)) (n d : Nat) : Q (atomT M L n d (tp :: (ts ++ tc :: rest))) e rest := by
  cases n with
  | zero => exact .inl (by simp [atomT])
  | succ n =>
    unfold atomT
    simp only
    rw [if_neg (by omega), if_neg (by omega)]
    rw [takeT_p (p := ⟨4, [40], false⟩) h1 h2, takeT_p (p := ⟨4, [40], false⟩) h1 h2, takeT_p (p := ⟨4, [40], false⟩) h1 h2, takeT_p (p := ⟨4, [40], false⟩) h1 h2]
    show Q ((exprT M L n d (ts ++ tc :: rest)).bind fun e r2 => (wantT [41] r2).bind fun _ r3 => .ok e r3) e rest
    refine (h n d).bind fun e' he => ?_
    rw [wantT_p (p := ⟨4, [41], false⟩) h3 h4 rfl, Rs.bind_ok]
    exact .ok he
theorem paren_un {ts rest : List TK} {e : Ex} {tp tc : TK} (h1 : tp.kind = 4) (h2 : tp.txt = [40]) (h3 : tc.kind = 4) (h4 : tc.txt = [41]) (h : ∀ n d, Q (exprT M L n d (ts ++ tc :: rest)) e (tc :: rest)) (n d : Nat) : Q (unaryT M L n d (tp :: (ts ++ tc :: rest))) e rest :=
  un_of_at (p := ⟨4, [40], false⟩) h1 h2 ⟨rfl, rfl⟩ fun n => paren_at h1 h2 h3 h4 h n (d + 1)
theorem rows_up {X : List TK} {e : Ex} {rest : List TK} {d : Nat} (hX : X ≠ []) (h : ∀ n, Q (unaryT M L n d X) e rest) : ∀ k lv, k + lv = 5 → Fo lv rest → ∀ n, Q (rowT M L n lv d X) e rest
  | 0, lv, hk, hf, n => by
    obtain rfl : lv = 5 := by omega
    exact row_5 h
  | k + 1, lv, hk, hf, n => row_up (by omega) hX hf fun n => rows_up hX h k (lv + 1) (by omega) (hf.up (by omega)) n
theorem paren_row {ts rest : List TK} {e : Ex} {tp tc : TK} (h1 : tp.kind = 4) (h2 : tp.txt = [40]) (h3 : tc.kind = 4) (h4 : tc.txt = [41]) (h : ∀ n d, Q (exprT M L n d (ts ++ tc :: rest)) e (tc :: rest)) {lv : Nat} (hlv : lv ≤ 5) (hf : Fo lv rest) (n d : Nat) : Q (rowT M L n lv d (tp :: (ts ++ tc :: rest))) e rest :=
  rows_up (by simp) (fun n => paren_un h1 h2 h3 h4 h n d) (5 - lv) lv (by omega) hf n
theorem paren_ex {ts rest : List TK} {e : Ex} {tp tc : TK} (h1 : tp.kind = 4) (h2 : tp.txt = [40]) (h3 : tc.kind = 4) (h4 : tc.txt = [41]) (h : ∀ n d, Q (exprT M L n d (ts ++ tc :: rest)) e (tc :: rest)) (hf : Fo 0 rest) (n d : Nat) : Q (exprT M L n d (tp :: (ts ++ tc :: rest))) e rest :=
  ex_of_row (p := ⟨4, [40], false⟩) h1 h2 ⟨rfl, rfl, rfl⟩ fun n => paren_row h1 h2 h3 h4 h (by omega) hf n (d + 1)
def oneE : Ex := .mk 1 [] 1 [] 0 0
theorem one_ok : Okx oneE := okx_mk (by unfold wfK; simp) (by simp)
theorem plus_ex {ts rest : List TK} {e : Ex} {tp tc tq t1 : TK} (h1 : tp.kind = 4) (h2 : tp.txt = [40]) (h3 : tc.kind = 4) (h4 : tc.txt = [41]) (q1 : tq.kind = 4) (q2 : tq.txt = [43]) (o1 : t1.kind = 3) (o2 : t1.txt = [49])
    (h : ∀ n d, Q (exprT M L n d (ts ++ tc :: tq :: t1 :: rest)) e (tc :: tq :: t1 :: rest)) (hf : Fo 0 rest) (n d : Nat) : Q (exprT M L n d (tp :: (ts ++ tc :: tq :: t1 :: rest))) (.mk 8 [] 0 [e, oneE] 0 0) rest := by
  refine ex_of_row (p := ⟨4, [40], false⟩) h1 h2 ⟨rfl, rfl, rfl⟩ fun n => ?_
  have hfq : Fo 4 (tq :: t1 :: rest) := ⟨fun v hv => by
    unfold levelT
    rw [if_pos (.inl q1), q2]
    match v, hv with
    | 4, _ => rfl
    | v + 5, _ => rfl, by simp [isT, q2]⟩
  have hl3 : levelT 3 tq = 8 := by unfold levelT; rw [if_pos (.inl q1), q2]; rfl
  have l3 : ∀ n, Q (rowT M L n 3 (d + 1) (tp :: (ts ++ tc :: tq :: t1 :: rest))) (.mk 8 [] 0 [e, oneE] 0 0) rest := by
    intro n
    rcases loop_at (lv := 3) (by omega) (n := n) (X := tp :: (ts ++ tc :: tq :: t1 :: rest)) (by simp) (fun n => paren_row h1 h2 h3 h4 h (lv := 4) (by omega) hfq n (d + 1)) with k | ⟨a, b, r, k⟩ | ⟨n', fr, e', k, he⟩
    · exact .inl k
    · exact .inr (.inl ⟨a, b, r, k⟩)
    · rw [k]
      cases n' with
      | zero => exact .inl (by simp [loopT])
      | succ n' =>
        unfold loopT
        simp only
        rw [hl3, if_neg (by decide)]
        have hm1 : Mt (pcE oneE 5 false) [t1] := by
          have hn : numT 1 = [49] := by rw [numT]; rfl
          have hp : pcE oneE 5 false = [⟨3, numT 1, false⟩] := by unfold pcE parP oneE; rw [if_neg (by decide), pcB]; rfl
          rw [hp, hn]; exact ⟨⟨o1, o2⟩, trivial⟩
        have hone := (allOK (M := M) (L := L) oneE one_ok).row 4 (by omega) n' (d + 1) [t1] rest false hm1 (hf.up (by omega))
        refine Q.bind hone fun b hb => ?_
        rw [if_neg (by decide)]
        exact loop_stop (by omega) (hf.up (by omega)) (by rw [er_mk, er_mk]; simp only [List.map_cons, List.map_nil]; rw [he, hb])
  exact row_up (by omega) (by simp) hf (fun n => row_up (by omega) (by simp) (hf.up (by omega)) (fun n => row_up (by omega) (by simp) (hf.up (by omega)) l3) ) 
end
end Go.Proofs.YtmkgmjdbgjiehaaDoor.Ab
