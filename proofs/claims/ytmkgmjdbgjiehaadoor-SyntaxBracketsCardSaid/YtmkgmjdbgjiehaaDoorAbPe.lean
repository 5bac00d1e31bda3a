/-
The walk over the program's texts, told with what its values say: a part of it. No further condition.
-/
import Derived.Test.YtmkgmjdbgjiehaaDoorAbSkU
import Derived.Test.YtmkgmjdbgjiehaaDoorAbPt
namespace Go.Proofs.YtmkgmjdbgjiehaaDoor
open Go.Proofs.YtmkgmjdbgjiehaaDoor.Ab
set_option linter.unusedVariables false
set_option linter.unusedSimpArgs false
attribute [local simp] Gr.refl Gr.new Gr.set Gr.kill Nat.add_assoc r_ckk chk_x chk_n new_set exV_cells exE_len exE_take
variable {E : En Tryd.prog} {B : Int}
theorem fun_ev (hT : E.T = T) (hB : B = 4294967296) {σ : St} {p q : Nat} {L r : List TK} {n kd : Nat} {pb : Bool} (h : Ps σ p L r ((0 : Nat) : Int)) (hq : σ.H q = some (itB kd pb [] 0 0 .nils i0 i0 .nils i0 i0)) (hlt : p < σ.n ∧ q < σ.n ∧ p ≠ q) (hne : funHd L n pb r ≠ .off) :
    HOut σ p q L B kd pb (funHd L n pb r) (ev E 30 [.ptr p 0 0, .ptr q 0 0] σ) := by
  have x0 : IQ σ σ p q L r _ := ⟨h, Tw.refl _ _ _, hq, hlt⟩
  have hev : ev E 30 [.ptr p 0 0, .ptr q 0 0] σ = run E false f30.res [.d f30.body] ⟨envOf [.ptr p 0 0, .ptr q 0 0], []⟩ σ := by
    rw [ev_eq (fd := f30) (by rw [hT]; rfl) (by simp [f30])]
    simp only [headR, f30, cutR]
    exact map_id' _
  rw [hev]
  suffices hs : GH σ p q L B kd pb (funHd L n pb r) (run E false f30.res [.d f30.body] ⟨envOf [.ptr p 0 0, .ptr q 0 0], []⟩ σ) from hs hne
  unfold funHd
  obtain ⟨Z, hZ⟩ : ∃ Z, Z = tlD (tlD (tlD (tlD d30))) := ⟨_, rfl⟩
  have hX : f30.body = subD 3 d30 (.seq (.block 0 (.loop [0, 1] b30_0)) (.kb [0, 1] Z)) := by rw [hZ]; rfl
  rw [hX]
  simp [d30, subD, f30]
  refine GH.call x0 (by simp) (by simp) (nameR hT x0.ps) (fun t r1 hr1 => ?_)
  have h1 := sufT x0.ps.suf (Sh.name _).wk hr1
  have x1 := x0.put h1
  generalize hs1 : σ.set p (pR L (ix L r1) ((0 : Nat) : Int)) = s1 at x1 ⊢
  have tke := tkE_eq t
  obtain ⟨w, hw⟩ : ∃ w, w = s1.n := ⟨_, rfl⟩
  have x2 := x1.new (.row 4 [tkE t])
  generalize hs2 : s1.new (.row 4 [tkE t]) = s2 at x2
  rw [tke] at hs2
  have c2 : s2.H w = some (.row 4 [[.int .i64 t.kind, .str t.txt, .int .i64 t.fr, .int .i64 t.to]]) := by rw [← hs2, hw]; simp
  have it2 := x2.it
  have wq : ¬ w = q := by have := x1.tw.n; omega
  obtain ⟨s3, hs3⟩ : ∃ s3, s3 = s2.set q (itB kd pb t.txt t.fr t.to .nils i0 i0 .nils i0 i0) := ⟨_, rfl⟩
  have x3 := x2.turn (itB kd pb t.txt t.fr t.to .nils i0 i0 .nils i0 i0)
  rw [← hs3] at x3
  simp only [itB, i0] at it2 hs3
  simp [tke, hs2]
  simp only [← hw]
  simp [it2, c2, wq, ← hs3]
  refine GH.call x3 (by simp) (by simp) (wantR hT x3.ps _) (fun _ r4 hr4 => ?_)
  have h4 := sufT x3.ps.suf (Sh.want _ _).wk hr4
  have x4 := x3.put h4
  simp
  refine pars_loop hT hB rfl n [] r4 .nils _ _ x4 (OG.nils _ _ _) (by simp) ?_ ?_ ?_ (fun l r' u' s' f' a b c' d' e' hh => ?_)
  · simp
  · simp
  · simp
  have cdd : f'.dd = [] := c'
  rw [hZ]
  simp [tlD, d30, c', d', e']
  refine GH.call a (by simp [c']) (by simp) (wantR hT a.ps _) (fun _ r5 hr5 => ?_)
  have h5 := sufT a.ps.suf (Sh.want _ _).wk hr5
  have x5 := a.put h5
  have o5 : OG σ (s'.set p (pR L (ix L r5) ((0 : Nat) : Int))) 8 u' (l.map (pmE B)) := b.keep (by simp) (fun l h1 h2 => by simp [show ¬ l = p by omega])
  generalize hs5 : s'.set p (pR L (ix L r5) ((0 : Nat) : Int)) = s5 at x5 o5 ⊢
  simp [c', d', e']
  refine GH.call x5 (by simp [c']) (by simp) (wantR hT x5.ps _) (fun _ r6 hr6 => ?_)
  have h6 := sufT x5.ps.suf (Sh.want _ _).wk hr6
  have x6 := x5.put h6
  have o6 : OG σ (s5.set p (pR L (ix L r6) ((0 : Nat) : Int))) 8 u' (l.map (pmE B)) := o5.keep (by simp) (fun l h1 h2 => by simp [show ¬ l = p by omega])
  generalize hs6 : s5.set p (pR L (ix L r6) ((0 : Nat) : Int)) = s6 at x6 o6 ⊢
  simp [c', d', e']
  refine GH.call x6 (by simp [c']) (by simp) (typR hT hB x6.ps) (fun ty r7 hr7 => ?_)
  have h7 := sufT x6.ps.suf (Wk.typ _ _ _) hr7
  have x7 := x6.put h7
  have o7 : OG σ (s6.set p (pR L (ix L r7) ((0 : Nat) : Int))) 8 u' (l.map (pmE B)) := o6.keep (by simp) (fun l h1 h2 => by simp [show ¬ l = p by omega])
  generalize hs7 : s6.set p (pR L (ix L r7) ((0 : Nat) : Int)) = s7 at x7 o7 ⊢
  have it7 := x7.it
  simp only [itB, i0] at it7
  have hty : tyV B ty = .agg [.int .i64 ty.base, .int .i64 ty.len, predV B ty.pred, .int .i64 ty.fr, .int .i64 ty.to] := rfl
  have psc := predV_scal B ty.pred
  simp [hty, it7, psc, c', d', e']
  intro _
  exact ⟨u', _, rfl, x7.turn _, o7.keep (by simp) (fun l h1 h2 => by simp [show ¬ l = q by omega])⟩
end Go.Proofs.YtmkgmjdbgjiehaaDoor
namespace Go.Proofs.YtmkgmjdbgjiehaaDoor
open Go.Proofs.YtmkgmjdbgjiehaaDoor.Ab
set_option linter.unusedVariables false
set_option linter.unusedSimpArgs false
attribute [local simp] Gr.refl Gr.new Gr.set Gr.kill Nat.add_assoc r_ckk chk_x chk_n new_set exV_cells exE_len exE_take
variable {E : En Tryd.prog} {B : Int}
def parsV (B : Int) (l : List Pm) : V := if l.map (pmE B) = [] then .nils else .islc 8 (l.map (pmE B))
def itE (B : Int) (it : It) : List V :=
  [.int .i64 it.kind, .bool it.pub, .str it.name, .int .i64 it.fr, .int .i64 it.to, parsV B it.params, .int .i64 it.result.base, .int .i64 it.result.len, predV B it.result.pred, .int .i64 it.result.fr, .int .i64 it.result.to] ++ exE B it.body
def itV (B : Int) (it : It) : V := .agg (itE B it)
def z18 : List V := [.int .i64 0, .bool false, .str [], .int .i64 0, .int .i64 0, .nils, .int .i64 0, .int .i64 0, .nils, .int .i64 0, .int .i64 0, .int .i64 0, .str [], .bool false, .nils, .nils, .int .i64 0, .int .i64 0]
theorem exE_ex (B : Int) (e : Ex) : ∃ a b c d f g h, exE B e = [a, b, c, d, f, g, h] := by cases e; exact ⟨_, _, _, _, _, _, _, rfl⟩
def restT (L : List TK) (n : Nat) (h : Hd) (r1 : List TK) : Rs It := (wantT [61] r1).bind fun _ r2 => (exprT 60 L n 0 r2).bind fun b r3 => (wantT [59] r3).bind fun _ r4 =>
    match r4 with
    | [] => .off
    | t :: r => if t.kind = 0 then .ok ⟨h.kind, h.pub, h.nm.txt, h.nm.fr, h.nm.to, h.params, h.result, b⟩ (t :: r) else .bad t.fr t.to 12 (t :: r)
theorem itemT_eq (L : List TK) (n : Nat) (ts : List TK) : itemT 60 L n ts = (headT 60 L n ts).bind (restT L n) := rfl
theorem item_tail (hT : E.T = T) (hB : B = 4294967296) {σ s : St} {p q n : Nat} {L r : List TK} {hd : Hd} {u : V} {f : Fr} (x : XT σ s p L r 0) (hre : s.H σ.n = some (.row 18 [z18])) (q0 : σ.n < q) (q1 : q < s.n)
    (hq : s.H q = some (itB hd.kind hd.pub hd.nm.txt hd.nm.fr hd.nm.to u (.int .i64 hd.result.base) (.int .i64 hd.result.len) (predV B hd.result.pred) (.int .i64 hd.result.fr) (.int .i64 hd.result.to))) (o : OG σ s 8 u (hd.params.map (pmE B))) (ou : ∀ k, u.row = some k → k ≠ σ.n ∧ k ≠ q)
    (g0 : f.ds = []) (e0 : f.env 0 = .ptr p 0 0) (e2 : f.env 2 = .ptr σ.n 0 0) (e3 : f.env 3 = .ptr q 0 0) :
    GG id σ p L (0 : Nat) (itV B) (restT L n hd r) (run E false [.cut σ, .c 2 (some 18)] [.d (tlD (tlD (tlD d18)))] f s) := by
  have hlt := x.lt
  have gdd : f.dd = [] := g0
  unfold restT
  obtain ⟨kd, pb, nm, pms, res⟩ := hd
  simp only at hq o ⊢
  simp [tlD, d18, g0, e0, e2, e3]
  have qp : ¬ q = p := by omega
  have sp : ¬ σ.n = p := by omega
  have sq : ¬ σ.n = q := by omega
  have qs : ¬ q = σ.n := by omega
  refine GG.call (wantR hT x.ps _) (fun a b e r' _ => pan_t x (by simp [g0, gdd]) (by simp) a b e) (fun _ r2 hr2 => ?_)
  have h2 := sufT x.ps.suf (Sh.want _ _).wk hr2
  have x2 := x.put h2
  have o2 : OG σ (s.set p (pR L (ix L r2) ((0 : Nat) : Int))) 8 u (pms.map (pmE B)) := o.keep (by simp) (fun l h1 h2 => by simp [show ¬ l = p by omega])
  have c2 : (s.set p (pR L (ix L r2) ((0 : Nat) : Int))).H σ.n = some (.row 18 [z18]) := by simp [sp, hre]
  have d2 := (show (s.set p (pR L (ix L r2) ((0 : Nat) : Int))).H q = s.H q by simp [qp]).trans hq
  generalize hs2 : s.set p (pR L (ix L r2) ((0 : Nat) : Int)) = s2 at x2 o2 c2 d2 ⊢
  have n2 : s2.n = s.n := by rw [← hs2]; rfl
  simp [g0, e0, e2, e3]
  refine GG.call (exprR hT hB x2.ps (by omega)) (fun a b e r' _ => pan_t x2 (by simp [g0, gdd]) (by simp) a b e) (fun ea r3 hr3 => ?_)
  have h3 := sufT x2.ps.suf ((allSh 60 L n).expr _ _).wk hr3
  have x3 := x2.put h3
  have o3 : OG σ (s2.set p (pR L (ix L r3) ((0 : Nat) : Int))) 8 u (pms.map (pmE B)) := o2.keep (by simp) (fun l h1 h2 => by simp [show ¬ l = p by omega])
  have c3 : (s2.set p (pR L (ix L r3) ((0 : Nat) : Int))).H σ.n = some (.row 18 [z18]) := by simp [sp, c2]
  have d3 := (show (s2.set p (pR L (ix L r3) ((0 : Nat) : Int))).H q = s2.H q by simp [qp]).trans d2
  generalize hs3 : s2.set p (pR L (ix L r3) ((0 : Nat) : Int)) = s3 at x3 o3 c3 d3 ⊢
  have n3 : s3.n = s.n := by rw [← hs3]; exact n2
  obtain ⟨a, b, c, d, e, g, h, hex⟩ := exE_ex B ea
  have hsc := exE_sc B ea
  rw [hex] at hsc
  have hV : exV B ea = .agg [a, b, c, d, e, g, h] := by rw [← hex]; rfl
  have scs : a.scal = true ∧ b.scal = true ∧ c.scal = true ∧ d.scal = true ∧ e.scal = true ∧ g.scal = true ∧ h.scal = true := ⟨hsc a (by simp), hsc b (by simp), hsc c (by simp), hsc d (by simp), hsc e (by simp), hsc g (by simp), hsc h (by simp)⟩
  obtain ⟨sa, sb, sc, sd, se, sg, sh⟩ := scs
  obtain ⟨s4, hs4⟩ : ∃ s4, s4 = s3.set q (.row 18 [[.int .i64 kd, .bool pb, .str nm.txt, .int .i64 nm.fr, .int .i64 nm.to, u, .int .i64 res.base, .int .i64 res.len, predV B res.pred, .int .i64 res.fr, .int .i64 res.to, a, b, c, d, e, g, h]]) := ⟨_, rfl⟩
  have x4 : XT σ s4 p L r3 0 := by rw [hs4]; exact x3.set (by omega) _
  have o4 : OG σ s4 8 u (pms.map (pmE B)) := ⟨o3.sl.mono fun l hl => by rw [hs4]; simp [show ¬ l = q from (ou l hl).2], fun k hk => by have := o3.lo k hk; rw [hs4]; simpa using this, o3.nl⟩
  have c4 : s4.H σ.n = some (.row 18 [z18]) := by rw [hs4]; simp [sq, c3]
  have d4 : s4.H q = some (.row 18 [[.int .i64 kd, .bool pb, .str nm.txt, .int .i64 nm.fr, .int .i64 nm.to, u, .int .i64 res.base, .int .i64 res.len, predV B res.pred, .int .i64 res.fr, .int .i64 res.to, a, b, c, d, e, g, h]]) := by rw [hs4]; simp
  have n4 : s4.n = s.n := by rw [hs4]; exact n3
  simp only [itB] at d3
  simp [hV, d3, sa, sb, sc, sd, se, sg, sh, ← hs4, g0, e0, e2, e3]
  refine GG.call (wantR hT x4.ps _) (fun a b e r' _ => pan_t x4 (by simp [g0, gdd]) (by simp) a b e) (fun _ r5 hr5 => ?_)
  have h5 := sufT x4.ps.suf (Sh.want _ _).wk hr5
  have x5 := x4.put h5
  have o5 : OG σ (s4.set p (pR L (ix L r5) ((0 : Nat) : Int))) 8 u (pms.map (pmE B)) := o4.keep (by simp) (fun l h1 h2 => by simp [show ¬ l = p by omega])
  have c5 : (s4.set p (pR L (ix L r5) ((0 : Nat) : Int))).H σ.n = some (.row 18 [z18]) := by simp [sp, c4]
  have d5 := (show (s4.set p (pR L (ix L r5) ((0 : Nat) : Int))).H q = s4.H q by simp [qp]).trans d4
  generalize hs5 : s4.set p (pR L (ix L r5) ((0 : Nat) : Int)) = s5 at x5 o5 c5 d5 ⊢
  have n5 : s5.n = s.n := by rw [← hs5]; exact n4
  cases r5 with
  | nil => exact fun hh => absurd rfl hh
  | cons t r5 =>
    simp only
    have hnow := now_ev hT x5.ps
    rw [tkE_eq] at hnow
    by_cases hk : t.kind = 0
    · rw [if_pos hk]
      have hk' : (t.kind : Int) = 0 := by omega
      simp only [z18] at c5
      have psc := predV_scal B res.pred
      have usc := o5.scal
      simp [hnow, hk', d5, c5, sq, qs, psc, usc, sa, sb, sc, sd, se, sg, sh, g0, e0, e2, e3]
      refine GG.done ?_
      have x6 := x5.set (l := σ.n) (Nat.le_refl _) (.row 18 [[.int .i64 kd, .bool pb, .str nm.txt, .int .i64 nm.fr, .int .i64 nm.to, u, .int .i64 res.base, .int .i64 res.len, predV B res.pred, .int .i64 res.fr, .int .i64 res.to, a, b, c, d, e, g, h]])
      rw [cut_ps (L := L) (i := ix L (t :: r5)) (d := ((0 : Nat) : Int)) (o' := .ret (itV B ⟨kd, pb, nm.txt, nm.fr, nm.to, pms, res, ea⟩)) x.lt x6.ps.H x6.tn]
      · rfl
      rw [frzO_ret, frzV_agg]
      have o6 := o5.frz (pmE_pure B pms) (s2 := s5) (fun _ _ _ => rfl) 1099511627775
      have o7 : OG σ (s5.set σ.n (.row 18 [[.int .i64 kd, .bool pb, .str nm.txt, .int .i64 nm.fr, .int .i64 nm.to, u, .int .i64 res.base, .int .i64 res.len, predV B res.pred, .int .i64 res.fr, .int .i64 res.to, a, b, c, d, e, g, h]])) 8 u (pms.map (pmE B)) := ⟨o5.sl.mono fun l hl => by simp [show ¬ l = σ.n from (ou l hl).1], fun k hk => by have := o5.lo k hk; simpa using this, o5.nl⟩
      have o8 := o7.frz (pmE_pure B pms) (s2 := _) (fun _ _ _ => rfl) 1099511627775
      have hb := frz_list (s5.set σ.n (.row 18 [[.int .i64 kd, .bool pb, .str nm.txt, .int .i64 nm.fr, .int .i64 nm.to, u, .int .i64 res.base, .int .i64 res.len, predV B res.pred, .int .i64 res.fr, .int .i64 res.to, a, b, c, d, e, g, h]])).H (fun l => decide (l < σ.n)) (exE_pure B ea) 1099511627776
      rw [hex] at hb
      simp only [itV, itE, parsV, hex]
      simp only [List.map_cons, List.map_nil] at hb ⊢
      rw [o8]
      simp only [List.cons.injEq, and_true] at hb
      obtain ⟨b1, b2, b3, b4, b5, b6, b7⟩ := hb
      rw [b1, b2, b3, b4, b5, b6, b7, predV_frz]
      simp
    · rw [if_neg hk]
      have hk' : ¬ (t.kind : Int) = 0 := by omega
      have hf := fail_ev hT x5.ps 12
      simp only [Int.cast_ofNat_Int] at hf
      simp [hnow, hk, hk', hf, g0, e0, e2, e3]
      intro _
      show some (cutR .all σ (.panic (failV t.fr t.to 12), s5)) = _
      rw [pan_h x5 _ _ _ (by omega)]; rfl
end Go.Proofs.YtmkgmjdbgjiehaaDoor
namespace Go.Proofs.YtmkgmjdbgjiehaaDoor
open Go.Proofs.YtmkgmjdbgjiehaaDoor.Ab
set_option linter.unusedVariables false
set_option linter.unusedSimpArgs false
attribute [local simp] Gr.refl Gr.new Gr.set Gr.kill Nat.add_assoc r_ckk chk_x chk_n new_set exV_cells exE_len exE_take
variable {E : En Tryd.prog} {B : Int}
theorem head_call (hT : E.T = T) (hB : B = 4294967296) {σ s : St} {p q n kd : Nat} {pb : Bool} {L : List TK} {spec : Rs Hd} {x : Option (CO × St)} {dr : Bool} {st : List SE} {f : Fr} {dst : Option Nat} (hx : spec ≠ .off → HOut s p q L B kd pb spec x) (hok : ∀ hd r, spec = .ok hd r → hd.kind = kd ∧ hd.pub = pb)
    (htn : Tn σ s p) (hre : s.H σ.n = some (.row 18 [z18])) (q0 : σ.n < q) (q1 : q < s.n) (hlt : p < σ.n) (hdd : f.dd = []) (hn : noRnd st = true)
    (kk : ∀ (f' : Fr) (s' : St) hd r u, f' = f.put dst (.tup []) → XT σ s' p L r 0 → s'.H σ.n = some (.row 18 [z18]) → q < s'.n → s'.H q = some (itB hd.kind hd.pub hd.nm.txt hd.nm.fr hd.nm.to u (.int .i64 hd.result.base) (.int .i64 hd.result.len) (predV B hd.result.pred) (.int .i64 hd.result.fr) (.int .i64 hd.result.to)) → OG σ s' 8 u (hd.params.map (pmE B)) → (∀ k, u.row = some k → k ≠ σ.n ∧ k ≠ q) →
      GG id σ p L (0 : Nat) (itV B) (restT L n hd r) (run E false [.cut σ, .c 2 (some 18)] st f' s')) :
    GG id σ p L (0 : Nat) (itV B) (spec.bind (restT L n)) (goC E false [.cut σ, .c 2 (some 18)] st f dst dr x) := by
  intro hne
  cases hs : spec with
  | off => rw [hs] at hne; exact absurd rfl hne
  | bad a b e r =>
    obtain ⟨s', rfl, h2, h3⟩ := (by have := hx (by rw [hs]; simp); rw [hs] at this; exact this : HOut s p q L B kd pb (.bad a b e r) x)
    have tn' : Tn σ s' p := ⟨Nat.le_trans htn.n h3.n, fun l hl hp => (h3.H l (by have := htn.n; omega) hp (by omega)).trans (htn.H l hl hp), h3.W.trans htn.W⟩
    show panF E (run E) false dr (.cut σ :: [.c 2 (some 18)]) f (failV a b e) st s' = _
    rw [pan_nil2 E false _ _ _ _ _ _ hdd hn, ct_cut, cut_ps (L := L) (i := ix L r) (d := if e = 13 then 1 else 0) hlt h2 tn' (frz_fail _ _ _ _ _)]
    rfl
  | ok hd r =>
    obtain ⟨u, s', rfl, h2, h3⟩ := (by have := hx (by rw [hs]; simp); rw [hs] at this; exact this : HOut s p q L B kd pb (.ok hd r) x)
    obtain ⟨k1, k2⟩ := hok hd r hs
    have h4 := h2.tw
    have tn' : Tn σ s' p := ⟨Nat.le_trans htn.n h4.n, fun l hl hp => (h4.H l (by have := htn.n; omega) hp (by omega)).trans (htn.H l hl hp), h4.W.trans htn.W⟩
    have hn0 := htn.n
    have := kk _ s' hd r u rfl ⟨h2.ps, tn', hlt⟩ ((h4.H σ.n (by omega) (by omega) (by omega)).trans hre) (by have := h4.n; omega) (by rw [k1, k2]; exact h2.it) ⟨h3.sl, fun k hk => by have := h3.lo k hk; omega, h3.nl⟩ (fun k hk => by have := (h3.lo k hk).1; omega)
    exact this (by rw [hs] at hne; exact hne)
theorem qualHd_ok {n : Nat} {r : List TK} {hd : Hd} {r' : List TK} (h : qualHd n r = .ok hd r') : hd.kind = 2 ∧ hd.pub = false := by
  unfold qualHd at h
  cases h1 : nameT r with
  | off => rw [h1] at h; cases h
  | bad => rw [h1] at h; cases h
  | ok a r1 =>
    rw [h1, Rs.bind_ok] at h
    cases h2 : wantT [40] r1 with
    | off => rw [h2] at h; cases h
    | bad => rw [h2] at h; cases h
    | ok _ r2 =>
      rw [h2, Rs.bind_ok] at h
      cases h3 : qualT n [] r2 with
      | off => rw [h3] at h; cases h
      | bad => rw [h3] at h; cases h
      | ok _ r3 =>
        rw [h3, Rs.bind_ok] at h
        cases h4 : wantT [41] r3 with
        | off => rw [h4] at h; cases h
        | bad => rw [h4] at h; cases h
        | ok _ r4 => rw [h4, Rs.bind_ok] at h; cases h; exact ⟨rfl, rfl⟩
theorem funHd_ok {L : List TK} {n : Nat} {pb : Bool} {r : List TK} {hd : Hd} {r' : List TK} (h : funHd L n pb r = .ok hd r') : hd.kind = 1 ∧ hd.pub = pb := by
  unfold funHd at h
  cases h1 : nameT r with
  | off => rw [h1] at h; cases h
  | bad => rw [h1] at h; cases h
  | ok a r1 =>
    rw [h1, Rs.bind_ok] at h
    cases h2 : wantT [40] r1 with
    | off => rw [h2] at h; cases h
    | bad => rw [h2] at h; cases h
    | ok _ r2 =>
      rw [h2, Rs.bind_ok] at h
      cases h3 : parsT 60 L n n [] r2 with
      | off => rw [h3] at h; cases h
      | bad => rw [h3] at h; cases h
      | ok _ r3 =>
        rw [h3, Rs.bind_ok] at h
        cases h4 : wantT [41] r3 with
        | off => rw [h4] at h; cases h
        | bad => rw [h4] at h; cases h
        | ok _ r4 =>
          rw [h4, Rs.bind_ok] at h
          cases h5 : wantT [45, 62] r4 with
          | off => rw [h5] at h; cases h
          | bad => rw [h5] at h; cases h
          | ok _ r5 =>
            rw [h5, Rs.bind_ok] at h
            cases h6 : typT 60 L n r5 with
            | off => rw [h6] at h; cases h
            | bad => rw [h6] at h; cases h
            | ok _ r6 => rw [h6, Rs.bind_ok] at h; cases h; exact ⟨rfl, rfl⟩
theorem item_ev (hT : E.T = T) (hB : B = 4294967296) {σ : St} {p n : Nat} {L r : List TK} (h : Ps σ p L r ((0 : Nat) : Int)) (hne : itemT 60 L n r ≠ .off) : ev E 18 [.ptr p 0 0] σ = Out σ p L ((0 : Nat) : Int) (itV B) (itemT 60 L n r) := by
  rw [itemT_eq] at hne ⊢
  cases r with
  | nil => exact absurd (by simp [headT, takeT, wantT, missT]) hne
  | cons t r =>
    have hlt := h.lt
    obtain ⟨s1, hs1⟩ : ∃ s1, s1 = (σ.new (.row 18 [z18])).new (.row 18 [z18]) := ⟨_, rfl⟩
    have x1 : XT σ s1 p L (t :: r) 0 := by rw [hs1]; exact ((XT.refl h).new _).new _
    have re1 : s1.H σ.n = some (.row 18 [z18]) := by rw [hs1]; simp
    have q1 : s1.H (σ.n + 1) = some (.row 18 [z18]) := by rw [hs1]; simp
    have n1 : s1.n = σ.n + 2 := by rw [hs1]; rfl
    have sp : ¬ σ.n = p := by omega
    have qp : ¬ σ.n + 1 = p := by omega
    rw [headT_eq] at hne ⊢
    rw [ev_eq (fd := f18) (by rw [hT]; rfl) (by simp [f18])]
    simp only [headR, f18, cutR]
    refine GG.out ?_ hne
    obtain ⟨Z, hZ⟩ : ∃ Z, Z = tlD (tlD (tlD d18)) := ⟨_, rfl⟩
    have hX : d18 = subD 2 d18 (.seq (seqA (tlD (tlD d18))) (.kb [0, 2, 3] Z)) := by rw [hZ]; rfl
    have tail := fun hd u r' s' f' a1 a2 a3 a4 a5 a6 a7 a8 a9 a10 a11 => item_tail (E := E) (n := n) hT hB (σ := σ) (s := s') (p := p) (q := σ.n + 1) (L := L) (r := r') (hd := hd) (u := u) (f := f') a1 a2 a3 a4 a5 a6 a7 a8 a9 a10 a11
    rw [← hZ] at tail
    rw [hX]
    have q1' := q1
    simp only [z18] at hs1 q1'
    cases hql : isT [113, 117, 97, 108] (t :: r) with
    | true =>
      have tk := take_yes hT x1.ps hql
      obtain ⟨s2, hs2⟩ : ∃ s2, s2 = s1.set p (pR L (ix L r) ((0 : Nat) : Int)) := ⟨_, rfl⟩
      have x2 : XT σ s2 p L r 0 := by rw [hs2]; exact x1.put (suf_tail x1.ps.suf)
      rw [← hs2] at tk
      have q2 : s2.H (σ.n + 1) = some (.row 18 [z18]) := by rw [hs2]; simp [qp, q1]
      have re2 : s2.H σ.n = some (.row 18 [z18]) := by rw [hs2]; simp [sp, re1]
      have n2 : s2.n = σ.n + 2 := by rw [hs2]; exact n1
      simp only [z18] at q2
      simp only [if_true]
      obtain ⟨s3, hs3⟩ : ∃ s3, s3 = s2.set (σ.n + 1) (itB 2 false [] 0 0 .nils i0 i0 .nils i0 i0) := ⟨_, rfl⟩
      have x3 : XT σ s3 p L r 0 := by rw [hs3]; exact x2.set (by omega) _
      have q3 : s3.H (σ.n + 1) = some (itB 2 false [] 0 0 .nils i0 i0 .nils i0 i0) := by rw [hs3]; simp
      have re3 : s3.H σ.n = some (.row 18 [z18]) := by rw [hs3]; simp [re2]
      have n3 : s3.n = σ.n + 2 := by rw [hs3]; exact n2
      have hc := qual_ev (E := E) (B := B) (n := n) hT x3.ps q3 ⟨by omega, by omega, by omega⟩
      simp [itB, i0] at hs3
      simp [d18, subD, tlD, seqA, ← hs1, tk, q2]
      rw [← hs3]
      refine head_call hT hB hc (fun hd r h => qualHd_ok h) x3.tn re3 (by omega) (by omega) hlt (by simp) (by simp) (fun f' s' hd r u hf a b c d e g => ?_)
      subst hf
      simp
      refine tail hd u r s' _ a b (by omega) c d e g ?_ ?_ ?_ ?_
      all_goals simp
    | false =>
      have tkq := take_no hT x1.ps hql
      simp only [Bool.false_eq_true, if_false]
      -- behind pub
      have key : ∀ (pb : Bool) (r0 : List TK) (s2 : St) (f2 : Fr), XT σ s2 p L r0 0 → s2.H σ.n = some (.row 18 [z18]) → s2.H (σ.n + 1) = some (itB 0 pb [] 0 0 .nils i0 i0 .nils i0 i0) → s2.n = σ.n + 2 → f2.ds = [] → f2.env 0 = .ptr p 0 0 → f2.env 2 = .ptr σ.n 0 0 → f2.env 3 = .ptr (σ.n + 1) 0 0 →
          GG id σ p L (0 : Nat) (itV B) (((wantT [102, 110] r0).bind fun _ r1 => funHd L n pb r1).bind (restT L n)) (run E false [.cut σ, .c 2 (some 18)] [.d (tlD (condB (tlD (seqA (tlD (tlD d18)))))), .d (.kb [0, 2, 3] Z)] f2 s2) := by
        intro pb r0 s2 f2 x2 re2 q2 n2 g0 e0 e2 e3
        have gdd : f2.dd = [] := g0
        rw [bind_assoc]
        simp only [itB, i0] at q2
        simp [d18, tlD, seqA, condB, g0, e0, e2, e3]
        refine GG.call (wantR hT x2.ps _) (fun a b e r' _ => pan_t x2 (by simp [g0, gdd]) (by simp) a b e) (fun _ r1 hr1 => ?_)
        have h1 := sufT x2.ps.suf (Sh.want _ _).wk hr1
        have x3 := x2.put h1
        have re3 : (s2.set p (pR L (ix L r1) ((0 : Nat) : Int))).H σ.n = some (.row 18 [z18]) := by simp [sp, re2]
        have q3 := (show (s2.set p (pR L (ix L r1) ((0 : Nat) : Int))).H (σ.n + 1) = s2.H (σ.n + 1) by simp [qp]).trans q2
        generalize hs3 : s2.set p (pR L (ix L r1) ((0 : Nat) : Int)) = s3 at x3 re3 q3 ⊢
        have n3 : s3.n = σ.n + 2 := by rw [← hs3]; exact n2
        obtain ⟨s4, hs4⟩ : ∃ s4, s4 = s3.set (σ.n + 1) (itB 1 pb [] 0 0 .nils i0 i0 .nils i0 i0) := ⟨_, rfl⟩
        have x4 : XT σ s4 p L r1 0 := by rw [hs4]; exact x3.set (by omega) _
        have q4 : s4.H (σ.n + 1) = some (itB 1 pb [] 0 0 .nils i0 i0 .nils i0 i0) := by rw [hs4]; simp
        have re4 : s4.H σ.n = some (.row 18 [z18]) := by rw [hs4]; simp [re3]
        have n4 : s4.n = σ.n + 2 := by rw [hs4]; exact n3
        have hc := fun_ev (E := E) (B := B) (n := n) hT hB x4.ps q4 ⟨by omega, by omega, by omega⟩
        simp [itB, i0] at hs4
        simp [q3, g0, e0, e2, e3]
        rw [← hs4]
        refine head_call hT hB hc (fun hd r h => funHd_ok h) x4.tn re4 (by omega) (by omega) hlt (by simp [gdd, g0]) (by simp) (fun f' s' hd r u hf a b c d e g => ?_)
        subst hf
        simp
        refine tail hd u r s' _ a b (by omega) c d e g ?_ ?_ ?_ ?_
        all_goals simp [g0, e0, e2, e3]
      have hY : seqA (tlD (tlD d18)) = .seq (.reg [⟨some 4, none, .mv (.t 0)⟩, ⟨some 5, none, .call 27 [.t 4, .c (.str [113, 117, 97, 108])]⟩]) (.kb [0, 2, 3, 5] (.cond (.t 5) (condA (tlD (seqA (tlD (tlD d18))))) (.seq (.reg [⟨some 9, none, .mv (.t 0)⟩, ⟨some 10, none, .call 27 [.t 9, .c (.str [112, 117, 98])]⟩, ⟨some 11, none, .fa 1 (.t 3)⟩, ⟨none, none, .st 1 (.t 11) (.t 10)⟩]) (.kb [0, 2, 3] (tlD (condB (tlD (seqA (tlD (tlD d18))))))))) ) := rfl
      obtain ⟨Y, hYY⟩ : ∃ Y, Y = tlD (condB (tlD (seqA (tlD (tlD d18))))) := ⟨_, rfl⟩
      obtain ⟨Y2, hY2⟩ : ∃ Y2, Y2 = condA (tlD (seqA (tlD (tlD d18)))) := ⟨_, rfl⟩
      rw [← hYY] at key hY
      rw [← hY2] at hY
      rw [hY]
      cases hpu : isT [112, 117, 98] (t :: r) with
      | true =>
        have tk := take_yes hT x1.ps hpu
        obtain ⟨s2, hs2⟩ : ∃ s2, s2 = s1.set p (pR L (ix L r) ((0 : Nat) : Int)) := ⟨_, rfl⟩
        have x2 : XT σ s2 p L r 0 := by rw [hs2]; exact x1.put (suf_tail x1.ps.suf)
        rw [← hs2] at tk
        have q2 : s2.H (σ.n + 1) = some (.row 18 [z18]) := by rw [hs2]; simp [qp, q1]
        have re2 : s2.H σ.n = some (.row 18 [z18]) := by rw [hs2]; simp [sp, re1]
        have n2 : s2.n = σ.n + 2 := by rw [hs2]; exact n1
        simp only [z18] at q2
        simp only [if_true, Rs.bind_ok]
        simp [d18, subD, ← hs1, tkq, tk, q2]
        refine key true r _ _ (x2.set (l := σ.n + 1) (by omega) (itB 0 true [] 0 0 .nils i0 i0 .nils i0 i0)) (by simp [re2]) (by simp [itB, i0]) (by simp [n2]) ?_ ?_ ?_ ?_
        all_goals simp
      | false =>
        have tk := take_no hT x1.ps hpu
        simp only [Bool.false_eq_true, if_false, Rs.bind_ok]
        simp [d18, subD, ← hs1, tkq, tk, q1']
        refine key false (t :: r) _ _ (x1.set (l := σ.n + 1) (by omega) (itB 0 false [] 0 0 .nils i0 i0 .nils i0 i0)) (by simp [re1]) (by simp [itB, i0]) (by simp [n1]) ?_ ?_ ?_ ?_
        all_goals simp
end Go.Proofs.YtmkgmjdbgjiehaaDoor
namespace Go.Proofs.YtmkgmjdbgjiehaaDoor
open Go.Proofs.YtmkgmjdbgjiehaaDoor.Ab
set_option linter.unusedVariables false
set_option linter.unusedSimpArgs false
attribute [local simp] Gr.refl Gr.new Gr.set Gr.kill Nat.add_assoc r_ckk chk_x chk_n new_set exV_cells exE_len exE_take
variable {E : En Tryd.prog} {B : Int}
def parseV (B : Int) : PR → V
  | .good it => .tup [itV B it, .agg [.int .i64 0, .int .i64 0], .int .i64 0]
  | .err a b e => .tup [.agg z18, .agg [.int .i64 a, .int .i64 b], .int .i64 e]
theorem itE_ok (B : Int) (it : It) : (itE B it).length = 18 ∧ (∀ x ∈ itE B it, x.scal = true) ∧ (∀ x ∈ itE B it, x.pure = true) := by
  have p1 : (parsV B it.params).scal = true ∧ (parsV B it.params).pure = true := by unfold parsV; split <;> exact ⟨rfl, rfl⟩
  have e1 := exE_sc B it.body
  have e2 := exE_pure B it.body
  refine ⟨by simp [itE, exE_len], fun x hx => ?_, fun x hx => ?_⟩
  · simp only [itE, List.mem_append, List.mem_cons, List.not_mem_nil, or_false] at hx
    rcases hx with (rfl | rfl | rfl | rfl | rfl | rfl | rfl | rfl | rfl | rfl | rfl) | hx <;> first | rfl | exact p1.1 | exact predV_scal _ _ | exact e1 x hx
  · simp only [itE, List.mem_append, List.mem_cons, List.not_mem_nil, or_false] at hx
    rcases hx with (rfl | rfl | rfl | rfl | rfl | rfl | rfl | rfl | rfl | rfl | rfl) | hx <;> first | rfl | exact p1.2 | exact predV_pure _ _ | exact e2 x hx
theorem rec_ret (hT : E.T = T) {s : St} {q0 q1 q2 : Nat} : dF E (run E) 17 ([] ++ [.ptr q0 0 0, .ptr q1 0 0, .ptr q2 0 0]) .ret s = some (.ret (.tup []), .ret, s.new (.row 3 [[.int .i64 0, .int .i64 0, .int .i64 0]])) := by
  have := dF_rec (E := E) (k := 17) (fd := f17) (cap := [.ptr q0 0 0, .ptr q1 0 0, .ptr q2 0 0]) (args := []) (m := .ret) (σ := s) (σ' := s.new (.row 3 [[.int .i64 0, .int .i64 0, .int .i64 0]])) (o := .ret (.tup [])) (by rw [hT]; rfl) (by simp [f17]) (hr := rfl) (by simp [f17, recV])
  exact this
theorem rec_pan (hT : E.T = T) {s : St} {q0 q1 q2 : Nat} {x0 x1 : List V} {x2 : V} (h0 : s.H q0 = some (.row 18 [x0])) (h1 : s.H q1 = some (.row 2 [x1])) (h2 : s.H q2 = some (.row 1 [[x2]])) (l0 : x0.length = 18) (l1 : x1.length = 2) (n01 : q0 ≠ q1) (n02 : q0 ≠ q2) (n12 : q1 ≠ q2) (b0 : q0 < s.n) (b1 : q1 < s.n) (b2 : q2 < s.n) (a b e : Nat) :
    ∃ s', dF E (run E) 17 ([] ++ [.ptr q0 0 0, .ptr q1 0 0, .ptr q2 0 0]) (.pan (failV a b e)) s = some (.ret (.tup []), .rcv (failV a b e), s') ∧ s'.H q0 = some (.row 18 [z18]) ∧ s'.H q1 = some (.row 2 [[.int .i64 a, .int .i64 b]]) ∧ s'.H q2 = some (.row 1 [[.int .i64 e]]) ∧ (∀ l, l < s.n → l ≠ q0 → l ≠ q1 → l ≠ q2 → s'.H l = s.H l) ∧ s'.W = s.W := by
  have g0 : ¬ q0 = s.n := by omega
  have g1 : ¬ q1 = s.n := by omega
  have g2 : ¬ q2 = s.n := by omega
  have g3 : ¬ s.n = q0 := by omega
  have g4 : ¬ s.n = q1 := by omega
  have g5 : ¬ s.n = q2 := by omega
  obtain ⟨s1, hs1⟩ : ∃ s1, s1 = s.new (.row 3 [[.int .i64 a, .int .i64 b, .int .i64 e]]) := ⟨_, rfl⟩
  have c0 : s1.H q0 = some (.row 18 [x0]) := by rw [hs1]; simp [g0, h0]
  have c1 : s1.H q1 = some (.row 2 [x1]) := by rw [hs1]; simp [g1, h1]
  have c2 : s1.H q2 = some (.row 1 [[x2]]) := by rw [hs1]; simp [g2, h2]
  have c3 : s1.H s.n = some (.row 3 [[.int .i64 a, .int .i64 b, .int .i64 e]]) := by rw [hs1]; simp
  obtain ⟨q3, hq3⟩ : ∃ q3, q3 = s.n := ⟨_, rfl⟩
  rw [← hq3] at c3 g3 g4 g5
  have d0 : x0.drop 18 = [] := List.drop_eq_nil_of_le (by omega)
  have d1 : x1.drop 2 = [] := List.drop_eq_nil_of_le (by omega)
  have := dF_rec (E := E) (k := 17) (fd := f17) (cap := [.ptr q0 0 0, .ptr q1 0 0, .ptr q2 0 0]) (args := []) (m := .pan (failV a b e)) (σ := s) (σ' := ((s1.set q0 (.row 18 [z18])).set q1 (.row 2 [[.int .i64 a, .int .i64 b]])).set q2 (.row 1 [[.int .i64 e]])) (o := .ret (.tup [])) (by rw [hT]; rfl) (by simp [f17]) (hr := rfl) (by
    simp only [z18]
    simp [f17, recV, failV, ← hs1]
    simp [← hq3, c0, c1, c2, c3, g3, g4, g5, l0, l1, d0, d1, n01, n02, n12, n01.symm, n02.symm, n12.symm])
  refine ⟨_, this, by simp [n01, n02], by simp [n12], by simp, fun l hl k0 k1 k2 => by rw [hs1]; simp [k0, k1, k2, show ¬ l = s.n by omega], by rw [hs1]; rfl⟩
theorem parse_ev (hT : E.T = T) (hB : B = 4294967296) {σ : St} {v : V} {b : List UInt8} (hv : Bs σ v b) (ho : v.old σ) (hb : b.length < 2 ^ 38) : ev E 9 [v] σ = some (.ret (parseV B (parseF b)), σ) := by
  obtain ⟨s3, hs3⟩ : ∃ s3, s3 = ((σ.new (.row 18 [z18])).new (.row 2 [[.int .i64 0, .int .i64 0]])).new (.row 1 [[.int .i64 0]]) := ⟨_, rfl⟩
  have g3 : Gr σ s3 := by rw [hs3]; exact (((Gr.refl σ).new _).new _).new _
  have hn3 : s3.n = σ.n + 3 := by rw [hs3]; rfl
  have c0 : s3.H σ.n = some (.row 18 [z18]) := by rw [hs3]; simp
  have c1 : s3.H (σ.n + 1) = some (.row 2 [[.int .i64 0, .int .i64 0]]) := by rw [hs3]; simp
  have c2 : s3.H (σ.n + 2) = some (.row 1 [[.int .i64 0]]) := by rw [hs3]; simp
  have htok := tokens_ev hT (hv.gr g3 ho) (V.old_gr ho g3) (show b.length < 2 ^ 40 by omega)
  unfold parseF
  by_cases h0 : (tksF b).2.2 = 0
  · rw [if_pos h0]
    have htv : tokensV b = .tup [.islc 4 ((tksF b).1.map tkE), .int .i64 0, .int .i64 0] := by unfold tokensV; exact if_pos h0
    obtain ⟨t1, t2, t3⟩ := toks_good (K := b.length) (b.length + 1) b (by omega) h0
    rw [htv] at htok
    obtain ⟨L, hL⟩ : ∃ L, L = (tksF b).1 := ⟨_, rfl⟩
    have t1' : Go.Proofs.YtmkgmjdbgjiehaaDoor.Ab.Ends L := by rw [hL]; exact t1
    have gd : Gd L := ⟨by rw [hL]; unfold tksF; omega, fun t ht hk => by
      have := t2 t (by rw [hL] at ht; exact ht) hk
      exact ⟨this.1, by omega⟩⟩
    rw [← hL] at htok ⊢
    obtain ⟨s4, hs4⟩ : ∃ s4, s4 = s3.set (σ.n + 2) (.row 1 [[.int .i64 0]]) := ⟨_, rfl⟩
    have n4 : s4.n = σ.n + 3 := by rw [hs4]; exact hn3
    have d0 : s4.H σ.n = some (.row 18 [z18]) := by rw [hs4]; simp [c0]
    have d1 : s4.H (σ.n + 1) = some (.row 2 [[.int .i64 0, .int .i64 0]]) := by rw [hs4]; simp [c1]
    have d2 : s4.H (σ.n + 2) = some (.row 1 [[.int .i64 0]]) := by rw [hs4]; simp
    have g4 : Gr σ s4 := by rw [hs4]; exact g3.set (by omega) _
    obtain ⟨p, hp⟩ : ∃ p, p = s4.n := ⟨_, rfl⟩
    obtain ⟨s5, hs5⟩ : ∃ s5, s5 = s4.new (.row 3 [[.islc 4 (L.map tkE), .int .i64 0, .int .i64 0]]) := ⟨_, rfl⟩
    have hix : ix L L = 0 := by unfold ix; omega
    have hps : Ps s5 p L L ((0 : Nat) : Int) := ⟨by rw [hs5, hp]; simp, by rw [hs5, hp, hix]; simp [pR], List.suffix_refl _, gd⟩
    have htot := (To.item 60 L (n := fuelF L) t1' (by unfold fuelF; omega)).1
    have hit := item_ev hT hB hps htot
    have e0 : s5.H σ.n = some (.row 18 [z18]) := by rw [hs5]; simp [show ¬ σ.n = s4.n by omega, d0]
    have e1 : s5.H (σ.n + 1) = some (.row 2 [[.int .i64 0, .int .i64 0]]) := by rw [hs5]; simp [show ¬ σ.n + 1 = s4.n by omega, d1]
    have e2 : s5.H (σ.n + 2) = some (.row 1 [[.int .i64 0]]) := by rw [hs5]; simp [show ¬ σ.n + 2 = s4.n by omega, d2]
    have g5 : Gr σ s5 := by rw [hs5]; exact g4.new _
    have n5 : s5.n = σ.n + 4 := by rw [hs5]; simp [n4]
    have p3 : p = σ.n + 3 := by rw [hp, n4]
    have k0 : ¬ σ.n = p := by omega
    have k1 : ¬ σ.n + 1 = p := by omega
    have k2 : ¬ σ.n + 2 = p := by omega
    have hbox : ∀ s : St, boxV s (.agg [.islc 4 (L.map tkE), .int .i64 0, .int .i64 0]) = some (.ptr s.n 0 0, s.new (.row 3 [[.islc 4 (L.map tkE), .int .i64 0, .int .i64 0]])) := fun s => by simp
    cases hr : itemT 60 L (fuelF L) L with
    | off => exact absurd hr htot
    | ok it r =>
      rw [hr] at hit
      simp only [Out] at hit
      obtain ⟨s6, hs6⟩ : ∃ s6, s6 = s5.set p (pR L (ix L r) ((0 : Nat) : Int)) := ⟨_, rfl⟩
      rw [← hs6] at hit
      have f0 : s6.H σ.n = some (.row 18 [z18]) := by rw [hs6]; simp [k0, e0]
      have f1 : s6.H (σ.n + 1) = some (.row 2 [[.int .i64 0, .int .i64 0]]) := by rw [hs6]; simp [k1, e1]
      have f2 : s6.H (σ.n + 2) = some (.row 1 [[.int .i64 0]]) := by rw [hs6]; simp [k2, e2]
      obtain ⟨i1, i2, i3⟩ := itE_ok B it
      have hiv : itV B it = .agg (itE B it) := rfl
      obtain ⟨s7, hs7⟩ : ∃ s7, s7 = ((s6.set σ.n (.row 18 [itE B it])).set (σ.n + 1) (.row 2 [[.int .i64 0, .int .i64 0]])).set (σ.n + 2) (.row 1 [[.int .i64 0]]) := ⟨_, rfl⟩
      have hrc := rec_ret (E := E) (s := s7) (q0 := σ.n) (q1 := σ.n + 1) (q2 := σ.n + 2) hT
      have n7 : s7.n = σ.n + 4 := by rw [hs7, hs6]; exact n5
      have htk18 : (itE B it).take 18 = itE B it := List.take_of_length_le (by omega)
      have hdr18 : (itE B it).drop 18 = [] := List.drop_eq_nil_of_le (by omega)
      have m0 : s7.H σ.n = some (.row 18 [itE B it]) := by rw [hs7]; simp
      have m1 : s7.H (σ.n + 1) = some (.row 2 [[.int .i64 0, .int .i64 0]]) := by rw [hs7]; simp
      have m2 : s7.H (σ.n + 2) = some (.row 1 [[.int .i64 0]]) := by rw [hs7]; simp
      refine ev_pure (fd := f9) (o := .ret (.tup [.agg (itE B it), .agg [.int .i64 0, .int .i64 0], .int .i64 0])) (σ' := s7.new (.row 3 [[.int .i64 0, .int .i64 0, .int .i64 0]])) (by rw [hT]; rfl) (by simp [f9]) rfl ?_ (fun k hk => ?_) ?_ ?_
      · simp only [z18] at hs3 c0 d0 e0 f0
        simp [f9, d9, ← hs3, htok, c2, ← hs4, d0, d1, d2, hbox, -boxV_a, ← hs5]
        simp only [← hp]
        simp [hit, hiv, i1, eq_true i2, f0, f1, f2, hdr18, ← hs7]
        rw [fin_dret hrc]
        simp [m0, m1, m2, i1, htk18, show ¬ σ.n = s7.n by omega, show ¬ σ.n + 1 = s7.n by omega, show ¬ σ.n + 2 = s7.n by omega]
      · have := g5.H k hk
        rw [hs7, hs6]
        simp [show ¬ k = σ.n by omega, show ¬ k = σ.n + 1 by omega, show ¬ k = σ.n + 2 by omega, show ¬ k = p by omega, this, show ¬ k = s5.n by omega]
      · rw [hs7, hs6]; simp [g5.W]
      · have := frz_list (s7.new (.row 3 [[.int .i64 0, .int .i64 0, .int .i64 0]])).H (fun l => decide (l < σ.n)) i3 1099511627776
        simp only [parseV, itV]
        rw [frzO_ret, frzV_tup]
        simp only [List.map_cons, List.map_nil, frzA_agg, this]
        simp
    | bad a b e r =>
      rw [hr] at hit
      simp only [Out] at hit
      obtain ⟨s6, hs6⟩ : ∃ s6, s6 = s5.set p (pR L (ix L r) (if e = 13 then ((0 : Nat) : Int) + 1 else ((0 : Nat) : Int))) := ⟨_, rfl⟩
      rw [← hs6] at hit
      have f0 : s6.H σ.n = some (.row 18 [z18]) := by rw [hs6]; simp [k0, e0]
      have f1 : s6.H (σ.n + 1) = some (.row 2 [[.int .i64 0, .int .i64 0]]) := by rw [hs6]; simp [k1, e1]
      have f2 : s6.H (σ.n + 2) = some (.row 1 [[.int .i64 0]]) := by rw [hs6]; simp [k2, e2]
      have n6 : s6.n = σ.n + 4 := by rw [hs6]; exact n5
      obtain ⟨s7, hrc, m0, m1, m2, mH, mW⟩ := rec_pan (E := E) (q0 := σ.n) (q1 := σ.n + 1) (q2 := σ.n + 2) hT f0 f1 f2 rfl rfl (by omega) (by omega) (by omega) (by omega) (by omega) (by omega) a b e
      refine ev_pure (fd := f9) (o := .ret (.tup [.agg z18, .agg [.int .i64 a, .int .i64 b], .int .i64 e])) (σ' := s7) (by rw [hT]; rfl) (by simp [f9]) rfl ?_ (fun k hk => ?_) ?_ ?_
      · simp only [z18] at hs3 c0 d0 e0 f0 m0 ⊢
        simp [f9, d9, ← hs3, htok, c2, ← hs4, d0, d1, d2, hbox, -boxV_a, ← hs5]
        simp only [← hp]
        simp only [hit, goC_pan]
        rw [pan_drec (k := 17) (cap := [.ptr σ.n 0 0, .ptr (σ.n + 1) 0 0, .ptr (σ.n + 2) 0 0]) (args := []) (by simp) (by simp) hrc]
        simp [m0, m1, m2]
      · rw [mH k (by omega) (by omega) (by omega) (by omega), hs6]
        simp [show ¬ k = p by omega, g5.H k hk]
      · rw [mW, hs6]; simp [g5.W]
      · simp [parseV, z18]
  · rw [if_neg h0]
    have htv : tokensV b = .tup [.nils, .int .i64 (tksF b).2.1, .int .i64 (tksF b).2.2] := by unfold tokensV; exact if_neg h0
    rw [htv] at htok
    obtain ⟨a, ha⟩ : ∃ a, a = (tksF b).2.1 := ⟨_, rfl⟩
    obtain ⟨e, he⟩ : ∃ e, e = (tksF b).2.2 := ⟨_, rfl⟩
    rw [← ha, ← he] at htok
    rw [← ha, ← he]
    have he0 : ¬ (e : Int) = 0 := by omega
    have he0' : ¬ e = 0 := by omega
    have w1 : IntKind.i64.wrap ((a : Int) + 1) = ((a + 1 : Nat) : Int) := by
      have := toks_at b.length (b.length + 1) b (by omega)
      rw [IntWalk.i64_in _ (by rw [ha]; unfold tksF; omega)]; omega
    have hz : ∀ l, l < σ.n → l ≠ σ.n ∧ l ≠ σ.n + 1 ∧ l ≠ σ.n + 2 := fun l hl => by omega
    obtain ⟨a1, ha1⟩ : ∃ a1, a1 = a + 1 := ⟨_, rfl⟩
    rw [← ha1] at w1 ⊢
    obtain ⟨s4, hs4⟩ : ∃ s4, s4 = s3.set (σ.n + 2) (.row 1 [[.int .i64 e]]) := ⟨_, rfl⟩
    have d0 : s4.H σ.n = some (.row 18 [z18]) := by rw [hs4]; simp [c0]
    have d1 : s4.H (σ.n + 1) = some (.row 2 [[.int .i64 0, .int .i64 0]]) := by rw [hs4]; simp [c1]
    have d2 : s4.H (σ.n + 2) = some (.row 1 [[.int .i64 e]]) := by rw [hs4]; simp
    refine ev_pure (fd := f9) (o := .ret (.tup [.agg z18, .agg [.int .i64 a, .int .i64 a1], .int .i64 e])) (σ' := ((s4.set σ.n (.row 18 [z18])).set (σ.n + 1) (.row 2 [[.int .i64 a, .int .i64 a1]])).set (σ.n + 2) (.row 1 [[.int .i64 e]])) (by rw [hT]; rfl) (by simp [f9]) rfl ?_ (fun k hk => ?_) ?_ ?_
    · simp only [z18] at hs3 c0 d0 ⊢
      simp [f9, d9, ← hs3, htok, c2, ← hs4, he0, he0', d0, d1, d2, w1]
    · obtain ⟨h1, h2, h3⟩ := hz k hk
      rw [hs4]; simp [h1, h2, h3, g3.H k hk]
    · rw [hs4]; simp [g3.W]
    · simp [parseV, z18]
end Go.Proofs.YtmkgmjdbgjiehaaDoor
namespace Go.Proofs.YtmkgmjdbgjiehaaDoor.Ab
set_option linter.unusedVariables false
def bindsK (k : Nat) : Nat :=
  if k = 21 ∨ k = 22 ∨ k = 23 then 0 else if k = 20 then 1 else if k = 19 then 2 else if 13 ≤ k ∧ k ≤ 18 then 3 else if k = 8 ∨ k = 9 then 4 else if 10 ≤ k ∧ k ≤ 12 then 5 else if k = 6 ∨ k = 7 then 6 else 7
def signW : Nat → List UInt8
  | 8 => [43] | 9 => [45] | 10 => [42] | 11 => [47] | 12 => [37] | 13 => [61] | 14 => [33, 61] | 15 => [60] | 16 => [60, 61] | 17 => [62] | 18 => [62, 61] | 19 => [97, 110, 100] | 20 => [111, 114] | _ => []
def numT (n : Nat) : List UInt8 := if h : n < 10 then [UInt8.ofNat (48 + n)] else numT (n / 10) ++ [UInt8.ofNat (48 + n % 10)]
termination_by n
decreasing_by omega
structure Pc where
  k : Nat
  s : List UInt8
  b : Bool
def Pc.txt (p : Pc) : List UInt8 := if p.b = true then 32 :: p.s else p.s
def txtP (l : List Pc) : List UInt8 := l.flatMap Pc.txt
def parP (n least : Nat) (b : Bool) (x : Bool → List Pc) : List Pc := if n < least then ⟨4, [40], b⟩ :: (x false ++ [⟨4, [41], false⟩]) else x b
abbrev AP := List (Nat → Bool → List Pc)
def argP (l : AP) (i : Nat) : Nat → Bool → List Pc := match l[i]? with
  | some x => x
  | none => fun _ b => [⟨3, [48], b⟩]
def restP (l : AP) : List Pc := l.flatMap fun y => ⟨4, [44], false⟩ :: y 0 true
def listP : AP → List Pc
  | [] => []
  | x :: l => x 0 false ++ restP l
def callP (k : Nat) (s : List UInt8) (b : Bool) (l : AP) : List Pc := ⟨k, s, b⟩ :: ⟨4, [40], false⟩ :: (listP l ++ [⟨4, [41], false⟩])
def leftK (k : Nat) : Nat := if bindsK k = 3 then 4 else bindsK k
def bareP (k : Nat) (nm : List UInt8) (m : Nat) (b : Bool) (l : AP) : List Pc :=
  match k with
  | 1 => [⟨3, numT m, b⟩]
  | 2 => [⟨2, [116, 114, 117, 101], b⟩]
  | 3 => [⟨2, [102, 97, 108, 115, 101], b⟩]
  | 4 => [⟨if nm = [118] then 2 else 1, nm, b⟩]
  | 5 => callP 1 nm b l
  | 6 => ⟨4, [45], b⟩ :: argP l 0 6 false
  | 7 => ⟨2, [110, 111, 116], b⟩ :: argP l 0 6 true
  | 21 => ⟨2, [108, 101, 116], b⟩ :: ⟨1, nm, true⟩ :: ⟨4, [61], true⟩ :: (argP l 0 0 true ++ ⟨2, [105, 110], true⟩ :: argP l 1 0 true)
  | 22 => ⟨2, [105, 102], b⟩ :: (argP l 0 0 true ++ ⟨2, [116, 104, 101, 110], true⟩ :: (argP l 1 0 true ++ ⟨2, [101, 108, 115, 101], true⟩ :: argP l 2 0 true))
  | 23 => ⟨2, [97, 115, 115, 101, 114, 116], b⟩ :: (argP l 0 0 true ++ ⟨2, [105, 110], true⟩ :: argP l 1 0 true)
  | 24 => callP 2 [103, 101, 116] b l
  | 25 => callP 2 [115, 101, 116] b l
  | 26 => callP 2 [108, 101, 110] b l
  | 27 => ⟨2, [102, 105, 108, 108], b⟩ :: ⟨4, [40], false⟩ :: ⟨3, numT m, false⟩ :: ⟨4, [44], false⟩ :: (argP l 0 0 true ++ [⟨4, [41], false⟩])
  | k => argP l 0 (leftK k) b ++ ⟨if k = 19 ∨ k = 20 then 2 else 4, signW k, true⟩ :: argP l 1 (bindsK k + 1) true
mutual
def pcB : Ex → Bool → List Pc
  | .mk k nm m l _ _ => fun b => bareP k nm m b (pcA l)
def pcA : List Ex → AP
  | [] => []
  | e :: l => (fun least b => parP (bindsK e.kind) least b (pcB e)) :: pcA l
end
def pcE (e : Ex) (least : Nat) (b : Bool) : List Pc := parP (bindsK e.kind) least b (pcB e)
mutual
def er : Ex → Ex
  | .mk k nm m l _ _ => .mk k nm m (ers l) 0 0
def ers : List Ex → List Ex
  | [] => []
  | e :: l => er e :: ers l
end
theorem ers_map : ∀ l : List Ex, ers l = l.map er
  | [] => by simp [ers]
  | e :: l => by rw [ers, ers_map l]; rfl
theorem er_mk (k : Nat) (nm : List UInt8) (m : Nat) (l : List Ex) (a b : Nat) : er (.mk k nm m l a b) = .mk k nm m (l.map er) 0 0 := by rw [er, ers_map]
def nameOK (s : List UInt8) : Prop := tokF s = (1, s, 0) ∧ s ≠ [118]
def wfK (k : Nat) (nm : List UInt8) (m n : Nat) : Prop :=
  (k = 1 ∧ nm = [] ∧ m < 10 ^ 40 ∧ n = 0) ∨ ((k = 2 ∨ k = 3) ∧ nm = [] ∧ m = 0 ∧ n = 0) ∨ (k = 4 ∧ (nm = [118] ∨ nameOK nm) ∧ m = 0 ∧ n = 0) ∨ (k = 5 ∧ nameOK nm ∧ m = 0 ∧ n ≤ 6) ∨
  ((k = 6 ∨ k = 7 ∨ k = 26) ∧ nm = [] ∧ m = 0 ∧ n = 1) ∨ ((8 ≤ k ∧ k ≤ 20 ∨ k = 23 ∨ k = 24) ∧ nm = [] ∧ m = 0 ∧ n = 2) ∨ (k = 21 ∧ nameOK nm ∧ m = 0 ∧ n = 2) ∨ ((k = 22 ∨ k = 25) ∧ nm = [] ∧ m = 0 ∧ n = 3) ∨ (k = 27 ∧ nm = [] ∧ m ≤ 1000000 ∧ n = 1)
mutual
def Okx : Ex → Prop
  | .mk k nm m l _ _ => wfK k nm m l.length ∧ Okxs l
def Okxs : List Ex → Prop
  | [] => True
  | e :: l => Okx e ∧ Okxs l
end
theorem Okxs_mem : ∀ {l : List Ex}, Okxs l → ∀ e ∈ l, Okx e
  | [], _, e, h => by simp at h
  | a :: l, h, e, he => by
    rw [Okxs] at h
    rcases List.mem_cons.1 he with rfl | he
    · exact h.1
    · exact Okxs_mem h.2 e he
def Mt : List Pc → List TK → Prop
  | [], [] => True
  | p :: ps, t :: ts => (t.kind = p.k ∧ t.txt = p.s) ∧ Mt ps ts
  | _, _ => False
theorem Mt.app : ∀ {a b : List Pc} {ts : List TK}, Mt (a ++ b) ts → ∃ u v, ts = u ++ v ∧ Mt a u ∧ Mt b v
  | [], b, ts, h => ⟨[], ts, rfl, trivial, h⟩
  | p :: a, b, [], h => h.elim
  | p :: a, b, t :: ts, h => by
    obtain ⟨u, v, rfl, h1, h2⟩ := Mt.app (a := a) h.2
    exact ⟨t :: u, v, rfl, ⟨h.1, h1⟩, h2⟩
theorem Mt.cons {p : Pc} {ps : List Pc} {ts : List TK} (h : Mt (p :: ps) ts) : ∃ t u, ts = t :: u ∧ t.kind = p.k ∧ t.txt = p.s ∧ Mt ps u := by
  cases ts with
  | nil => exact h.elim
  | cons t u => exact ⟨t, u, rfl, h.1.1, h.1.2, h.2⟩
theorem Mt.nil {ts : List TK} (h : Mt [] ts) : ts = [] := by cases ts; rfl; exact h.elim
def isP (s : List UInt8) (p : Pc) : Bool := (p.k == 2 || p.k == 4) && p.s == s
theorem isT_p {s : List UInt8} {p : Pc} {t : TK} {r : List TK} (h1 : t.kind = p.k) (h2 : t.txt = p.s) : isT s (t :: r) = isP s p := by simp [isT, isP, h1, h2]
theorem takeT_p {s : List UInt8} {p : Pc} {t : TK} {r : List TK} (h1 : t.kind = p.k) (h2 : t.txt = p.s) : takeT s (t :: r) = if isP s p = true then some r else none := by
  show (if isT s (t :: r) = true then some r else none) = _
  rw [isT_p h1 h2]
def Fo (lv : Nat) : List TK → Prop
  | [] => False
  | t :: r => (∀ v, lv ≤ v → levelT v t = 0) ∧ isT [40] (t :: r) = false
theorem Fo.up {lv lv' : Nat} {r : List TK} (h : Fo lv r) (hl : lv ≤ lv') : Fo lv' r := by
  cases r with
  | nil => exact h
  | cons t r => exact ⟨fun v hv => h.1 v (by omega), h.2⟩
def Q (x : Rs Ex) (e : Ex) (rest : List TK) : Prop := x = .off ∨ (∃ a b r, x = .bad a b 13 r) ∨ ∃ e', x = .ok e' rest ∧ er e' = er e
theorem Q.bind {x : Rs Ex} {e e2 : Ex} {rest rest2 : List TK} {f : Ex → List TK → Rs Ex} (h : Q x e rest) (k : ∀ e', er e' = er e → Q (f e' rest) e2 rest2) : Q (x.bind f) e2 rest2 := by
  rcases h with rfl | ⟨a, b, r, rfl⟩ | ⟨e', rfl, h⟩
  · exact .inl rfl
  · exact .inr (.inl ⟨a, b, r, rfl⟩)
  · exact k e' h
theorem Q.ok {e e' : Ex} {r : List TK} (h : er e' = er e) : Q (.ok e' r) e r := .inr (.inr ⟨e', rfl, h⟩)
end Go.Proofs.YtmkgmjdbgjiehaaDoor.Ab
namespace Go.Proofs.YtmkgmjdbgjiehaaDoor.Ab
set_option linter.unusedVariables false
theorem bindsK_le (k : Nat) : bindsK k ≤ 7 := by unfold bindsK; repeat' split <;> try omega
theorem pcE_lt {e : Ex} {least : Nat} (h : bindsK e.kind < least) (b : Bool) : pcE e least b = ⟨4, [40], b⟩ :: (pcB e false ++ [⟨4, [41], false⟩]) := by unfold pcE parP; rw [if_pos h]
theorem pcE_ge {e : Ex} {least : Nat} (h : ¬ bindsK e.kind < least) (b : Bool) : pcE e least b = pcB e b := by unfold pcE parP; rw [if_neg h]
def lvK (k : Nat) : Nat := bindsK k - 1
theorem signW_level {k v : Nat} (hk : 8 ≤ k ∧ k ≤ 20) {t : TK} (h1 : t.kind = if k = 19 ∨ k = 20 then 2 else 4) (h2 : t.txt = signW k) : levelT v t = if v = lvK k then k else 0 := by
  have h4 : t.kind = 4 ∨ t.kind = 2 := by rw [h1]; split <;> omega
  unfold levelT
  rw [if_pos h4, h2]
  obtain ⟨ha, hb⟩ := hk
  have : k = 8 ∨ k = 9 ∨ k = 10 ∨ k = 11 ∨ k = 12 ∨ k = 13 ∨ k = 14 ∨ k = 15 ∨ k = 16 ∨ k = 17 ∨ k = 18 ∨ k = 19 ∨ k = 20 := by omega
  have hv : v = 0 ∨ v = 1 ∨ v = 2 ∨ v = 3 ∨ v = 4 ∨ 5 ≤ v := by omega
  rcases this with rfl | rfl | rfl | rfl | rfl | rfl | rfl | rfl | rfl | rfl | rfl | rfl | rfl <;> rcases hv with rfl | rfl | rfl | rfl | rfl | hv <;> first | rfl | (obtain ⟨w, rfl⟩ : ∃ w, v = w + 5 := ⟨v - 5, by omega⟩; simp [signK, lvK, bindsK]; try omega)
def Hd1 (least : Nat) (p : Pc) : Prop := isP [41] p = false ∧ (1 ≤ least → isP [108, 101, 116] p = false ∧ isP [105, 102] p = false ∧ isP [97, 115, 115, 101, 114, 116] p = false) ∧ (7 ≤ least → isP [45] p = false ∧ isP [110, 111, 116] p = false)
theorem hd_name {least : Nat} {s : List UInt8} {b : Bool} : Hd1 least ⟨1, s, b⟩ := by simp [Hd1, isP]
theorem hd_num {least : Nat} {s : List UInt8} {b : Bool} : Hd1 least ⟨3, s, b⟩ := by simp [Hd1, isP]
theorem pc_head : ∀ (e : Ex), Okx e → ∀ (least : Nat) (b : Bool), ∃ p ps, pcE e least b = p :: ps ∧ Hd1 least p ∧ p.b = b
  | .mk k nm m l fr to, h, least, b => by
    rw [Okx] at h
    obtain ⟨hk, hl⟩ := h
    by_cases hb : bindsK k < least
    · exact ⟨⟨4, [40], b⟩, _, pcE_lt hb b, by simp [Hd1, isP], rfl⟩
    · have hE : pcE (.mk k nm m l fr to) least b = bareP k nm m b (pcA l) := by rw [pcE_ge hb, pcB]
      rw [hE]
      have two : 8 ≤ k ∧ k ≤ 20 → ∃ p ps, bareP k nm m b (pcA l) = p :: ps ∧ Hd1 least p ∧ p.b = b := by
        intro hk2
        have hl2 : l.length = 2 := by unfold wfK at hk; omega
        match l, hl2, hl with
        | [x, y], _, hl =>
          rw [Okxs, Okxs] at hl
          have hbp : bareP k nm m b (pcA [x, y]) = pcE x (leftK k) b ++ ⟨if k = 19 ∨ k = 20 then 2 else 4, signW k, true⟩ :: pcE y (bindsK k + 1) true := by
            have : k = 8 ∨ k = 9 ∨ k = 10 ∨ k = 11 ∨ k = 12 ∨ k = 13 ∨ k = 14 ∨ k = 15 ∨ k = 16 ∨ k = 17 ∨ k = 18 ∨ k = 19 ∨ k = 20 := by omega
            rcases this with rfl | rfl | rfl | rfl | rfl | rfl | rfl | rfl | rfl | rfl | rfl | rfl | rfl <;> simp [bareP, pcA, argP, pcE]
          obtain ⟨p, ps, h1, h2, h3⟩ := pc_head x hl.1 (leftK k) b
          refine ⟨p, _, by rw [hbp, h1]; rfl, ⟨h2.1, fun _ => h2.2.1 ?_, fun h7 => ?_⟩, h3⟩
          · have : 1 ≤ bindsK k := by
              have : k = 8 ∨ k = 9 ∨ k = 10 ∨ k = 11 ∨ k = 12 ∨ k = 13 ∨ k = 14 ∨ k = 15 ∨ k = 16 ∨ k = 17 ∨ k = 18 ∨ k = 19 ∨ k = 20 := by omega
              rcases this with rfl | rfl | rfl | rfl | rfl | rfl | rfl | rfl | rfl | rfl | rfl | rfl | rfl <;> decide
            unfold leftK; split <;> omega
          · exfalso
            have : k = 8 ∨ k = 9 ∨ k = 10 ∨ k = 11 ∨ k = 12 ∨ k = 13 ∨ k = 14 ∨ k = 15 ∨ k = 16 ∨ k = 17 ∨ k = 18 ∨ k = 19 ∨ k = 20 := by omega
            apply hb
            rcases this with rfl | rfl | rfl | rfl | rfl | rfl | rfl | rfl | rfl | rfl | rfl | rfl | rfl <;> (have : (7 : Nat) ≤ least := h7; simp [bindsK]; omega)
      unfold wfK at hk
      have b0 : k = 21 ∨ k = 22 ∨ k = 23 → least = 0 := fun h => by unfold bindsK at hb; rw [if_pos h] at hb; omega
      have b6 : k = 6 ∨ k = 7 → least ≤ 6 := fun h => by rcases h with rfl | rfl <;> (simp [bindsK] at hb; omega)
      by_cases hk2 : 8 ≤ k ∧ k ≤ 20
      · exact two hk2
      · have hks : k = 1 ∨ k = 2 ∨ k = 3 ∨ k = 4 ∨ k = 5 ∨ k = 6 ∨ k = 7 ∨ k = 21 ∨ k = 22 ∨ k = 23 ∨ k = 24 ∨ k = 25 ∨ k = 26 ∨ k = 27 := by omega
        rcases hks with rfl | rfl | rfl | rfl | rfl | rfl | rfl | rfl | rfl | rfl | rfl | rfl | rfl | rfl
        · exact ⟨_, _, rfl, hd_num, rfl⟩
        · exact ⟨_, _, rfl, by simp [Hd1, isP], rfl⟩
        · exact ⟨_, _, rfl, by simp [Hd1, isP], rfl⟩
        · refine ⟨_, _, rfl, ?_, rfl⟩
          by_cases hv : nm = [118]
          · subst hv; simp [Hd1, isP]
          · simp only [if_neg hv]; exact hd_name
        · exact ⟨_, _, rfl, hd_name, rfl⟩
        · have := b6 (by omega)
          exact ⟨_, _, rfl, ⟨by simp [isP], fun _ => by simp [isP], fun h => by omega⟩, rfl⟩
        · have := b6 (by omega)
          exact ⟨_, _, rfl, ⟨by simp [isP], fun _ => by simp [isP], fun h => by omega⟩, rfl⟩
        · have := b0 (by omega)
          exact ⟨_, _, rfl, ⟨by simp [isP], fun h => by omega, fun h => by omega⟩, rfl⟩
        · have := b0 (by omega)
          exact ⟨_, _, rfl, ⟨by simp [isP], fun h => by omega, fun h => by omega⟩, rfl⟩
        · have := b0 (by omega)
          exact ⟨_, _, rfl, ⟨by simp [isP], fun h => by omega, fun h => by omega⟩, rfl⟩
        · exact ⟨_, _, rfl, by simp [Hd1, isP], rfl⟩
        · exact ⟨_, _, rfl, by simp [Hd1, isP], rfl⟩
        · exact ⟨_, _, rfl, by simp [Hd1, isP], rfl⟩
        · exact ⟨_, _, rfl, by simp [Hd1, isP], rfl⟩
end Go.Proofs.YtmkgmjdbgjiehaaDoor.Ab
