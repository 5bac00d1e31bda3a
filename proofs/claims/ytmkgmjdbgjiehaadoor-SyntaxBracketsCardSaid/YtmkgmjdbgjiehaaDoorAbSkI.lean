/-
The walk over the program's texts, told with what its values say: a part of it. No further condition.
-/
import Derived.Test.YtmkgmjdbgjiehaaDoorAbSkC
import Derived.Test.YtmkgmjdbgjiehaaDoorAbPt
namespace Go.Proofs.YtmkgmjdbgjiehaaDoor
open Go.Proofs.YtmkgmjdbgjiehaaDoor.Ab
set_option linter.unusedVariables false
set_option linter.unusedSimpArgs false
attribute [local simp] Gr.refl Gr.new Gr.set Gr.kill Nat.add_assoc r_cks chk wantG
variable {E : En Tryd.prog} {σ : St} {p : Nat} {L r : List TK} {d : Int} {B : Int}
theorem places_ev (hT : E.T = T) (hB : B = 4294967296) {t : TK} (h : Ps σ p L (t :: r) d) : ev E 70 [.ptr p 0 0] σ = Out σ p L d (fun n : Nat => .int .i64 n) (placesT (t :: r)) := by
  have hlt := h.lt
  have hne : ¬ σ.n = p := by omega
  have hne2 : ¬ p = σ.n := by omega
  have hne3 : ¬ σ.n + 1 = p := by omega
  have hne4 : ¬ p = σ.n + 1 := by omega
  have hn := fun σ' (g : Gr σ σ') => now_ev hT (h.gr g)
  rw [tkE_eq] at hn
  unfold placesT
  simp only
  by_cases hk : t.kind = 3
  · rw [if_pos hk]
    have hk' : (t.kind : Int) = 3 := by omega
    obtain ⟨gd1, gd2⟩ := h.gd.num t (h.suf.subset (by simp)) hk
    have hln := numD_len (B := B) (by omega) (by omega) gd1
    have hp := fun σ' => bparse_ev hT hB (σ := σ') t.txt gd2 gd1
    have hs := fun σ' => bsmall_ev hT hB (σ := σ') (numD t.txt) (by omega)
    have hf := fun σ' (g : Gr σ σ') => fail_ev hT (h.gr g) 3
    simp only [Int.cast_ofNat_Int] at hf
    have hz := fun σ' => bsmall_ev hT hB (σ := σ') 0 (by rw [show cn B ((0 : Nat) : Int) = [] from cn_zero (Int.le_refl _)]; simp)
    have hsc : (magV B (numD t.txt : Nat)).scal = true := magV_scal
    have hbad : Out σ p L d (fun n : Nat => V.int .i64 n) (.bad t.fr t.to 3 (t :: r)) = some (.panic (failV t.fr t.to 3), σ) := by
      show some (CO.panic (failV t.fr t.to 3), σ.set p (pR L (ix L (t :: r)) d)) = _
      rw [h.same]
    by_cases hw : wellD t.txt = true
    · simp only [hw, if_true] at hp
      by_cases hbig : numD t.txt ≤ 1000000
      · rw [if_pos ⟨hw, hbig⟩]
        have hsm : smallV (numD t.txt) = .tup [.int .i64 (numD t.txt), .bool true] := by unfold smallV; rw [if_pos (by omega)]
        rw [hsm] at hs
        have hbig' : ¬ (1000000 : Int) < numD t.txt := by omega
        have hp0 := h.H
        have hx := ix_cons h.suf
        have hil := ix_le (L := L) (r := t :: r)
        have hL := h.gd.len
        obtain ⟨n, hn'⟩ : ∃ n, n = numD t.txt := ⟨_, rfl⟩
        rw [← hn'] at hp hs hsc hbig' ⊢
        refine ev_ps (fd := f70) (o := .ret (.int .i64 n)) (σ' := ((((σ.new (.row 4 [z4])).set σ.n (.row 4 [tkE t])).new (.row 2 [[.bool false, .nils]])).set (σ.n + 1) (.row 2 [numV B n])).set p (pR L (ix L r) d)) (by rw [hT]; rfl) (by simp (maxDischargeDepth := 12) [f70]) rfl ?_ h.lt (by simp) ((gr_tn ((((Gr.refl σ).new _).set (Nat.le_refl _) _).new _ |>.set (by simp) _) p).put _) (by simp)
        have hwr : IntKind.i64.wrap ((ix L (t :: r) : Int) + 1) = ((ix L r : Nat) : Int) := by rw [IntWalk.i64_in _ (by omega)]; omega
        obtain ⟨i, hi'⟩ : ∃ i, i = ix L (t :: r) := ⟨_, rfl⟩
        obtain ⟨j, hj⟩ : ∃ j, j = ix L r := ⟨_, rfl⟩
        rw [← hi'] at hp0 hwr
        rw [← hj] at hwr ⊢
        rw [tkE_eq]
        unfold numV at hp hs ⊢
        simp only [pR] at hp0 ⊢
        simp (maxDischargeDepth := 12) [f70, d70, hn, hk', hp, hs, hbig', hp0, hwr, hne, hne2, hne3, hne4, hsc, z4]
      · rw [if_neg (fun h => hbig h.2), hbad]
        have hbig' : (1000000 : Int) < numD t.txt := by omega
        obtain ⟨n, hn'⟩ : ∃ n, n = numD t.txt := ⟨_, rfl⟩
        rw [← hn'] at hp hs hsc hbig'
        refine ev_pure (fd := f70) (o := .panic (failV t.fr t.to 3)) (σ' := (((σ.new (.row 4 [z4])).set σ.n (.row 4 [tkE t])).new (.row 2 [[.bool false, .nils]])).set (σ.n + 1) (.row 2 [numV B n])) (by rw [hT]; rfl) (by simp (maxDischargeDepth := 12) [f70]) rfl ?_ (fun k hk => by simp [show k ≠ σ.n by omega, show k ≠ σ.n + 1 by omega]) rfl (frz_fail _ _ _ _ _)
        rw [tkE_eq]
        by_cases hsm : n < 2 ^ 63
        · have : smallV n = .tup [.int .i64 n, .bool true] := by unfold smallV; rw [if_pos hsm]
          rw [this] at hs
          unfold numV at hp hs ⊢
          simp (maxDischargeDepth := 12) [f70, d70, hn, hk', hp, hs, hbig', hf, hne, hne2, hne3, hne4, hsc, z4]
        · have : smallV n = .tup [.int .i64 0, .bool false] := by unfold smallV; rw [if_neg hsm]
          rw [this] at hs
          unfold numV at hp hs ⊢
          simp (maxDischargeDepth := 12) [f70, d70, hn, hk', hp, hs, hf, hne, hne2, hne3, hne4, hsc, z4]
    · simp only [hw] at hp
      rw [if_neg (fun h => hw h.1), hbad]
      have : smallV 0 = .tup [.int .i64 0, .bool true] := rfl
      rw [this] at hz
      have hn0 : numV B 0 = [.bool false, .nils] := rfl
      rw [hn0] at hz
      refine ev_pure (fd := f70) (o := .panic (failV t.fr t.to 3)) (σ' := (((σ.new (.row 4 [z4])).set σ.n (.row 4 [tkE t])).new (.row 2 [[.bool false, .nils]])).set (σ.n + 1) (.row 2 [[.bool false, .nils]])) (by rw [hT]; rfl) (by simp (maxDischargeDepth := 12) [f70]) rfl ?_ (fun k hk => by simp [show k ≠ σ.n by omega, show k ≠ σ.n + 1 by omega]) rfl (frz_fail _ _ _ _ _)
      rw [tkE_eq]
      simp at hp
      simp (maxDischargeDepth := 12) [f70, d70, hn, hk', hp, hz, hf, hne, hne2, hne3, hne4, z4]
  · rw [if_neg hk, out_miss h]
    have hk' : ¬ (t.kind : Int) = 3 := by omega
    have hm := fun σ' (g : Gr σ σ') => miss_ev hT (h.gr g)
    refine ev_pure (fd := f70) (o := .panic (failV t.fr t.to (if t.kind = 0 then 11 else 21))) (σ' := (σ.new (.row 4 [z4])).set σ.n (.row 4 [tkE t])) (by rw [hT]; rfl) (by simp (maxDischargeDepth := 12) [f70]) rfl ?_ (fun k hk => by simp [show k ≠ σ.n by omega, show k ≠ σ.n + 1 by omega]) rfl (frz_fail _ _ _ _ _)
    rw [tkE_eq]
    simp (maxDischargeDepth := 12) [f70, d70, hn, hk', hm, hne, hne2, hne3, hne4, z4]
end Go.Proofs.YtmkgmjdbgjiehaaDoor
namespace Go.Proofs.YtmkgmjdbgjiehaaDoor
open Go.Proofs.YtmkgmjdbgjiehaaDoor.Ab
set_option linter.unusedVariables false
set_option linter.unusedSimpArgs false
def argV : List (List V) → V
  | [] => .nils
  | es => .islc 7 es
mutual
def exE (B : Int) : Ex → List V
  | .mk k n m l a b => [.int .i64 k, .str n, .bool false, magV B m, argV (exsE B l), .int .i64 a, .int .i64 b]
def exsE (B : Int) : List Ex → List (List V)
  | [] => []
  | e :: l => exE B e :: exsE B l
end
def exV (B : Int) (e : Ex) : V := .agg (exE B e)
theorem exsE_map (B : Int) : ∀ l : List Ex, exsE B l = l.map (exE B)
  | [] => by simp [exsE]
  | e :: l => by simp [exsE, exsE_map B l]
theorem argV_scal (es : List (List V)) : (argV es).scal = true := by cases es <;> rfl
theorem argV_pure (es : List (List V)) : (argV es).pure = true := by cases es <;> rfl
theorem magV_pure (B v : Int) : (magV B v).pure = true := by unfold magV; split <;> rfl
theorem magV_sc (B v : Int) : (magV B v).scal = true := by unfold magV; split <;> rfl
theorem exE_pure (B : Int) (e : Ex) : ∀ u ∈ exE B e, u.pure = true := by
  cases e with
  | mk k n m l a b => intro u hu; simp [exE] at hu; rcases hu with rfl | rfl | rfl | rfl | rfl | rfl | rfl <;> first | rfl | exact magV_pure _ _ | exact argV_pure _
theorem exE_scal (B : Int) (e : Ex) : (exE B e).all V.scal = true := by
  cases e with
  | mk k n m l a b => simp [exE, magV_sc, argV_scal]
theorem exE_len (B : Int) (e : Ex) : (exE B e).length = 7 := by cases e; rfl
theorem exV_frz (B : Int) (e : Ex) (H : Nat → Option Blk) (n : Nat → Bool) : frzV H n (exV B e) = exV B e := by
  unfold exV; rw [frzV_agg, frz_list H n (exE_pure B e)]
def GG {α : Type} (m : Option (CO × St) → Option (CO × St)) (σ : St) (p : Nat) (L : List TK) (d : Int) (enc : α → V) (spec : Rs α) (x : Option (CO × St)) : Prop := spec ≠ .off → m x = Out σ p L d enc spec
section
variable {α β : Type} {E : En Tryd.prog} {m : Option (CO × St) → Option (CO × St)} {σ s : St} {p : Nat} {L : List TK} {d d' : Int} {enc : α → V} {enc' : β → V} {dd dr : Bool} {rs : List RC} {st : List SE} {f : Fr} {dst : Option Nat} {k : FuncId} {vs : List V}
theorem GG.call {res : Rs β} {g : β → List TK → Rs α} (h : res ≠ .off → ev E k vs s = Out s p L d' enc' res)
    (kb : ∀ a b e r, res = .bad a b e r → m (panF E (run E) dd dr rs f (failV a b e) st (s.set p (pR L (ix L r) (if e = 13 then d' + 1 else d')))) = Out σ p L d enc (.bad a b e r))
    (kk : ∀ a r, res = .ok a r → GG m σ p L d enc (g a r) (run E dd rs st (f.put dst (enc' a)) (s.set p (pR L (ix L r) d')))) :
    GG m σ p L d enc (res.bind g) (goC E dd rs st f dst dr (ev E k vs s)) := by
  intro hne
  cases hr : res with
  | off => rw [hr] at hne; exact absurd rfl hne
  | bad a b e r =>
    rw [h (by rw [hr]; simp), hr]
    exact kb a b e r hr
  | ok a r =>
    rw [h (by rw [hr]; simp), hr]
    have := kk a r hr
    exact this (by rw [hr] at hne; exact hne)
end
end Go.Proofs.YtmkgmjdbgjiehaaDoor
namespace Go.Proofs.YtmkgmjdbgjiehaaDoor
open Go.Proofs.YtmkgmjdbgjiehaaDoor.Ab
set_option linter.unusedVariables false
set_option linter.unusedSimpArgs false
attribute [local simp] Gr.refl Gr.new Gr.set Gr.kill Nat.add_assoc r_cks chk wantG
variable {E : En Tryd.prog} {B : Int}
def cI : Option Nat → Int
  | none => -1
  | some k => k
structure AllEv (E : En Tryd.prog) (B : Int) (n : Nat) : Prop where
  expr : ∀ {σ p L r} {d : Nat}, Ps σ p L r d → d ≤ 60 → exprT 60 L n d r ≠ .off → ev E 31 [.ptr p 0 0] σ = Out σ p L d (exV B) (exprT 60 L n d r)
  row : ∀ {σ p L r} {d lv : Nat}, Ps σ p L r d → d ≤ 60 → lv ≤ 5 → rowT 60 L n lv d r ≠ .off → ev E 57 [.ptr p 0 0, .int .i64 lv] σ = Out σ p L d (exV B) (rowT 60 L n lv d r)
  unary : ∀ {σ p L r} {d : Nat}, Ps σ p L r d → d ≤ 60 → unaryT 60 L n d r ≠ .off → ev E 71 [.ptr p 0 0] σ = Out σ p L d (exV B) (unaryT 60 L n d r)
  atom : ∀ {σ p L r} {d : Nat}, Ps σ p L r d → d ≤ 60 → atomT 60 L n d r ≠ .off → ev E 80 [.ptr p 0 0] σ = Out σ p L d (exV B) (atomT 60 L n d r)
  arr : ∀ {σ p L r} {d fr : Nat}, Ps σ p L r d → d ≤ 60 → arrT 60 L n d fr r ≠ .off → ev E 88 [.ptr p 0 0, .int .i64 fr] σ = Out σ p L d (exV B) (arrT 60 L n d fr r)
  args : ∀ {σ p L r} {d : Nat} {c : Option Nat}, Ps σ p L r d → d ≤ 60 → (∀ k, c = some k → k ≤ 6) → argsT 60 L n c d r ≠ .off → ev E 87 [.ptr p 0 0, .int .i64 (cI c)] σ = Out σ p L d (fun l => argV (exsE B l)) (argsT 60 L n c d r)
structure XI (σ s : St) (p : Nat) (L r : List TK) (d : Nat) : Prop where
  ps : Ps s p L r (d : Nat)
  tn : Tn σ s p
  bx : s.H σ.n = some (.row 1 [[.ptr p 0 0]])
  re : s.H (σ.n + 1) = some (.row 7 [z7])
  n : σ.n + 1 < s.n
  lt : p < σ.n
section
variable {σ s : St} {p : Nat} {L r r' : List TK} {d d' : Nat}
theorem XI.put (h : XI σ s p L r d) (d' : Nat) (hs : r' <:+ L) : XI σ (s.set p (pR L (ix L r') d')) p L r' d' :=
  have := h.lt
  ⟨h.ps.put _ hs, h.tn.put _, by simp [show ¬ σ.n = p by omega, h.bx], by simp [show ¬ σ.n + 1 = p by omega, h.re], h.n, h.lt⟩
theorem XI.new (h : XI σ s p L r d) (b : Blk) : XI σ (s.new b) p L r d :=
  have := h.n
  ⟨h.ps.gr ((Gr.refl _).new _), h.tn.new _, by simp [show ¬ σ.n = s.n by omega, h.bx], by simp [show ¬ σ.n + 1 = s.n by omega, h.re], by simp; omega, h.lt⟩
theorem XI.set (h : XI σ s p L r d) {l : Nat} (hl : σ.n + 2 ≤ l) (b : Blk) : XI σ (s.set l b) p L r d :=
  have := h.lt
  ⟨⟨h.ps.lt, by simp [show ¬ p = l by omega, h.ps.H], h.ps.suf, h.ps.gd⟩, h.tn.set (by omega) _, by simp [show ¬ σ.n = l by omega, h.bx], by simp [show ¬ σ.n + 1 = l by omega, h.re], h.n, h.lt⟩
theorem less_ev {k : Nat} (hT : E.T = T) (hk : k = 54 ∨ k = 79) (hx : s.H σ.n = some (.row 1 [[.ptr p 0 0]])) {i : Nat} {e : Int} (hp : s.H p = some (pR L i e)) (hw : IntKind.i64.wrap (e - 1) = d') (m : Md) :
    dF E (run E) k ([] ++ [.ptr σ.n 0 0]) m s = some (.ret (.tup []), m, s.set p (pR L i d')) := by
  simp only [pR] at hp ⊢
  rcases hk with rfl | rfl
  · refine dF_run (fd := f54) (by rw [hT]; rfl) (by simp [f54]) rfl ?_
    simp [f54, d54, hx, hp, hw]
  · refine dF_run (fd := f79) (by rw [hT]; rfl) (by simp [f79]) rfl ?_
    simp [f79, d79, hx, hp, hw]
end
theorem wrap1 {d : Nat} (h : d ≤ 100) : IntKind.i64.wrap (((d + 1 : Nat) : Int) - 1) = (d : Int) := by rw [IntWalk.i64_in _ (by omega)]; omega
theorem wrap2 {d : Nat} (h : d ≤ 100) : IntKind.i64.wrap (((d + 1 : Nat) : Int) + 1 - 1) = ((d + 1 : Nat) : Int) := by rw [IntWalk.i64_in _ (by omega)]; omega
section
variable {α : Type} {σ s : St} {p : Nat} {L r r' : List TK} {d : Nat} {k : Nat}
theorem pan_x (hT : E.T = T) (hk : k = 54 ∨ k = 79) (h : XI σ s p L r (d + 1)) (hd : d ≤ 60) {f : Fr} (hf : f.ds = [.call (.func k) [.ptr σ.n 0 0] []]) {st : List SE} (hn : noRnd st = true) {dr : Bool} {rs : List RC} (a b e : Nat) :
    panF E (run E) false dr (.cut σ :: rs) f (failV a b e) st (s.set p (pR L (ix L r') (if e = 13 then ((d + 1 : Nat) : Int) + 1 else ((d + 1 : Nat) : Int)))) = some (.panic (failV a b e), σ.set p (pR L (ix L r') (if e = 13 then ((d : Nat) : Int) + 1 else (d : Nat)))) := by
  have hlt := h.lt
  have hbx : ∀ b, (s.set p b).H σ.n = some (.row 1 [[.ptr p 0 0]]) := fun b => by simp [show ¬ σ.n = p by omega, h.bx]
  by_cases he : e = 13
  · simp only [if_pos he]
    rw [pan_dpan hn hf (less_ev (d' := d + 1) hT hk (hbx _) (L := L) (i := ix L r') (by simp) (wrap2 (by omega)) _)]
    have := cut_ps (L := L) (i := ix L r') (d := ((d + 1 : Nat) : Int)) (o := .panic (failV a b e)) h.lt (σ' := (s.set p (pR L (ix L r') (((d + 1 : Nat) : Int) + 1))).set p (pR L (ix L r') (d + 1 : Nat))) (by simp) (((h.tn.put _).put _)) (frz_fail _ _ _ _ _)
    simp only [ct_cut, this]
    rfl
  · simp only [if_neg he]
    rw [pan_dpan hn hf (less_ev (d' := d) hT hk (hbx _) (L := L) (i := ix L r') (by simp) (wrap1 (by omega)) _)]
    have := cut_ps (L := L) (i := ix L r') (d := (d : Int)) (o := .panic (failV a b e)) h.lt (σ' := (s.set p (pR L (ix L r') (((d + 1 : Nat) : Int)))).set p (pR L (ix L r') (d : Nat))) (by simp) (((h.tn.put _).put _)) (frz_fail _ _ _ _ _)
    simp only [ct_cut, this]
theorem fin_x (hT : E.T = T) (hk : k = 54 ∨ k = 79) {s1 : St} (hbx : s1.H σ.n = some (.row 1 [[.ptr p 0 0]])) (hpr : s1.H p = some (pR L (ix L r) (d + 1 : Nat))) (htn : Tn σ s1 p) (hd : d ≤ 60) (hlt : p < σ.n) {env : Env} (he : env 2 = .ptr (σ.n + 1) 0 0) {x : Ex} {cs : List V} (hr : s1.H (σ.n + 1) = some (.row 7 [cs])) (hl : cs.length = 7)
    (hc : ∀ s2 : St, (∀ l, l ≠ p → s2.H l = s1.H l) → cs.map (frzC s2.H (fun l => decide (l < σ.n)) 1099511627776) = exE B x) :
    finD E (run E) false [.cut σ, .c 2 (some 7)] env [.call (.func k) [.ptr σ.n 0 0] []] .ret s1 = some (.ret (exV B x), σ.set p (pR L (ix L r) (d : Nat))) := by
  rw [fin_dret (less_ev (d' := d) hT hk hbx hpr (wrap1 (by omega)) _)]
  have hre : (s1.set p (pR L (ix L r) (d : Nat))).H (σ.n + 1) = some (.row 7 [cs]) := by simp [show ¬ σ.n + 1 = p by omega, hr]
  have hret : retV (rsOf [.cut σ, .c 2 (some 7)]) env (s1.set p (pR L (ix L r) (d : Nat))) = some (.agg cs) := by
    have ht : cs.take 7 = cs := List.take_of_length_le (by omega)
    simp [he, hre, hl, show ¬ σ.n + 1 = p by omega, hr, ht]
  rw [hret]
  simp only [Option.map_some, ct_cut]
  congr 1
  refine cut_ps hlt (L := L) (i := ix L r) (d := (d : Int)) (by simp) (htn.put _) ?_
  rw [frzO_ret, frzV_agg, hc _ (fun l hl => by simp [hl])]; rfl
end
end Go.Proofs.YtmkgmjdbgjiehaaDoor
namespace Go.Proofs.YtmkgmjdbgjiehaaDoor
open Go.Proofs.YtmkgmjdbgjiehaaDoor.Ab
set_option linter.unusedVariables false
set_option linter.unusedSimpArgs false
attribute [local simp] Gr.refl Gr.new Gr.set Gr.kill Nat.add_assoc r_cks chk wantG
variable {E : En Tryd.prog} {B : Int}
theorem new_set (σ : St) (b c : Blk) : (σ.new b).set σ.n c = σ.new c := by
  refine St.ext' (fun k => ?_) rfl rfl
  simp only [set_H, new_H]; split <;> rfl
theorem exV_cells (B : Int) (e : Ex) : (exV B e).cells = exE B e := rfl
theorem exE_sc (B : Int) (e : Ex) : ∀ x ∈ exE B e, x.scal = true := by have := exE_scal B e; simpa using this
attribute [local simp] new_set exV_cells exE_len
theorem XI.begin {σ : St} {p : Nat} {L r : List TK} {d : Nat} (h : Ps σ p L r (d : Nat)) : XI σ ((σ.new (.row 1 [[.ptr p 0 0]])).new (.row 7 [z7])) p L r d :=
  have hlt := h.lt
  ⟨h.gr (((Gr.refl σ).new _).new _), gr_tn (((Gr.refl σ).new _).new _) p, by simp, by simp, by simp, hlt⟩
theorem take_no (hT : E.T = T) {σ : St} {p : Nat} {L r : List TK} {d : Int} {t : TK} (h : Ps σ p L (t :: r) d) {s : List UInt8} (hs : isT s (t :: r) = false) : ev E 27 [.ptr p 0 0, .str s] σ = some (.ret (.bool false), σ) := by
  have := take_ev hT h s
  rw [hs] at this
  simp only [Bool.false_eq_true, if_false] at this
  rwa [h.same] at this
theorem take_yes (hT : E.T = T) {σ : St} {p : Nat} {L r : List TK} {d : Int} {t : TK} (h : Ps σ p L (t :: r) d) {s : List UInt8} (hs : isT s (t :: r) = true) : ev E 27 [.ptr p 0 0, .str s] σ = some (.ret (.bool true), σ.set p (pR L (ix L r) d)) := by
  have := take_ev hT h s
  rw [hs] at this
  simpa using this
def headV : List TK → V
  | [] => .any
  | t :: _ => .agg (tkE t)
theorem nameR (hT : E.T = T) {σ : St} {p : Nat} {L r : List TK} {d : Int} (h : Ps σ p L r d) : nameT r ≠ .off → ev E 50 [.ptr p 0 0] σ = Out σ p L d (fun t => .agg (tkE t)) (nameT r) := by
  cases r with
  | nil => intro h; exact absurd rfl h
  | cons t r => intro _; exact name_ev hT h
theorem wantR (hT : E.T = T) {σ : St} {p : Nat} {L r : List TK} {d : Int} (h : Ps σ p L r d) (s : List UInt8) : wantT s r ≠ .off → ev E 29 [.ptr p 0 0, .str s] σ = Out σ p L d (fun _ => headV r) (wantT s r) := by
  cases r with
  | nil => intro h; exact absurd rfl h
  | cons t r => intro _; exact want_ev hT h s
theorem placesR (hT : E.T = T) (hB : B = 4294967296) {σ : St} {p : Nat} {L r : List TK} {d : Int} (h : Ps σ p L r d) : placesT r ≠ .off → ev E 70 [.ptr p 0 0] σ = Out σ p L d (fun n : Nat => .int .i64 n) (placesT r) := by
  cases r with
  | nil => intro h; exact absurd rfl h
  | cons t r => intro _; exact places_ev hT hB h
theorem sufT {α : Type} {x : Rs α} {L r r' : List TK} {a : α} (hs : r <:+ L) (w : Wk r x) (e : x = .ok a r') : r' <:+ L := (w a r' e).trans hs
def seqA : D → D
  | .seq a _ => a
  | d => d
def blkB : D → D
  | .block _ b => b
  | d => d
def condA : D → D
  | .cond _ a _ => a
  | d => d
def condB : D → D
  | .cond _ _ b => b
  | d => d
section
variable {σ s : St} {p : Nat} {L r r' : List TK} {d : Nat}
theorem parts_frz {es : List Ex} {l n : Nat} {s2 : St} (hn : es ≠ []) (hl : s2.H l = some (.row 7 (es.map (exE B)))) (h0 : σ.n ≤ l) (hle : n = es.length) : frzC s2.H (fun l => decide (l < σ.n)) 1099511627776 (.slc l 0 n) = argV (exsE B es) := by
  rw [frz_slcP (z := 7) (es := es.map (exE B)) 1099511627775 (by simp; omega) hl (by simp [hle]) (by
    intro e he u hu
    have : e ∈ es.map (exE B) := List.mem_of_mem_drop (List.mem_of_mem_take he)
    obtain ⟨x, _, rfl⟩ := List.mem_map.1 this
    exact exE_pure B x u hu)]
  rw [List.drop_zero, hle, show (es.map (exE B)).take es.length = es.map (exE B) from List.take_of_length_le (by simp), exsE_map]
  cases es with
  | nil => exact absurd rfl hn
  | cons e es => rfl
theorem end_x (hT : E.T = T) {k : Nat} (hk : k = 54 ∨ k = 79) {s' : St} (h : XI σ s' p L r (d + 1)) (hd : d ≤ 60) {kd fr to l len num : Nat} {nm : List UInt8} {es : List Ex} {v4 : V} {env : Env} (he : env 2 = .ptr (σ.n + 1) 0 0) (h4 : v4 = magV B num) (hl : s'.H l = some (.row 7 (es.map (exE B)))) (l2 : σ.n + 2 ≤ l) (hlen : len = es.length) (hne : es ≠ []) :
    finD E (run E) false [.cut σ, .c 2 (some 7)] env [.call (.func k) [.ptr σ.n 0 0] []] .ret (s'.set (σ.n + 1) (.row 7 [[.int .i64 kd, .str nm, .bool false, v4, .slc l 0 len, .int .i64 fr, .int .i64 to]])) = some (.ret (exV B (.mk kd nm num es fr to)), σ.set p (pR L (ix L r) (d : Nat))) := by
  subst h4
  have hlt := h.lt
  refine fin_x hT hk (x := .mk kd nm num es fr to) (cs := [.int .i64 kd, .str nm, .bool false, magV B num, .slc l 0 len, .int .i64 fr, .int .i64 to]) (by simp [h.bx]) (by simp [show ¬ p = σ.n + 1 by omega, h.ps.H]) (h.tn.set (by omega) _) hd h.lt he (by simp) rfl ?_
  intro s2 hs2
  have := parts_frz (B := B) (σ := σ) (es := es) (l := l) (n := len) (s2 := s2) hne (by rw [hs2 l (by omega)]; simp [show ¬ l = σ.n + 1 by omega, hl]) (by omega) hlen
  have h4 := magV_frz (B := B) (v := (num : Int)) s2.H (fun l => decide (l < σ.n)) 1099511627775
  simp [exE, this, h4]
end
end Go.Proofs.YtmkgmjdbgjiehaaDoor
namespace Go.Proofs.YtmkgmjdbgjiehaaDoor
open Go.Proofs.YtmkgmjdbgjiehaaDoor.Ab
set_option linter.unusedVariables false
set_option linter.unusedSimpArgs false
attribute [local simp] Gr.refl Gr.new Gr.set Gr.kill Nat.add_assoc r_ckk chk_x chk_n new_set exV_cells exE_len
variable {E : En Tryd.prog} {B : Int}
theorem GG.both {α : Type} {σ : St} {p : Nat} {L : List TK} {d : Int} {enc : α → V} {spec : Rs α} {x y : Option (CO × St)} (h : GG id σ p L d enc spec x) (k : GG id σ p L d enc spec y) : GG id σ p L d enc spec (both x y) := fun hne => by
  have h1 := h hne
  have k1 := k hne
  simp only [id] at h1 k1
  rw [h1, k1, both_same]; rfl
theorem exE_take (B : Int) (e : Ex) : (exE B e).take 7 = exE B e := List.take_of_length_le (Nat.le_of_eq (exE_len B e))
attribute [local simp] exE_take
theorem GG.done {α : Type} {σ : St} {p : Nat} {L : List TK} {d : Int} {enc : α → V} {a : α} {r : List TK} {x : Option (CO × St)} (h : x = some (.ret (enc a), σ.set p (pR L (ix L r) d))) : GG id σ p L d enc (.ok a r) x := fun _ => h
theorem bind_id {α : Type} (x : Rs α) : (x.bind fun a r => .ok a r) = x := by cases x <;> rfl
theorem made_row (hT : E.T = T) {s9 : St} {p : Nat} {L r : List TK} {d : Int} (h : Ps s9 p L r d) (hr : r.length < L.length) (k fr : Nat) (ea eb : Ex) : ∀ s' : St, Gr s9 s' → ∀ l, s'.H l = some (.row 7 [exE B ea, exE B eb]) → l < s'.n → ev E 55 [.ptr p 0 0, .int .i64 k, .int .i64 fr, .slc l 0 2] s' = some (.ret (.agg [.int .i64 k, .str [], .bool false, .nils, .slc l 0 2, .int .i64 fr, .int .i64 (toT L r)]), s') := fun s' g l h1 h2 =>
  made_ev hT (h.gr g) hr k fr (v := .slc l 0 2) (.inr (.inr ⟨l, 0, 2, rfl, h2⟩))
theorem expr_step (hT : E.T = T) (hB : B = 4294967296) {n : Nat} (ih : AllEv E B n) {σ : St} {p : Nat} {L r : List TK} {d : Nat} (h : Ps σ p L r d) (hd : d ≤ 60) (hne : exprT 60 L (n + 1) d r ≠ .off) : ev E 31 [.ptr p 0 0] σ = Out σ p L d (exV B) (exprT 60 L (n + 1) d r) := by
  cases r with
  | nil => exact absurd (by simp [exprT]) hne
  | cons t r =>
    have x1 := XI.begin h
    obtain ⟨s1, hs1⟩ : ∃ s1, s1 = (σ.new (.row 1 [[.ptr p 0 0]])).new (.row 7 [z7]) := ⟨_, rfl⟩
    rw [← hs1] at x1
    have hdp := deeper_ev hT x1.ps (by omega)
    have hbox : boxV σ (.ptr p 0 0) = some (.ptr σ.n 0 0, σ.new (.row 1 [[.ptr p 0 0]])) := boxV_v σ (.ptr p 0 0) rfl
    have b1 := x1.bx
    rw [ev_eq (fd := f31) (by rw [hT]; rfl) (by simp [f31])]
    simp only [headR, f31, cutR]
    have hid : ∀ x : Option (CO × St), x.map (fun r => r) = x := fun x => by cases x <;> rfl
    by_cases hdeep : 60 < d + 1
    · rw [if_pos hdeep] at hdp
      have hspec : exprT 60 L (n + 1) d (t :: r) = .bad t.fr t.to 13 (t :: r) := by rw [exprT]; simp only [if_pos hdeep]
      rw [hspec]
      have hc := cut_ps (L := L) (i := ix L (t :: r)) (d := ((d + 1 : Nat) : Int)) (o := .panic (failV t.fr t.to 13)) h.lt (σ' := s1.set p (pR L (ix L (t :: r)) (d + 1 : Nat))) (by simp) (x1.tn.put _) (frz_fail _ _ _ _ _)
      unfold z7 at hs1
      simp [hbox, d31, ← hs1, b1, hdp]
      rw [show cutR Fz.all σ (CO.panic (failV t.fr t.to 13), s1.set p (pR L (ix L (t :: r)) ((d : Int) + 1))) = _ from hc]
      rfl
    · rw [if_neg hdeep] at hdp
      have hspec : exprT 60 L (n + 1) d (t :: r) = (if isT [108, 101, 116] (t :: r) = true then (nameT r).bind fun nm r2 => (wantT [61] r2).bind fun _ r3 => (exprT 60 L n (d + 1) r3).bind fun a r4 => (wantT [105, 110] r4).bind fun _ r5 => (exprT 60 L n (d + 1) r5).bind fun b r6 => .ok (.mk 21 nm.txt 0 [a, b] t.fr (toT L r6)) r6
        else if isT [105, 102] (t :: r) = true then (exprT 60 L n (d + 1) r).bind fun a r2 => (wantT [116, 104, 101, 110] r2).bind fun _ r3 => (exprT 60 L n (d + 1) r3).bind fun b r4 => (wantT [101, 108, 115, 101] r4).bind fun _ r5 => (exprT 60 L n (d + 1) r5).bind fun c r6 => .ok (.mk 22 [] 0 [a, b, c] t.fr (toT L r6)) r6
        else if isT [97, 115, 115, 101, 114, 116] (t :: r) = true then (exprT 60 L n (d + 1) r).bind fun a r2 => (wantT [105, 110] r2).bind fun _ r3 => (exprT 60 L n (d + 1) r3).bind fun b r4 => .ok (.mk 23 [] 0 [a, b] t.fr (toT L r4)) r4
        else rowT 60 L n 0 (d + 1) (t :: r)) := by
        rw [exprT]
        simp only [if_neg hdeep, takeT_eq]
        split <;> rename_i h1
        · split at h1 <;> rename_i h2
          · cases h1; rw [if_pos h2]
          · cases h1
        · split at h1 <;> rename_i h2
          · cases h1
          · rw [if_neg h2]
            split <;> rename_i h3
            · split at h3 <;> rename_i h4
              · cases h3; rw [if_pos h4]
              · cases h3
            · split at h3 <;> rename_i h4
              · cases h3
              · rw [if_neg h4]
                split <;> rename_i h5
                · split at h5 <;> rename_i h6
                  · cases h5; rw [if_pos h6]
                  · cases h5
                · split at h5 <;> rename_i h6
                  · cases h5
                  · rw [if_neg h6]
      obtain ⟨s2, hs2⟩ : ∃ s2, s2 = s1.set p (pR L (ix L (t :: r)) (d + 1 : Nat)) := ⟨_, rfl⟩
      have x2 : XI σ s2 p L (t :: r) (d + 1) := by rw [hs2]; exact x1.put _ h.suf
      rw [← hs2] at hdp
      have b2 := x2.bx
      have hnow := now_ev hT x2.ps
      rw [tkE_eq] at hnow
      unfold z7 at hs1
      rw [hspec] at hne ⊢
      have hG : ∀ (spec : Rs Ex) x, GG id σ p L d (exV B) spec x → spec ≠ .off → Option.map (fun r => r) x = Out σ p L d (exV B) spec := fun spec x h1 h2 => by rw [hid]; exact h1 h2
      refine hG _ _ ?_ hne
      simp only [d31, r_seq, r_reg, r_kb]
      cases hlet : isT [108, 101, 116] (t :: r) with
      | true =>
        have htk := take_yes hT x2.ps hlet
        obtain ⟨s3, hs3⟩ : ∃ s3, s3 = s2.set p (pR L (ix L r) (d + 1 : Nat)) := ⟨_, rfl⟩
        have x3 : XI σ s3 p L r (d + 1) := by rw [hs3]; exact x2.put _ (suf_tail h.suf)
        rw [← hs3] at htk
        have b3 := x3.bx
        simp only [if_true]
        simp [hbox, ← hs1, b1, hdp, b2, hnow, htk, b3]
        refine GG.call (nameR hT x3.ps) (fun a b e r' _ => pan_x hT (.inl rfl) x3 hd (by simp) (by simp) a b e) (fun nm r2 hr2 => ?_)
        have h2 := sufT x3.ps.suf (Sh.name _).wk hr2
        generalize hs4 : s3.set p (pR L (ix L r2) ((d + 1 : Nat) : Int)) = s4
        have x4 : XI σ s4 p L r2 (d + 1) := by rw [← hs4]; exact x3.put _ h2
        have b4 := x4.bx
        have htke := tkE_eq nm
        simp [htke, b4]
        refine GG.call (wantR hT x4.ps _) (fun a b e r' _ => pan_x hT (.inl rfl) x4 hd (by simp) (by simp) a b e) (fun _ r3 hr3 => ?_)
        have h3 := sufT x4.ps.suf (Sh.want _ _).wk hr3
        generalize hs5 : s4.set p (pR L (ix L r3) ((d + 1 : Nat) : Int)) = s5
        have x5 : XI σ s5 p L r3 (d + 1) := by rw [← hs5]; exact x4.put _ h3
        have b5 := x5.bx
        simp [b5]
        refine GG.call (ih.expr x5.ps (by omega)) (fun a b e r' _ => pan_x hT (.inl rfl) x5 hd (by simp) (by simp) a b e) (fun ea r4 hr4 => ?_)
        have h4 := sufT x5.ps.suf ((allSh 60 L n).expr _ _).wk hr4
        generalize hs6 : s5.set p (pR L (ix L r4) ((d + 1 : Nat) : Int)) = s6
        have x6 : XI σ s6 p L r4 (d + 1) := by rw [← hs6]; exact x5.put _ h4
        have b6 := x6.bx
        have ec6 := exE_sc B ea
        generalize hs7 : s6.new (.row 7 [exE B ea]) = s7
        have x7 : XI σ s7 p L r4 (d + 1) := by rw [← hs7]; exact x6.new _
        have b7 := x7.bx
        have c7 : s7.H s6.n = some (.row 7 [exE B ea]) := by rw [← hs7]; simp
        simp [b6, eq_true ec6, hs7, b7]
        refine GG.call (wantR hT x7.ps _) (fun a b e r' _ => pan_x hT (.inl rfl) x7 hd (by simp) (by simp) a b e) (fun _ r5 hr5 => ?_)
        have h5 := sufT x7.ps.suf (Sh.want _ _).wk hr5
        have n6 := x6.n
        have lt6 := x6.lt
        generalize hs8 : s7.set p (pR L (ix L r5) ((d + 1 : Nat) : Int)) = s8
        have x8 : XI σ s8 p L r5 (d + 1) := by rw [← hs8]; exact x7.put _ h5
        have b8 := x8.bx
        have c8 : s8.H s6.n = some (.row 7 [exE B ea]) := by rw [← hs8]; simp [show ¬ s6.n = p by omega, c7]
        have l8 : s6.n < s8.n := by rw [← hs8, ← hs7]; simp
        obtain ⟨q, hq⟩ : ∃ q, q = s6.n := ⟨_, rfl⟩
        rw [← hq] at c8 l8 ⊢
        have hlt8 := x8.lt
        have q2 : σ.n + 2 ≤ q := by rw [hq]; omega
        have gx8 := x8.n
        have k1 : ¬ σ.n = s8.n := by omega
        have k2 : ¬ q = s8.n := by omega
        simp [b8, c8, k1, k2]
        refine GG.both ?_ ?_
        · refine GG.call (ih.expr x8.ps (by omega)) (fun a b e r' _ => pan_x hT (.inl rfl) x8 hd (by simp) (by simp) a b e) (fun eb r6 hr6 => ?_)
          have h6 := sufT x8.ps.suf ((allSh 60 L n).expr _ _).wk hr6
          have hr6L : r6.length < L.length := Nat.lt_of_lt_of_le ((allSh 60 L n).expr _ _ _ _ hr6).2 x8.ps.suf.length_le
          generalize hs9 : s8.set p (pR L (ix L r6) ((d + 1 : Nat) : Int)) = s9
          have x9 : XI σ s9 p L r6 (d + 1) := by rw [← hs9]; exact x8.put _ h6
          have b9 := x9.bx
          have c9 : s9.H q = some (.row 7 [exE B ea]) := by rw [← hs9]; simp [show ¬ q = p by omega, c8]
          have n9 : s9.n = s8.n := by rw [← hs9]; rfl
          have hx : exV B eb = .agg (exE B eb) := rfl
          have hl9 : ∀ b, s9.n < (s9.new b).n := fun b => by simp
          have mk := made_row (B := B) hT x9.ps hr6L 21 t.fr ea eb
          have tt := fun s' (g : Gr s9 s') => to_ev hT (x9.ps.gr g) hr6L t.fr
          have e1 := exE_sc B ea
          have e2 := exE_sc B eb
          have gx := x9.n
          have g1 : ¬ σ.n = s9.n := by omega
          have g2 : ¬ q = s9.n := by omega
          have g3 : ¬ σ.n = s9.n + 1 := by omega
          have g4 : ¬ q = s9.n + 1 := by omega
          have g5 : ¬ σ.n + 1 = s9.n + 1 := by omega
          have g6 : ¬ σ.n + 1 = s9.n := by omega
          have re9 := x9.re
          unfold z7 at re9
          have m1 := mk (s9.new (.row 7 [exE B ea, exE B eb])) (by simp) s9.n (by simp) (by simp)
          have m2 := mk ((s9.new (.row 7 [exE B ea, exE B eb])).new (.row 7 [z7])) (by simp) s9.n (by simp) (by simp)
          have m3 := mk ((s9.new (.row 7 [z7])).new (.row 7 [exE B ea, exE B eb])) (by simp) (s9.n + 1) (by simp) (by simp)
          simp only [z7] at m1 m2 m3
          simp only [Int.cast_ofNat_Int] at m1 m2 m3
          clear mk
          generalize hto : toT L r6 = to at m1 m2 m3 tt ⊢
          simp (maxDischargeDepth := 12) [b9, c9, hx, m1, m2, m3, tt, eq_true e1, eq_true e2, g1, g2, g3, g4, g5, g6, re9]
          refine GG.both ?_ ?_
          · refine GG.done ?_
            exact end_x (es := [ea, eb]) hT (.inl rfl) (((x9.new _).new _).set (by omega) _) hd (by simp) rfl (by simp) (by omega) rfl (by simp)
          · refine GG.done ?_
            exact end_x (es := [ea, eb]) hT (.inl rfl) (((x9.new _).new _).set (by omega) _) hd (by simp) rfl (by simp) (by omega) rfl (by simp)
        · have x8' := x8.new (.row 7 [z7])
          unfold z7 at x8'
          refine GG.call (ih.expr x8'.ps (by omega)) (fun a b e r' _ => pan_x hT (.inl rfl) x8' hd (by simp) (by simp) a b e) (fun eb r6 hr6 => ?_)
          have h6 := sufT x8.ps.suf ((allSh 60 L n).expr _ _).wk hr6
          have hr6L : r6.length < L.length := Nat.lt_of_lt_of_le ((allSh 60 L n).expr _ _ _ _ hr6).2 x8.ps.suf.length_le
          generalize hs9 : (s8.new (.row 7 [[.int .i64 0, .str [], .bool false, .nils, .nils, .int .i64 0, .int .i64 0]])).set p (pR L (ix L r6) ((d + 1 : Nat) : Int)) = s9
          have x9 : XI σ s9 p L r6 (d + 1) := by rw [← hs9]; exact x8'.put _ h6
          have b9 := x9.bx
          have c9 : s9.H s8.n = some (.row 7 [[.int .i64 0, .str [], .bool false, .nils, .nils, .int .i64 0, .int .i64 0]]) := by rw [← hs9]; simp [show ¬ s8.n = p by omega]
          have n9 : s9.n = s8.n + 1 := by rw [← hs9]; rfl
          have hx : exV B eb = .agg (exE B eb) := rfl
          have mk := made_row (B := B) hT x9.ps hr6L 21 t.fr ea eb
          have e1 := exE_sc B ea
          have e2 := exE_sc B eb
          have gx := x9.n
          have g1 : ¬ σ.n = s9.n := by omega
          have g2 : ¬ s8.n = s9.n := by omega
          have g3 : ¬ σ.n + 1 = s8.n := by omega
          have g6 : ¬ σ.n + 1 = s9.n := by omega
          have g7 : ¬ s8.n = σ.n + 1 := by omega
          have re9 := x9.re
          have m1 := mk (s9.new (.row 7 [exE B ea, exE B eb])) (by simp) s9.n (by simp) (by simp)
          have q8 : ∃ q, q = s8.n := ⟨_, rfl⟩
          obtain ⟨q8, hq8⟩ := q8
          rw [← hq8] at c9 g2 g3 g7 k1 n9 ⊢
          have x10 := (x9.new (.row 7 [exE B ea, exE B eb])).set (l := q8) (by omega) (.row 7 [[.int .i64 21, .str [], .bool false, .nils, .slc s9.n 0 2, .int .i64 t.fr, .int .i64 (toT L r6)]])
          have tt2 := to_ev hT x10.ps hr6L t.fr
          have c9q : s9.H q = some (.row 7 [exE B ea]) := by rw [← hs9]; simp [show ¬ q = p by omega, k2, c8]
          have g8 : ¬ q = s9.n := by omega
          unfold z7 at re9
          simp only [Int.cast_ofNat_Int] at m1
          clear mk
          generalize hto : toT L r6 = to at m1 tt2 x10 ⊢
          simp (maxDischargeDepth := 12) [b9, c9, c9q, hx, m1, eq_true e1, eq_true e2, g1, g2, g3, g6, g7, g8, re9, k1, tt2]
          refine GG.done ?_
          exact end_x (es := [ea, eb]) hT (.inl rfl) ((x9.new _).set (by omega) _) hd (by simp) rfl (by simp [show ¬ s9.n = q8 by omega]) (by omega) rfl (by simp)
      | false =>
        have htk := take_no hT x2.ps hlet
        simp only [Bool.false_eq_true, if_false]
        cases hif : isT [105, 102] (t :: r) with
        | true =>
          have htk2 := take_yes hT x2.ps hif
          obtain ⟨s3, hs3⟩ : ∃ s3, s3 = s2.set p (pR L (ix L r) (d + 1 : Nat)) := ⟨_, rfl⟩
          have x3 : XI σ s3 p L r (d + 1) := by rw [hs3]; exact x2.put _ (suf_tail h.suf)
          rw [← hs3] at htk2
          have b3 := x3.bx
          simp only [if_true]
          simp [hbox, ← hs1, b1, hdp, b2, hnow, htk, htk2, b3]
          refine GG.call (ih.expr x3.ps (by omega)) (fun a b e r' _ => pan_x hT (.inl rfl) x3 hd (by simp) (by simp) a b e) (fun ea r4 hr4 => ?_)
          have h4 := sufT x3.ps.suf ((allSh 60 L n).expr _ _).wk hr4
          generalize hs4 : s3.set p (pR L (ix L r4) ((d + 1 : Nat) : Int)) = s4
          have x4 : XI σ s4 p L r4 (d + 1) := by rw [← hs4]; exact x3.put _ h4
          have ec4 := exE_sc B ea
          obtain ⟨q, hq⟩ : ∃ q, q = s4.n := ⟨_, rfl⟩
          have q2 : σ.n + 2 ≤ q := by have := x4.n; omega
          generalize hs5 : s4.new (.row 7 [exE B ea]) = s5
          have x5 : XI σ s5 p L r4 (d + 1) := by rw [← hs5]; exact x4.new _
          have b5 := x5.bx
          have c5 : s5.H q = some (.row 7 [exE B ea]) := by rw [← hs5]; simp [hq]
          have l5 : q < s5.n := by rw [← hs5, hq]; simp
          simp [x4.bx, eq_true ec4, hs5, b5]
          simp only [← hq]
          refine GG.call (wantR hT x5.ps _) (fun a b e r' _ => pan_x hT (.inl rfl) x5 hd (by simp) (by simp) a b e) (fun _ r6 hr6 => ?_)
          have h6 := sufT x5.ps.suf (Sh.want _ _).wk hr6
          have hlt := h.lt
          have pq : ¬ q = p := by omega
          generalize hs6 : s5.set p (pR L (ix L r6) ((d + 1 : Nat) : Int)) = s6
          have x6 : XI σ s6 p L r6 (d + 1) := by rw [← hs6]; exact x5.put _ h6
          have b6 := x6.bx
          have c6 : s6.H q = some (.row 7 [exE B ea]) := by rw [← hs6]; simp [pq, c5]
          have l6 : q < s6.n := by rw [← hs6]; simpa using l5
          simp [b6]
          refine GG.call (ih.expr x6.ps (by omega)) (fun a b e r' _ => pan_x hT (.inl rfl) x6 hd (by simp) (by simp) a b e) (fun eb r7 hr7 => ?_)
          have h7 := sufT x6.ps.suf ((allSh 60 L n).expr _ _).wk hr7
          generalize hs7 : s6.set p (pR L (ix L r7) ((d + 1 : Nat) : Int)) = s7
          have x7 : XI σ s7 p L r7 (d + 1) := by rw [← hs7]; exact x6.put _ h7
          have c7 : s7.H q = some (.row 7 [exE B ea]) := by rw [← hs7]; simp [pq, c6]
          have l7 : q < s7.n := by rw [← hs7]; simpa using l6
          have ec7 := exE_sc B eb
          obtain ⟨q', hq'⟩ : ∃ q, q = s7.n := ⟨_, rfl⟩
          have q3 : σ.n + 2 ≤ q' := by have := x7.n; omega
          have qq : ¬ q = q' := by omega
          generalize hs8 : s7.new (.row 7 [exE B eb]) = s8
          have x8 : XI σ s8 p L r7 (d + 1) := by rw [← hs8]; exact x7.new _
          have b8 := x8.bx
          have c8 : s8.H q = some (.row 7 [exE B ea]) := by rw [← hs8]; simp [← hq', qq, c7]
          have d8 : s8.H q' = some (.row 7 [exE B eb]) := by rw [← hs8]; simp [hq']
          have l8 : q' < s8.n := by rw [← hs8, hq']; simp
          simp [x7.bx, eq_true ec7, hs8, b8]
          simp only [← hq']
          refine GG.call (wantR hT x8.ps _) (fun a b e r' _ => pan_x hT (.inl rfl) x8 hd (by simp) (by simp) a b e) (fun _ r9 hr9 => ?_)
          have h9 := sufT x8.ps.suf (Sh.want _ _).wk hr9
          have pq' : ¬ q' = p := by omega
          generalize hs9 : s8.set p (pR L (ix L r9) ((d + 1 : Nat) : Int)) = s9
          have x9 : XI σ s9 p L r9 (d + 1) := by rw [← hs9]; exact x8.put _ h9
          have b9 := x9.bx
          have c9 : s9.H q = some (.row 7 [exE B ea]) := by rw [← hs9]; simp [pq, c8]
          have d9 : s9.H q' = some (.row 7 [exE B eb]) := by rw [← hs9]; simp [pq', d8]
          have l9 : q' < s9.n := by rw [← hs9]; simpa using l8
          simp [b9]
          refine GG.call (ih.expr x9.ps (by omega)) (fun a b e r' _ => pan_x hT (.inl rfl) x9 hd (by simp) (by simp) a b e) (fun ec r10 hr10 => ?_)
          have h10 := sufT x9.ps.suf ((allSh 60 L n).expr _ _).wk hr10
          have hr10L : r10.length < L.length := Nat.lt_of_lt_of_le ((allSh 60 L n).expr _ _ _ _ hr10).2 x9.ps.suf.length_le
          generalize hs10 : s9.set p (pR L (ix L r10) ((d + 1 : Nat) : Int)) = s10
          have x10 : XI σ s10 p L r10 (d + 1) := by rw [← hs10]; exact x9.put _ h10
          have c10 : s10.H q = some (.row 7 [exE B ea]) := by rw [← hs10]; simp [pq, c9]
          have d10 : s10.H q' = some (.row 7 [exE B eb]) := by rw [← hs10]; simp [pq', d9]
          have l10 : q' < s10.n := by rw [← hs10]; simpa using l9
          have ec10 := exE_sc B ec
          have mk := made_ev hT (((x10.new (.row 7 [exE B ec])).new (.row 7 [exE B ea, exE B eb, exE B ec])).ps) hr10L 22 t.fr (v := .slc (s10.n + 1) 0 3) (.inr (.inr ⟨_, _, _, rfl, by simp⟩))
          have gx := x10.n
          have g1 : ¬ σ.n = s10.n := by omega
          have g2 : ¬ q = s10.n := by omega
          have g3 : ¬ q' = s10.n := by omega
          have g4 : ¬ σ.n + 1 = s10.n := by omega
          have g5 : ¬ σ.n + 1 = s10.n + 1 := by omega
          have re := x10.re
          unfold z7 at re
          simp only [Int.cast_ofNat_Int] at mk
          generalize hto : toT L r10 = to at mk ⊢
          simp [x10.bx, eq_true ec4, eq_true ec7, eq_true ec10, c10, d10, g1, g2, g3, g4, g5, mk, re]
          refine GG.done ?_
          exact end_x (es := [ea, eb, ec]) hT (.inl rfl) ((x10.new _).new _) hd (by simp) rfl (by simp) (by omega) rfl (by simp)
        | false =>
          have htk2 := take_no hT x2.ps hif
          simp only [Bool.false_eq_true, if_false]
          cases has : isT [97, 115, 115, 101, 114, 116] (t :: r) with
          | true =>
            have htk3 := take_yes hT x2.ps has
            obtain ⟨s3, hs3⟩ : ∃ s3, s3 = s2.set p (pR L (ix L r) (d + 1 : Nat)) := ⟨_, rfl⟩
            have x3 : XI σ s3 p L r (d + 1) := by rw [hs3]; exact x2.put _ (suf_tail h.suf)
            rw [← hs3] at htk3
            have b3 := x3.bx
            simp only [if_true]
            simp [hbox, ← hs1, b1, hdp, b2, hnow, htk, htk2, htk3, b3]
            refine GG.call (ih.expr x3.ps (by omega)) (fun a b e r' _ => pan_x hT (.inl rfl) x3 hd (by simp) (by simp) a b e) (fun ea r4 hr4 => ?_)
            have h4 := sufT x3.ps.suf ((allSh 60 L n).expr _ _).wk hr4
            generalize hs4 : s3.set p (pR L (ix L r4) ((d + 1 : Nat) : Int)) = s4
            have x4 : XI σ s4 p L r4 (d + 1) := by rw [← hs4]; exact x3.put _ h4
            have ec4 := exE_sc B ea
            obtain ⟨q, hq⟩ : ∃ q, q = s4.n := ⟨_, rfl⟩
            have q2 : σ.n + 2 ≤ q := by have := x4.n; omega
            generalize hs5 : s4.new (.row 7 [exE B ea]) = s5
            have x5 : XI σ s5 p L r4 (d + 1) := by rw [← hs5]; exact x4.new _
            have b5 := x5.bx
            have c5 : s5.H q = some (.row 7 [exE B ea]) := by rw [← hs5]; simp [hq]
            have l5 : q < s5.n := by rw [← hs5, hq]; simp
            simp [x4.bx, eq_true ec4, hs5, b5]
            simp only [← hq]
            refine GG.call (wantR hT x5.ps _) (fun a b e r' _ => pan_x hT (.inl rfl) x5 hd (by simp) (by simp) a b e) (fun _ r6 hr6 => ?_)
            have h6 := sufT x5.ps.suf (Sh.want _ _).wk hr6
            have hlt := h.lt
            have pq : ¬ q = p := by omega
            generalize hs6 : s5.set p (pR L (ix L r6) ((d + 1 : Nat) : Int)) = s6
            have x6 : XI σ s6 p L r6 (d + 1) := by rw [← hs6]; exact x5.put _ h6
            have b6 := x6.bx
            have c6 : s6.H q = some (.row 7 [exE B ea]) := by rw [← hs6]; simp [pq, c5]
            have l6 : q < s6.n := by rw [← hs6]; simpa using l5
            simp [b6]
            refine GG.call (ih.expr x6.ps (by omega)) (fun a b e r' _ => pan_x hT (.inl rfl) x6 hd (by simp) (by simp) a b e) (fun eb r7 hr7 => ?_)
            have h7 := sufT x6.ps.suf ((allSh 60 L n).expr _ _).wk hr7
            have hr7L : r7.length < L.length := Nat.lt_of_lt_of_le ((allSh 60 L n).expr _ _ _ _ hr7).2 x6.ps.suf.length_le
            generalize hs7 : s6.set p (pR L (ix L r7) ((d + 1 : Nat) : Int)) = s7
            have x7 : XI σ s7 p L r7 (d + 1) := by rw [← hs7]; exact x6.put _ h7
            have c7 : s7.H q = some (.row 7 [exE B ea]) := by rw [← hs7]; simp [pq, c6]
            have l7 : q < s7.n := by rw [← hs7]; simpa using l6
            have ec7 := exE_sc B eb
            have mk := made_ev hT (((x7.new (.row 7 [exE B eb])).new (.row 7 [exE B ea, exE B eb])).ps) hr7L 23 t.fr (v := .slc (s7.n + 1) 0 2) (.inr (.inr ⟨_, _, _, rfl, by simp⟩))
            have gx := x7.n
            have g1 : ¬ σ.n = s7.n := by omega
            have g2 : ¬ q = s7.n := by omega
            have g4 : ¬ σ.n + 1 = s7.n := by omega
            have g5 : ¬ σ.n + 1 = s7.n + 1 := by omega
            have re := x7.re
            unfold z7 at re
            simp only [Int.cast_ofNat_Int] at mk
            generalize hto : toT L r7 = to at mk ⊢
            simp [x7.bx, eq_true ec4, eq_true ec7, c7, g1, g2, g4, g5, mk, re]
            refine GG.done ?_
            exact end_x (es := [ea, eb]) hT (.inl rfl) ((x7.new _).new _) hd (by simp) rfl (by simp) (by omega) rfl (by simp)
          | false =>
            have htk3 := take_no hT x2.ps has
            simp only [Bool.false_eq_true, if_false]
            simp [hbox, ← hs1, b1, hdp, b2, hnow, htk, htk2, htk3]
            have hrow := ih.row (lv := 0) x2.ps (by omega) (by omega)
            rw [← bind_id (rowT 60 L n 0 (d + 1) (t :: r))]
            refine GG.call hrow (fun a b e r' _ => pan_x hT (.inl rfl) x2 hd (by simp) (by simp) a b e) (fun ea r4 hr4 => ?_)
            have h4 := sufT x2.ps.suf ((allSh 60 L n).row _ _ _).wk hr4
            generalize hs4 : s2.set p (pR L (ix L r4) ((d + 1 : Nat) : Int)) = s4
            have x4 : XI σ s4 p L r4 (d + 1) := by rw [← hs4]; exact x2.put _ h4
            have ec4 := exE_sc B ea
            have re := x4.re
            unfold z7 at re
            simp [re, eq_true ec4]
            refine GG.done ?_
            have hlt := h.lt
            exact fin_x hT (.inl rfl) (x := ea) (cs := exE B ea) (by simp [x4.bx]) (by simp [show ¬ p = σ.n + 1 by omega]; exact x4.ps.H) (x4.tn.set (by omega) _) hd h.lt (by simp) (by simp) (exE_len B ea) (fun s2 _ => frz_list s2.H _ (exE_pure B ea) 1099511627776)
end Go.Proofs.YtmkgmjdbgjiehaaDoor
namespace Go.Proofs.YtmkgmjdbgjiehaaDoor
open Go.Proofs.YtmkgmjdbgjiehaaDoor.Ab
set_option linter.unusedVariables false
set_option linter.unusedSimpArgs false
attribute [local simp] Gr.refl Gr.new Gr.set Gr.kill Nat.add_assoc r_ckk chk_x chk_n new_set exV_cells exE_len exE_take
variable {E : En Tryd.prog} {B : Int}
theorem map_id' (x : Option (CO × St)) : x.map (fun r => r) = x := by cases x <;> rfl
theorem GG.out {σ : St} {p : Nat} {L : List TK} {d : Int} {α : Type} {enc : α → V} {spec : Rs α} {x : Option (CO × St)} (h1 : GG id σ p L d enc spec x) (h2 : spec ≠ .off) : Option.map (fun r => r) x = Out σ p L d enc spec := by rw [map_id']; exact h1 h2
theorem unary_step (hT : E.T = T) {n : Nat} (ih : AllEv E B n) {σ : St} {p : Nat} {L r : List TK} {d : Nat} (h : Ps σ p L r d) (hd : d ≤ 60) (hne : unaryT 60 L (n + 1) d r ≠ .off) : ev E 71 [.ptr p 0 0] σ = Out σ p L d (exV B) (unaryT 60 L (n + 1) d r) := by
  cases r with
  | nil => exact absurd (by simp [unaryT]) hne
  | cons t r =>
    have x1 := XI.begin h
    obtain ⟨s1, hs1⟩ : ∃ s1, s1 = (σ.new (.row 1 [[.ptr p 0 0]])).new (.row 7 [z7]) := ⟨_, rfl⟩
    rw [← hs1] at x1
    have hdp := deeper_ev hT x1.ps (by omega)
    have hbox : boxV σ (.ptr p 0 0) = some (.ptr σ.n 0 0, σ.new (.row 1 [[.ptr p 0 0]])) := boxV_v σ (.ptr p 0 0) rfl
    have b1 := x1.bx
    have hlt := h.lt
    rw [ev_eq (fd := f71) (by rw [hT]; rfl) (by simp [f71])]
    simp only [headR, f71, cutR]
    by_cases hdeep : 60 < d + 1
    · rw [if_pos hdeep] at hdp
      have hspec : unaryT 60 L (n + 1) d (t :: r) = .bad t.fr t.to 13 (t :: r) := by rw [unaryT]; simp only [if_pos hdeep]
      rw [hspec]
      have hc := cut_ps (L := L) (i := ix L (t :: r)) (d := ((d + 1 : Nat) : Int)) (o := .panic (failV t.fr t.to 13)) h.lt (σ' := s1.set p (pR L (ix L (t :: r)) (d + 1 : Nat))) (by simp) (x1.tn.put _) (frz_fail _ _ _ _ _)
      unfold z7 at hs1
      simp [hbox, d71, ← hs1, b1, hdp]
      rw [show cutR Fz.all σ (CO.panic (failV t.fr t.to 13), s1.set p (pR L (ix L (t :: r)) ((d : Int) + 1))) = _ from hc]
      rfl
    · rw [if_neg hdeep] at hdp
      have hspec : unaryT 60 L (n + 1) d (t :: r) = (if isT [45] (t :: r) = true then (unaryT 60 L n (d + 1) r).bind fun a r2 => .ok (.mk 6 [] 0 [a] t.fr (toT L r2)) r2
        else if isT [110, 111, 116] (t :: r) = true then (unaryT 60 L n (d + 1) r).bind fun a r2 => .ok (.mk 7 [] 0 [a] t.fr (toT L r2)) r2
        else atomT 60 L n (d + 1) (t :: r)) := by
        rw [unaryT]
        simp only [if_neg hdeep, takeT_eq]
        cases h1 : isT [45] (t :: r) <;> simp only [Bool.false_eq_true, if_false, if_true]
        cases h2 : isT [110, 111, 116] (t :: r) <;> simp only [Bool.false_eq_true, if_false, if_true]
      obtain ⟨s2, hs2⟩ : ∃ s2, s2 = s1.set p (pR L (ix L (t :: r)) (d + 1 : Nat)) := ⟨_, rfl⟩
      have x2 : XI σ s2 p L (t :: r) (d + 1) := by rw [hs2]; exact x1.put _ h.suf
      rw [← hs2] at hdp
      have b2 := x2.bx
      have hnow := now_ev hT x2.ps
      rw [tkE_eq] at hnow
      unfold z7 at hs1
      rw [hspec] at hne ⊢
      refine GG.out ?_ hne
      simp only [d71, r_seq, r_reg, r_kb]
      cases hm : isT [45] (t :: r) with
      | true =>
        have htk := take_yes hT x2.ps hm
        obtain ⟨s3, hs3⟩ : ∃ s3, s3 = s2.set p (pR L (ix L r) (d + 1 : Nat)) := ⟨_, rfl⟩
        have x3 : XI σ s3 p L r (d + 1) := by rw [hs3]; exact x2.put _ (suf_tail h.suf)
        rw [← hs3] at htk
        have b3 := x3.bx
        simp only [if_true]
        simp [hbox, ← hs1, b1, hdp, b2, hnow, htk, b3]
        refine GG.call (ih.unary x3.ps (by omega)) (fun a b e r' _ => pan_x hT (.inr rfl) x3 hd (by simp) (by simp) a b e) (fun ea r7 hr7 => ?_)
        have h7 := sufT x3.ps.suf ((allSh 60 L n).unary _ _).wk hr7
        have hr7L : r7.length < L.length := Nat.lt_of_lt_of_le ((allSh 60 L n).unary _ _ _ _ hr7).2 x3.ps.suf.length_le
        generalize hs7 : s3.set p (pR L (ix L r7) ((d + 1 : Nat) : Int)) = s7
        have x7 : XI σ s7 p L r7 (d + 1) := by rw [← hs7]; exact x3.put _ h7
        have ec7 := exE_sc B ea
        have mk := made_ev hT (((x7.new (.row 7 [exE B ea])).new (.row 7 [exE B ea])).ps) hr7L 6 t.fr (v := .slc (s7.n + 1) 0 1) (.inr (.inr ⟨_, _, _, rfl, by simp⟩))
        have gx := x7.n
        have g1 : ¬ σ.n = s7.n := by omega
        have g4 : ¬ σ.n + 1 = s7.n := by omega
        have g5 : ¬ σ.n + 1 = s7.n + 1 := by omega
        have re := x7.re
        unfold z7 at re
        simp only [Int.cast_ofNat_Int] at mk
        generalize hto : toT L r7 = to at mk ⊢
        simp [x7.bx, eq_true ec7, g1, g4, g5, mk, re]
        refine GG.done ?_
        exact end_x (es := [ea]) hT (.inr rfl) ((x7.new _).new _) hd (by simp) rfl (by simp) (by omega) rfl (by simp)
      | false =>
        have htk := take_no hT x2.ps hm
        simp only [Bool.false_eq_true, if_false]
        cases hnt : isT [110, 111, 116] (t :: r) with
        | true =>
          have htk2 := take_yes hT x2.ps hnt
          obtain ⟨s3, hs3⟩ : ∃ s3, s3 = s2.set p (pR L (ix L r) (d + 1 : Nat)) := ⟨_, rfl⟩
          have x3 : XI σ s3 p L r (d + 1) := by rw [hs3]; exact x2.put _ (suf_tail h.suf)
          rw [← hs3] at htk2
          have b3 := x3.bx
          simp only [if_true]
          simp [hbox, ← hs1, b1, hdp, b2, hnow, htk, htk2, b3]
          refine GG.call (ih.unary x3.ps (by omega)) (fun a b e r' _ => pan_x hT (.inr rfl) x3 hd (by simp) (by simp) a b e) (fun ea r7 hr7 => ?_)
          have h7 := sufT x3.ps.suf ((allSh 60 L n).unary _ _).wk hr7
          have hr7L : r7.length < L.length := Nat.lt_of_lt_of_le ((allSh 60 L n).unary _ _ _ _ hr7).2 x3.ps.suf.length_le
          generalize hs7 : s3.set p (pR L (ix L r7) ((d + 1 : Nat) : Int)) = s7
          have x7 : XI σ s7 p L r7 (d + 1) := by rw [← hs7]; exact x3.put _ h7
          have ec7 := exE_sc B ea
          have mk := made_ev hT (((x7.new (.row 7 [exE B ea])).new (.row 7 [exE B ea])).ps) hr7L 7 t.fr (v := .slc (s7.n + 1) 0 1) (.inr (.inr ⟨_, _, _, rfl, by simp⟩))
          have gx := x7.n
          have g1 : ¬ σ.n = s7.n := by omega
          have g4 : ¬ σ.n + 1 = s7.n := by omega
          have g5 : ¬ σ.n + 1 = s7.n + 1 := by omega
          have re := x7.re
          unfold z7 at re
          simp only [Int.cast_ofNat_Int] at mk
          generalize hto : toT L r7 = to at mk ⊢
          simp [x7.bx, eq_true ec7, g1, g4, g5, mk, re]
          refine GG.done ?_
          exact end_x (es := [ea]) hT (.inr rfl) ((x7.new _).new _) hd (by simp) rfl (by simp) (by omega) rfl (by simp)
        | false =>
          have htk2 := take_no hT x2.ps hnt
          simp only [Bool.false_eq_true, if_false]
          simp [hbox, ← hs1, b1, hdp, b2, hnow, htk, htk2]
          have hrow := ih.atom x2.ps (by omega)
          rw [← bind_id (atomT 60 L n (d + 1) (t :: r))]
          refine GG.call hrow (fun a b e r' _ => pan_x hT (.inr rfl) x2 hd (by simp) (by simp) a b e) (fun ea r4 hr4 => ?_)
          have h4 := sufT x2.ps.suf ((allSh 60 L n).atom _ _).wk hr4
          generalize hs4 : s2.set p (pR L (ix L r4) ((d + 1 : Nat) : Int)) = s4
          have x4 : XI σ s4 p L r4 (d + 1) := by rw [← hs4]; exact x2.put _ h4
          have ec4 := exE_sc B ea
          have re := x4.re
          unfold z7 at re
          simp [re, eq_true ec4]
          refine GG.done ?_
          exact fin_x hT (.inr rfl) (x := ea) (cs := exE B ea) (by simp [x4.bx]) (by simp [show ¬ p = σ.n + 1 by omega]; exact x4.ps.H) (x4.tn.set (by omega) _) hd h.lt (by simp) (by simp) (exE_len B ea) (fun s2 _ => frz_list s2.H _ (exE_pure B ea) 1099511627776)
end Go.Proofs.YtmkgmjdbgjiehaaDoor
