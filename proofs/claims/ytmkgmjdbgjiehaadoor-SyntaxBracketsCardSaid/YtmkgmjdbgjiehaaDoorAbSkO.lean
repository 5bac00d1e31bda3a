/-
The walk over the program's texts, told with what its values say: a part of it. No further condition.
-/
import Derived.Test.YtmkgmjdbgjiehaaDoorAbSkI
namespace Go.Proofs.YtmkgmjdbgjiehaaDoor
open Go.Proofs.YtmkgmjdbgjiehaaDoor.Ab
set_option linter.unusedVariables false
set_option linter.unusedSimpArgs false
attribute [local simp] Gr.refl Gr.new Gr.set Gr.kill Nat.add_assoc r_ckk chk_x chk_n new_set exV_cells exE_len exE_take
variable {E : En Tryd.prog} {B : Int}
structure FzE (lo : Nat) (σ s : St) (B : Int) (cs : List V) (e : Ex) (k : Nat) : Prop where
  len : cs.length = 7
  sc : ∀ x ∈ cs, x.scal = true
  fz : ∀ s2 : St, (∀ l, lo ≤ l → l < s.n → s2.H l = s.H l) → ∀ m, k ≤ m → cs.map (frzC s2.H (fun l => decide (l < σ.n)) (m + 1)) = exE B e
section
variable {lo : Nat} {σ s s' : St} {cs cs' : List V} {e e' : Ex} {k k' : Nat}
theorem FzE.pure (lo : Nat) (σ s : St) (B : Int) (e : Ex) : FzE lo σ s B (exE B e) e 0 := ⟨exE_len B e, exE_sc B e, fun s2 _ m _ => frz_list s2.H _ (exE_pure B e) (m + 1)⟩
theorem FzE.step (h : FzE lo σ s B cs e k) (hn : s.n ≤ s'.n) (hH : ∀ l, lo ≤ l → l < s.n → s'.H l = s.H l) : FzE lo σ s' B cs e k :=
  ⟨h.len, h.sc, fun s2 h2 => h.fz s2 fun l h0 h1 => (h2 l h0 (by omega)).trans (hH l h0 h1)⟩
theorem FzE.mono (h : FzE lo σ s B cs e k) (hk : k ≤ k') : FzE lo σ s B cs e k' := ⟨h.len, h.sc, fun s2 h2 m hm => h.fz s2 h2 m (by omega)⟩
theorem frz_parts {H : Nat → Option Blk} {n : Nat → Bool} {l len m : Nat} {rows : List (List V)} {es : List Ex} (hl : n l = false) (hH : H l = some (.row 7 rows)) (hlen : len = rows.length) (hes : es ≠ []) (hm : rows.map (·.map (frzC H n m)) = es.map (exE B)) : frzC H n (m + 1) (.slc l 0 len) = argV (exsE B es) := by
  show frzS H n (frzC H n m) (.slc l 0 len) = _
  subst hlen
  have ht : (rows.drop 0).take rows.length = rows := by rw [List.drop_zero, List.take_of_length_le (Nat.le_refl _)]
  simp only [frzS, hl, hH, ht, hm]
  rw [if_neg (by simp), if_pos ⟨by omega, by
    refine List.all_eq_true.2 fun c hc => ?_
    obtain ⟨e, _, rfl⟩ := List.mem_map.1 hc
    exact List.all_eq_true.2 (exE_pure B e)⟩, exsE_map]
  cases es with
  | nil => exact absurd rfl hes
  | cons e es => rfl
theorem FzE.two {l kd fr to : Nat} {c1 c2 : List V} {e1 e2 : Ex} (h1 : FzE lo σ s B c1 e1 k) (h2 : FzE lo σ s B c2 e2 k) (hl : s.H l = some (.row 7 [c1, c2])) (hlo : σ.n ≤ lo) (l0 : lo ≤ l) (l1 : l < s.n) : FzE lo σ s B [.int .i64 kd, .str [], .bool false, .nils, .slc l 0 2, .int .i64 fr, .int .i64 to] (.mk kd [] 0 [e1, e2] fr to) (k + 1) :=
  ⟨rfl, by simp, fun s2 hs m hm => by
    obtain ⟨m, rfl⟩ : ∃ m', m = m' + 1 := ⟨m - 1, by omega⟩
    have a1 := h1.fz s2 hs m (by omega)
    have a2 := h2.fz s2 hs m (by omega)
    have := frz_parts (B := B) (H := s2.H) (n := fun l => decide (l < σ.n)) (l := l) (len := 2) (m := m + 1) (es := [e1, e2]) (by simp; omega) (by rw [hs l l0 l1, hl]) rfl (by simp) (by simp [a1, a2])
    simp [exE, this, magV]⟩
end
structure XR (σ s : St) (p : Nat) (L r : List TK) (d : Nat) : Prop where
  ps : Ps s p L r (d : Nat)
  tn : Tn σ s p
  re : s.H σ.n = some (.row 7 [z7])
  n : σ.n < s.n
  lt : p < σ.n
section
variable {σ s : St} {p : Nat} {L r r' : List TK} {d d' : Nat}
theorem XR.put (h : XR σ s p L r d) (hs : r' <:+ L) : XR σ (s.set p (pR L (ix L r') d)) p L r' d :=
  have := h.lt
  ⟨h.ps.put _ hs, h.tn.put _, by simp [show ¬ σ.n = p by omega, h.re], h.n, h.lt⟩
theorem XR.new (h : XR σ s p L r d) (b : Blk) : XR σ (s.new b) p L r d :=
  have := h.n
  ⟨h.ps.gr ((Gr.refl _).new _), h.tn.new _, by simp [show ¬ σ.n = s.n by omega, h.re], by simp; omega, h.lt⟩
theorem XR.set (h : XR σ s p L r d) {l : Nat} (hl : σ.n + 1 ≤ l) (b : Blk) : XR σ (s.set l b) p L r d :=
  have := h.lt
  ⟨⟨h.ps.lt, by simp [show ¬ p = l by omega, h.ps.H], h.ps.suf, h.ps.gd⟩, h.tn.set (by omega) _, by simp [show ¬ σ.n = l by omega, h.re], h.n, h.lt⟩
theorem XR.begin (h : Ps σ p L r (d : Nat)) : XR σ (σ.new (.row 7 [z7])) p L r d :=
  ⟨h.gr ((Gr.refl σ).new _), gr_tn ((Gr.refl σ).new _) p, by simp, by simp, h.lt⟩
theorem pan_r (h : XR σ s p L r d) (a b e : Nat) : cutR .all σ (.panic (failV a b e), s.set p (pR L (ix L r') (if e = 13 then (d : Int) + 1 else (d : Int)))) = (.panic (failV a b e), σ.set p (pR L (ix L r') (if e = 13 then (d : Int) + 1 else (d : Int)))) :=
  cut_ps h.lt (by simp) (h.tn.put _) (frz_fail _ _ _ _ _)
theorem pan_r' {dr : Bool} {rs : List RC} {st : List SE} {f : Fr} (h : XR σ s p L r d) (hf : f.dd = []) (hn : noRnd st = true) (a b e : Nat) : panF E (run E) false dr (.cut σ :: rs) f (failV a b e) st (s.set p (pR L (ix L r') (if e = 13 then (d : Int) + 1 else (d : Int)))) = some (.panic (failV a b e), σ.set p (pR L (ix L r') (if e = 13 then (d : Int) + 1 else (d : Int)))) := by
  rw [pan_nil2 E false _ _ _ _ _ _ hf hn, ct_cut, pan_r h]
theorem end_r (h : XR σ s p L r d) {lo : Nat} {cs : List V} {e : Ex} {k : Nat} (hf : FzE lo σ s B cs e k) (hk : k < 1099511627776) (hlo : σ.n < lo) :
    cutR .all σ (.ret (.agg cs), s.set σ.n (.row 7 [cs])) = (.ret (exV B e), σ.set p (pR L (ix L r) (d : Nat))) := by
  have hlt := h.lt
  refine cut_ps h.lt (by simp [show ¬ p = σ.n by omega]; exact h.ps.H) (h.tn.set (by omega) _) ?_
  rw [frzO_ret, frzV_agg, hf.fz _ (fun l h1 h2 => by simp [show ¬ l = σ.n by omega]) 1099511627775 (by omega)]; rfl
end
theorem row_loop (hT : E.T = T) {σ : St} {p : Nat} {L : List TK} {d lv fr : Nat} (hlv : lv < 5) (hd : d ≤ 60) {Bd : D} (hB : Bd = b57_0) :
    ∀ (n : Nat), (∀ k, k < n → AllEv E B k) → ∀ (k : Nat) (a : Ex) (r : List TK) (cs : List V) (f : Fr) (s : St), XR σ s p L r d → FzE (σ.n + 2) σ s B cs a k → k + r.length ≤ L.length → r.length < L.length → s.H (σ.n + 1) = some (.row 7 [cs]) → σ.n + 1 < s.n →
      f.ds = [] → f.env 0 = .ptr p 0 0 → f.env 1 = .int .i64 lv → f.env 4 = .ptr σ.n 0 0 → f.env 5 = .int .i64 fr → f.env 6 = .ptr (σ.n + 1) 0 0 →
      GG id σ p L d (exV B) (loopT 60 L n lv d fr a r) (run E false [.cut σ, .c 4 (some 7)] (.d (.loop [0, 1, 4, 5, 6] Bd) :: .blk 0 :: []) f s)
  | 0, _, k, a, r, cs, f, s, x, hf, hk, hr, hc, hn, hds, e0, e1, e4, e5, e6 => fun h => absurd (by simp [loopT]) h
  | n + 1, ih, k, a, r, cs, f, s, x, hf, hk, hr, hc, hn, hds, e0, e1, e4, e5, e6 => by
    cases r with
    | nil => exact fun h => absurd (by simp [loopT]) h
    | cons t r =>
      have hL := x.ps.gd.len
      have hlt := x.lt
      have hk' : k + (r.length + 1) ≤ L.length := by simpa using hk
      rw [r_loopU hB]
      have hnow := now_ev hT x.ps
      have hlev := level_ev (σ := s) hT hlv t
      have re := x.re
      unfold z7 at re
      have hsc := hf.sc
      have hlen := hf.len
      have htk : cs.take 7 = cs := List.take_of_length_le (by omega)
      have q1 : ¬ σ.n = σ.n + 1 := by omega
      unfold loopT
      simp only
      obtain ⟨kd, hkd⟩ : ∃ kd, kd = levelT lv t := ⟨_, rfl⟩
      rw [← hkd] at hlev ⊢
      by_cases h0 : kd = 0
      · rw [if_pos h0]
        subst h0
        simp at hlev
        simp [b57_0, hds, e0, e1, e4, e5, e6, hnow, hlev, hc, re, hlen, htk, eq_true hsc]
        refine GG.done ?_
        rw [end_r x hf (by omega) (by omega)]
      · rw [if_neg h0]
        have h0' : ¬ (kd : Int) = 0 := by omega
        have hp := x.ps.H
        have hx := ix_cons x.ps.suf
        have hil := ix_le (L := L) (r := t :: r)
        have hw : IntKind.i64.wrap ((ix L (t :: r) : Int) + 1) = ((ix L r : Nat) : Int) := by rw [IntWalk.i64_in _ (by omega)]; omega
        have hw2 : IntKind.i64.wrap ((lv : Int) + 1) = ((lv + 1 : Nat) : Int) := by rw [IntWalk.i64_in _ (by omega)]; omega
        obtain ⟨s1, hs1⟩ : ∃ s1, s1 = s.set p (pR L (ix L r) (d : Nat)) := ⟨_, rfl⟩
        have x1 : XR σ s1 p L r d := by rw [hs1]; exact x.put (suf_tail x.ps.suf)
        have pq : ¬ σ.n + 1 = p := by omega
        have c1 : s1.H (σ.n + 1) = some (.row 7 [cs]) := by rw [hs1]; simp [pq, hc]
        have n1 : s1.n = s.n := by rw [hs1]; rfl
        have f1 : FzE (σ.n + 2) σ s1 B cs a k := hf.step (by omega) (fun l h1 h2 => by rw [hs1]; simp [show ¬ l = p by omega])
        obtain ⟨i, hi⟩ : ∃ i, i = ix L (t :: r) := ⟨_, rfl⟩
        obtain ⟨j, hj⟩ : ∃ j, j = ix L r := ⟨_, rfl⟩
        rw [← hi] at hp hw
        rw [← hj] at hw hs1
        simp only [pR] at hp hs1
        simp [b57_0, hds, e0, e1, e4, e5, e6, hnow, hlev, h0, h0', hp, hw, ← hs1, hw2]
        refine GG.call ((ih n (by omega)).row x1.ps hd (by omega)) (fun a b e r' _ => pan_r' x1 (by simp [hds]) (by simp) a b e) (fun eb r2 hr2 => ?_)
        have h2 := sufT x1.ps.suf ((allSh 60 L n).row _ _ _).wk hr2
        have hr2' := ((allSh 60 L n).row _ _ _ _ _ hr2).2
        have hrl : r.length < L.length := Nat.lt_of_le_of_lt (by simp) hr
        generalize hs2 : s1.set p (pR L (ix L r2) (d : Int)) = s2
        have x2 : XR σ s2 p L r2 d := by rw [← hs2]; exact x1.put h2
        have c2 : s2.H (σ.n + 1) = some (.row 7 [cs]) := by rw [← hs2]; simp [pq, c1]
        have n2 : s2.n = s.n := by rw [← hs2]; exact n1
        have f2 : FzE (σ.n + 2) σ s2 B cs a k := f1.step (by rw [n2, n1]; omega) (fun l h1 h2 => by rw [← hs2]; simp [show ¬ l = p by omega])
        have ec := exE_sc B eb
        have hr2L : r2.length < L.length := by omega
        have mk := made_ev hT (((x2.new (.row 7 [exE B eb])).new (.row 7 [cs, exE B eb])).ps) hr2L kd fr (v := .slc (s2.n + 1) 0 2) (.inr (.inr ⟨_, _, _, rfl, by simp⟩))
        have gx := x2.n
        have hn2 : σ.n + 1 < s2.n := by omega
        have g1 : ¬ σ.n + 1 = s2.n := by omega
        have g2 : ¬ σ.n + 1 = s2.n + 1 := by omega
        have g3 : ¬ σ.n = s2.n := by omega
        have g4 : ¬ σ.n = s2.n + 1 := by omega
        generalize hto : toT L r2 = to at mk ⊢
        obtain ⟨s3, hs3⟩ : ∃ s3, s3 = ((s2.new (.row 7 [exE B eb])).new (.row 7 [cs, exE B eb])).set (σ.n + 1) (.row 7 [[.int .i64 kd, .str [], .bool false, .nils, .slc (s2.n + 1) 0 2, .int .i64 fr, .int .i64 to]]) := ⟨_, rfl⟩
        have x3 : XR σ s3 p L r2 d := by rw [hs3]; exact ((x2.new _).new _).set (Nat.le_refl _) _
        have n3 : s3.n = s2.n + 2 := by rw [hs3]; rfl
        have k3 : ∀ l, σ.n + 2 ≤ l → l < s2.n → s3.H l = s2.H l := fun l h1 h2 => by rw [hs3]; simp [show ¬ l = σ.n + 1 by omega, show ¬ l = s2.n + 1 by omega, show ¬ l = s2.n by omega]
        have f3 : FzE (σ.n + 2) σ s3 B _ (.mk kd [] 0 [a, eb] fr to) (k + 1) := FzE.two (kd := kd) (fr := fr) (to := to) (f2.step (by omega) k3) ((FzE.pure _ σ s3 B eb).mono (by omega)) (l := s2.n + 1) (by rw [hs3]; simp [show ¬ s2.n = σ.n by omega]) (by omega) (by omega) (by omega)
        have c3 : s3.H (σ.n + 1) = some (.row 7 [[.int .i64 kd, .str [], .bool false, .nils, .slc (s2.n + 1) 0 2, .int .i64 fr, .int .i64 to]]) := by rw [hs3]; simp
        have re3 := x3.re
        unfold z7 at re3
        have hd7 : cs.drop 7 = [] := List.drop_eq_nil_of_le (by omega)
        by_cases hlv2 : lv = 2
        · rw [if_pos hlv2]
          subst hlv2
          simp [c2, eq_true ec, eq_true hsc, hlen, htk, g1, g2, g3, mk, hd7, ← hs3, c3, re3]
          refine GG.done ?_
          rw [end_r x3 f3 (by omega) (by omega)]
        · rw [if_neg hlv2]
          have hlv2' : ¬ (lv : Int) = 2 := by omega
          simp [c2, eq_true ec, eq_true hsc, hlen, htk, g1, g2, g3, mk, hd7, ← hs3, hlv2']
          exact row_loop hT hlv hd hB n (fun k hk => ih k (by omega)) (k + 1) _ r2 _ _ s3 x3 f3 (by simp at hk; omega) hr2L c3 (by omega) (by simp) (by simp) (by simp) (by simp) (by simp) (by simp)
end Go.Proofs.YtmkgmjdbgjiehaaDoor
namespace Go.Proofs.YtmkgmjdbgjiehaaDoor
open Go.Proofs.YtmkgmjdbgjiehaaDoor.Ab
set_option linter.unusedVariables false
set_option linter.unusedSimpArgs false
attribute [local simp] Gr.refl Gr.new Gr.set Gr.kill Nat.add_assoc r_ckk chk_x chk_n new_set exV_cells exE_len exE_take
variable {E : En Tryd.prog} {B : Int}
theorem end_e {σ s : St} {p : Nat} {L r : List TK} {d : Nat} (x : XR σ s p L r d) (e : Ex) : cutR .all σ (.ret (.agg (exE B e)), s.set σ.n (.row 7 [exE B e])) = (.ret (exV B e), σ.set p (pR L (ix L r) (d : Nat))) :=
  end_r x (FzE.pure (σ.n + 1) σ s B e) (by omega) (by omega)
theorem row_step (hT : E.T = T) {n : Nat} (ih : ∀ k, k ≤ n → AllEv E B k) {σ : St} {p : Nat} {L r : List TK} {d lv : Nat} (h : Ps σ p L r d) (hd : d ≤ 60) (hlv : lv ≤ 5) (hne : rowT 60 L (n + 1) lv d r ≠ .off) : ev E 57 [.ptr p 0 0, .int .i64 lv] σ = Out σ p L d (exV B) (rowT 60 L (n + 1) lv d r) := by
  obtain ⟨s1, hs1⟩ : ∃ s1, s1 = σ.new (.row 7 [z7]) := ⟨_, rfl⟩
  have x1 : XR σ s1 p L r d := by rw [hs1]; exact XR.begin h
  have hlt := h.lt
  have re := x1.re
  unfold z7 at re
  rw [ev_eq (fd := f57) (by rw [hT]; rfl) (by simp [f57])]
  simp only [headR, f57, cutR]
  refine GG.out ?_ hne
  unfold rowT
  by_cases h5 : lv = 5
  · subst h5
    rw [if_pos rfl]
    simp only [z7] at hs1
    simp [d57, ← hs1]
    rw [← bind_id (unaryT 60 L n d r)]
    refine GG.call ((ih n (Nat.le_refl _)).unary x1.ps hd) (fun a b e r' _ => pan_r' x1 (by simp) (by simp) a b e) (fun ea r4 hr4 => ?_)
    have h4 := sufT x1.ps.suf ((allSh 60 L n).unary _ _).wk hr4
    generalize hs4 : s1.set p (pR L (ix L r4) (d : Int)) = s4
    have x4 : XR σ s4 p L r4 d := by rw [← hs4]; exact x1.put h4
    have ec4 := exE_sc B ea
    have re := x4.re
    unfold z7 at re
    simp [re, eq_true ec4]
    refine GG.done ?_
    rw [end_e x4]
  · rw [if_neg h5]
    have h5' : ¬ (lv : Int) = 5 := by omega
    cases r with
    | nil => intro hh; exact absurd rfl hh
    | cons t r =>
      simp only
      have hnow := now_ev hT x1.ps
      rw [tkE_eq] at hnow
      have hw2 : IntKind.i64.wrap ((lv : Int) + 1) = ((lv + 1 : Nat) : Int) := by rw [IntWalk.i64_in _ (by omega)]; omega
      simp only [z7] at hs1
      simp [d57, ← hs1, h5', hnow, hw2]
      refine GG.call ((ih n (Nat.le_refl _)).row x1.ps hd (by omega)) (fun a b e r' _ => pan_r' x1 (by simp) (by simp) a b e) (fun ea r4 hr4 => ?_)
      have h4 := sufT x1.ps.suf ((allSh 60 L n).row _ _ _).wk hr4
      have hr4' := ((allSh 60 L n).row _ _ _ _ _ hr4).2
      have hLl := x1.ps.suf.length_le
      generalize hs4 : s1.set p (pR L (ix L r4) (d : Int)) = s4
      have x4 : XR σ s4 p L r4 d := by rw [← hs4]; exact x1.put h4
      have n4 : s4.n = σ.n + 1 := by rw [← hs4, hs1]; rfl
      have ec4 := exE_sc B ea
      generalize hs5 : s4.new (.row 7 [exE B ea]) = s5
      have x5 : XR σ s5 p L r4 d := by rw [← hs5]; exact x4.new _
      have c5 : s5.H (σ.n + 1) = some (.row 7 [exE B ea]) := by rw [← hs5, ← n4]; simp
      simp [eq_true ec4, hs5]
      simp only [n4]
      refine row_loop (lv := lv) (fr := t.fr) (p := p) (L := L) (B := B) hT (by omega) hd rfl n (fun k hk => ih k (by omega)) 0 ea r4 _ _ s5 x5 (FzE.pure _ σ s5 B ea) (by omega) (by omega) c5 (by rw [← hs5]; simp [n4]) ?_ ?_ ?_ ?_ ?_ ?_
      all_goals simp
end Go.Proofs.YtmkgmjdbgjiehaaDoor
namespace Go.Proofs.YtmkgmjdbgjiehaaDoor
open Go.Proofs.YtmkgmjdbgjiehaaDoor.Ab
set_option linter.unusedVariables false
set_option linter.unusedSimpArgs false
attribute [local simp] Gr.refl Gr.new Gr.set Gr.kill Nat.add_assoc r_ckk chk_x chk_n new_set exV_cells exE_len exE_take
variable {E : En Tryd.prog} {B : Int}
structure XT (σ s : St) (p : Nat) (L r : List TK) (d : Nat) : Prop where
  ps : Ps s p L r (d : Nat)
  tn : Tn σ s p
  lt : p < σ.n
section
variable {σ s : St} {p : Nat} {L r r' : List TK} {d d' : Nat}
theorem XR.xt (h : XR σ s p L r d) : XT σ s p L r d := ⟨h.ps, h.tn, h.lt⟩
theorem XT.put (h : XT σ s p L r d) (hs : r' <:+ L) : XT σ (s.set p (pR L (ix L r') d)) p L r' d := ⟨h.ps.put _ hs, h.tn.put _, h.lt⟩
theorem XT.new (h : XT σ s p L r d) (b : Blk) : XT σ (s.new b) p L r d := ⟨h.ps.gr ((Gr.refl _).new _), h.tn.new _, h.lt⟩
theorem XT.set (h : XT σ s p L r d) {l : Nat} (hl : σ.n ≤ l) (b : Blk) : XT σ (s.set l b) p L r d :=
  have := h.lt
  ⟨⟨h.ps.lt, by simp [show ¬ p = l by omega, h.ps.H], h.ps.suf, h.ps.gd⟩, h.tn.set (by omega) _, h.lt⟩
theorem XT.kill (h : XT σ s p L r d) {l : Nat} (hl : σ.n ≤ l) : XT σ (s.kill l) p L r d :=
  have := h.lt
  ⟨⟨h.ps.lt, by simp [show ¬ p = l by omega, h.ps.H], h.ps.suf, h.ps.gd⟩, ⟨h.tn.n, fun k hk hn => by simp [show ¬ k = l by omega, h.tn.H k hk hn], h.tn.W⟩, h.lt⟩
theorem XT.grown (h : XT σ s p L r d) {u : V} (hu : ∀ k, u.row = some k → σ.n ≤ k) : XT σ (grown s u) p L r d := by
  cases u <;> (try exact h)
  exact h.kill (hu _ rfl)
theorem XT.refl (h : Ps σ p L r (d : Nat)) : XT σ σ p L r d := ⟨h, Tn.refl _ _, h.lt⟩
theorem pan_t (h : XT σ s p L r d) {dr : Bool} {rs : List RC} {st : List SE} {f : Fr} (hf : f.dd = []) (hn : noRnd st = true) (a b e : Nat) : panF E (run E) false dr (.cut σ :: rs) f (failV a b e) st (s.set p (pR L (ix L r') (if e = 13 then (d : Int) + 1 else (d : Int)))) = some (.panic (failV a b e), σ.set p (pR L (ix L r') (if e = 13 then (d : Int) + 1 else (d : Int)))) := by
  rw [pan_nil2 E false _ _ _ _ _ _ hf hn, ct_cut, cut_ps (L := L) (i := ix L r') (d := if e = 13 then (d : Int) + 1 else (d : Int)) h.lt (by simp) (h.tn.put _) (frz_fail _ _ _ _ _)]
theorem pan_h (h : XT σ s p L r d) (a b e : Nat) (he : e ≠ 13) : cutR .all σ (.panic (failV a b e), s) = (.panic (failV a b e), σ.set p (pR L (ix L r) (if e = 13 then (d : Int) + 1 else (d : Int)))) := by
  rw [if_neg he]; exact cut_ps h.lt h.ps.H h.tn (frz_fail _ _ _ _ _)
structure OA (σ s : St) (B : Int) (u : V) (es : List Ex) : Prop where
  sl : Sl s 7 u (es.map (exE B))
  lo : ∀ k, u.row = some k → σ.n ≤ k ∧ k < s.n
  nl : es = [] → u = .nils
theorem OA.nils (σ s : St) (B : Int) : OA σ s B .nils [] := ⟨.inl ⟨rfl, rfl⟩, fun k h => by simp [V.row] at h, fun _ => rfl⟩
theorem OA.keep {u : V} {es : List Ex} {s' : St} (h : OA σ s B u es) (hn : s.n ≤ s'.n) (hH : ∀ l, σ.n ≤ l → l < s.n → s'.H l = s.H l) : OA σ s' B u es :=
  ⟨h.sl.mono fun l hl => hH l (h.lo l hl).1 (h.lo l hl).2, fun k hk => ⟨(h.lo k hk).1, Nat.lt_of_lt_of_le (h.lo k hk).2 hn⟩, h.nl⟩
theorem OA.app {u : V} {es : List Ex} (h : OA σ s B u es) (e : Ex) (hn : σ.n ≤ s.n) (hl : es.length < 100) : ∃ v s', appV (s.new (.row 7 [exE B e])) 96 7 u (.slc s.n 0 1) = some (v, s') ∧ OA σ s' B v (es ++ [e]) ∧ s' = (grown (s.new (.row 7 [exE B e])) u).new (.row 7 ((es ++ [e]).map (exE B))) := by
  have h' : OA σ (s.new (.row 7 [exE B e])) B u es := h.keep (by simp) (fun l h1 h2 => by simp [show ¬ l = s.n by omega])
  have := h'.sl.app (y := .slc s.n 0 1) (ys := [exE B e]) (by simp [srcOf, cont]) (by simp) (bytes := 96) (by simp [reach]; omega) (by simp [reach]; omega)
  rw [show es.map (exE B) ++ [exE B e] = (es ++ [e]).map (exE B) by simp] at this
  refine ⟨_, _, this, ⟨.inr ⟨(s.new (.row 7 [exE B e])).n, by simp, by simp⟩, fun k hk => ?_, fun hh => by simp at hh⟩, rfl⟩
  simp [V.row] at hk
  subst hk
  simp; omega
theorem OA.frz {u : V} {es : List Ex} (h : OA σ s B u es) {s2 : St} (hH : ∀ l, σ.n ≤ l → l < s.n → s2.H l = s.H l) (m : Nat) : frzC s2.H (fun l => decide (l < σ.n)) (m + 1) u = argV (exsE B es) := by
  rcases h.sl with ⟨rfl, he⟩ | ⟨l, rfl, hl⟩
  · simp at he; subst he; rfl
  · have h0 := h.lo l rfl
    have hne : es ≠ [] := fun e => by have := h.nl e; simp at this
    rw [List.length_map, frz_slcP (z := 7) (es := es.map (exE B)) m (by simp; omega) (by rw [hH l h0.1 h0.2, hl]) (by simp) (by
      intro e he u hu
      have : e ∈ es.map (exE B) := List.mem_of_mem_drop (List.mem_of_mem_take he)
      obtain ⟨x, _, rfl⟩ := List.mem_map.1 this
      exact exE_pure B x u hu)]
    rw [List.drop_zero, show (es.map (exE B)).take es.length = es.map (exE B) from List.take_of_length_le (by simp), exsE_map]
    cases es with
    | nil => exact absurd rfl hne
    | cons e es => rfl
theorem frzV_sl {u : V} {es : List Ex} (h : OA σ s B u es) (hn : σ.n ≤ s.n) : frzV s.H (fun l => decide (l < σ.n)) u = argV (exsE B es) := by
  have := h.frz (s2 := s) (fun _ _ _ => rfl) 1099511627775
  rcases h.sl with ⟨rfl, he⟩ | ⟨l, rfl, hl⟩
  · exact this
  · exact this
theorem OA.len {u : V} {es : List Ex} (h : OA σ s B u es) : lenV u = some (.int .i64 es.length) := by simpa using h.sl.rd.len
end
theorem exE_spn (B : Int) (e : Ex) : ((exE B e).drop 5).take 2 = [.int .i64 e.fr, .int .i64 e.to] := by cases e; rfl
theorem exE_spl (B : Int) (e : Ex) : 5 + 2 ≤ (exE B e).length := by rw [exE_len]; decide
theorem bind_assoc {α β γ : Type} (x : Rs α) (f : α → List TK → Rs β) (g : β → List TK → Rs γ) : (x.bind f).bind g = x.bind fun a r => (f a r).bind g := by cases x <;> rfl
theorem celA_lda {σ : St} {z : Nat} {v : V} {es : List (List V)} (h : Rd σ z v es) {i j m : Nat} {e : List V} (he : es[i]? = some e) (hm : j + m ≤ e.length) : ldaV σ m (celA v i j) = some (.agg ((e.drop j).take m)) := by
  have hi : i < es.length := (List.getElem?_eq_some_iff.1 he).1
  rcases h.inv with ⟨rfl, rfl⟩ | rfl | ⟨l, off, rows, rfl, h1, h2, h3⟩
  · simp at he
  · simp [celA, elA, he, hm]
  · have : rows[off + i]? = some e := by
      rw [h3, List.getElem?_take, List.getElem?_drop] at he
      simpa [hi] using he
    simp [celA, elA, h1, this, hm]
theorem arg_loop (hT : E.T = T) {σ : St} {p : Nat} {L : List TK} {d : Nat} {c : Option Nat} (hc : ∀ k, c = some k → k ≤ 6) (hd : d ≤ 60) {Bd : D} (hB : Bd = b87_0) :
    ∀ (n : Nat), (∀ k, k < n → AllEv E B k) → ∀ (acc : List Ex) (r : List TK) (u : V) (f : Fr) (s : St), XT σ s p L r d → OA σ s B u acc → acc.length ≤ 6 →
      f.ds = [] → f.env 0 = .ptr p 0 0 → f.env 1 = .int .i64 (cI c) → f.env 5 = u → ∀ {sp : List Ex → List TK → Rs (List Ex)} {x : D},
      (∀ l r' u' s' f', XT σ s' p L r' d → OA σ s' B u' l → f'.ds = [] → f'.env 0 = .ptr p 0 0 → f'.env 1 = .int .i64 (cI c) → f'.env 5 = u' → l.length ≤ 6 → argT 60 L n c d acc r = .ok l r' → GG id σ p L d (fun l => argV (exsE B l)) (sp l r') (run E false [.cut σ, .t 4] [.d x] f' s')) →
      GG id σ p L d (fun l => argV (exsE B l)) ((argT 60 L n c d acc r).bind sp) (run E false [.cut σ, .t 4] (.d (.loop [0, 1, 5] Bd) :: .blk 0 :: [.d x]) f s)
  | 0, _, acc, r, u, f, s, x, ho, hal, hds, e0, e1, e5, sp, X, hX => fun h => absurd (by simp [argT]) h
  | n + 1, ih, acc, r, u, f, s, x, ho, hal, hds, e0, e1, e5, sp, X, hX => by
    cases r with
    | nil =>
      intro hne
      refine absurd ?_ hne
      unfold argT
      have : (!isT [41] [] || fewT c acc.length) = true := by simp [isT]
      rw [if_pos this]
      by_cases h0 : acc = []
      · rw [if_pos h0]; cases n <;> simp [exprT]
      · rw [if_neg h0]; simp [wantT, takeT, missT]
    | cons t r =>
      have hi := is_ev hT x.ps [41]
      have hln := ho.len
      have hlt := x.lt
      obtain ⟨Y, hY⟩ : ∃ Y, Y = tlD b87_0 := ⟨_, rfl⟩
      have hbd : Bd = .seq (seqA b87_0) (.kb [0, 1, 5] Y) := by rw [hB, hY]; rfl
      have hfew : ∀ k, c = some k → (fewT c acc.length = true ↔ ((acc.length : Nat) : Int) < k) := fun k hk => by subst hk; simp [fewT]
      have hgo : (!isT [41] (t :: r) || fewT c acc.length) = true → run E false [.cut σ, .t 4] (.d (.loop [0, 1, 5] Bd) :: .blk 0 :: [.d X]) f s = run E false [.cut σ, .t 4] (.d Y :: .lp [0, 1, 5] Bd :: .blk 0 :: [.d X]) ⟨lk [0, 1, 5] [.ptr p 0 0, .int .i64 (cI c), u], []⟩ s := by
        intro hcond
        rw [r_loopU hbd]
        cases hb : isT [41] (t :: r) with
        | false =>
          rw [hb] at hi
          simp [seqA, b87_0, hds, e0, e1, e5, hi]
        | true =>
          rw [hb] at hi hcond
          simp only [Bool.not_true, Bool.false_or] at hcond
          cases c with
          | none => simp [fewT] at hcond
          | some k =>
            have := (hfew k rfl).1 hcond
            have h0 : (0 : Int) ≤ k := by omega
            simp [seqA, b87_0, hds, e0, e1, e5, hi, cI, hln, this]
      have hstop : (!isT [41] (t :: r) || fewT c acc.length) = false → ∃ f' : Fr, run E false [.cut σ, .t 4] (.d (.loop [0, 1, 5] Bd) :: .blk 0 :: [.d X]) f s = run E false [.cut σ, .t 4] [.d X] f' s ∧ f'.ds = [] ∧ f'.env 0 = .ptr p 0 0 ∧ f'.env 1 = .int .i64 (cI c) ∧ f'.env 5 = u := by
        intro hcond
        rw [r_loopU hbd]
        simp only [Bool.or_eq_false_iff, Bool.not_eq_false'] at hcond
        rw [hcond.1] at hi
        cases c with
        | none => exact ⟨_, by simp [seqA, b87_0, hds, e0, e1, e5, hi, cI]; rfl, by simp, by simp, by simp [cI], by simp⟩
        | some k =>
          have := (hfew k rfl)
          rw [hcond.2] at this
          have h1 : ¬ ((acc.length : Nat) : Int) < k := fun h => by simpa using this.2 h
          exact ⟨_, by simp [seqA, b87_0, hds, e0, e1, e5, hi, cI, hln, h1]; rfl, by simp, by simp, by simp [cI], by simp⟩
      cases hcond : (!isT [41] (t :: r) || fewT c acc.length) with
      | false =>
        have hsp : argT 60 L (n + 1) c d acc (t :: r) = .ok acc (t :: r) := by rw [argT, if_neg (by rw [hcond]; simp)]
        obtain ⟨f', g1, g2, g3, g4, g5⟩ := hstop hcond
        rw [g1, hsp, Rs.bind_ok]
        exact hX acc (t :: r) u s _ x ho g2 g3 g4 g5 hal hsp
      | true =>
        have hsp : argT 60 L (n + 1) c d acc (t :: r) = (if acc = [] then .ok () (t :: r) else wantT [44] (t :: r)).bind fun _ r1 => (exprT 60 L n d r1).bind fun e r2 => if 6 < acc.length + 1 then .bad e.fr e.to 3 r2 else argT 60 L n c d (acc ++ [e]) r2 := by rw [argT, if_pos hcond]
        have hX' := fun l r' u' s' f' a b c' d' e' f'' g h => hX l r' u' s' f' a b c' d' e' f'' g (by rw [hsp]; exact h)
        rw [hgo hcond, hsp]
        -- behind the comma
        have key : ∀ (r1 : List TK) (s1 : St) (f1 : Fr), XT σ s1 p L r1 d → OA σ s1 B u acc → f1.ds = [] → f1.env 0 = .ptr p 0 0 → f1.env 1 = .int .i64 (cI c) → f1.env 5 = u → r1 <:+ (t :: r) → ((if acc = [] then .ok () (t :: r) else wantT [44] (t :: r)) = .ok () r1) →
            GG id σ p L d (fun l => argV (exsE B l)) (((exprT 60 L n d r1).bind fun e r2 => if 6 < acc.length + 1 then .bad e.fr e.to 3 r2 else argT 60 L n c d (acc ++ [e]) r2).bind sp) (run E false [.cut σ, .t 4] (.d (tlD (blkB (tlD b87_0))) :: .blk 1 :: .lp [0, 1, 5] Bd :: .blk 0 :: [.d X]) f1 s1) := by
          intro r1 s1 f1 x1 o1 g0 g1 g2 g3 hr1 hok
          have hln1 := o1.len
          have gdd : f1.dd = [] := g0
          rw [bind_assoc]
          simp [b87_0, tlD, blkB, g0, g1, g2, g3]
          refine GG.call ((ih n (by omega)).expr x1.ps hd) (fun a b e r' _ => pan_t x1 (by simp [gdd]) (by simp) a b e) (fun ee r2 hr2 => ?_)
          have h2 := sufT x1.ps.suf ((allSh 60 L n).expr _ _).wk hr2
          generalize hs2 : s1.set p (pR L (ix L r2) (d : Int)) = s2
          have x2 : XT σ s2 p L r2 d := by rw [← hs2]; exact x1.put h2
          have o2 : OA σ s2 B u acc := o1.keep (by rw [← hs2]; simp) (fun l h1 h2 => by rw [← hs2]; simp [show ¬ l = p by omega])
          have ec := exE_sc B ee
          obtain ⟨v, s3, ap, o3, hs3⟩ := o2.app ee (by have := x2.tn.n; omega) (by omega)
          have x3 : XT σ s3 p L r2 d := by rw [hs3]; exact ((x2.new _).grown fun k hk => (o2.lo k hk).1).new _
          have hln3 := o3.len
          by_cases hbig : 6 < acc.length + 1
          · rw [if_pos hbig]
            have hbig' : (6 : Int) < ((acc ++ [ee]).length : Nat) := by simp; omega
            have hw : IntKind.i64.wrap ((((acc ++ [ee]).length : Nat) : Int) - 1) = ((acc.length : Nat) : Int) := by rw [List.length_append, List.length_singleton, IntWalk.i64_in _ (by omega)]; omega
            have hel : ((acc ++ [ee]).map (exE B))[acc.length]? = some (exE B ee) := by simp
            have hia := o3.sl.rd.at (k := .i64) (i := acc.length) (by simp)
            have hfa := o3.sl.rd.fa (i := acc.length) (j := 5) (by simp)
            have hlda : ldaV s3 2 (celA v acc.length 5) = some (.agg [.int .i64 ee.fr, .int .i64 ee.to]) := by
              rw [celA_lda o3.sl.rd hel (exE_spl B ee), exE_spn]
            obtain ⟨N, hN⟩ : ∃ N, N = (acc ++ [ee]).length := ⟨_, rfl⟩
            rw [← hN] at hln3 hbig' hw
            simp [eq_true ec, ap, hln3, hbig', hw, hia, hfa, hlda, g0]
            intro _
            show some (cutR .all σ (.panic (failV ee.fr ee.to 3), s3)) = _
            rw [pan_h x3 ee.fr ee.to 3 (by omega)]; rfl
          · rw [if_neg hbig]
            have hbig' : ¬ (6 : Int) < ((acc ++ [ee]).length : Nat) := by simp; omega
            obtain ⟨N, hN⟩ : ∃ N, N = (acc ++ [ee]).length := ⟨_, rfl⟩
            rw [← hN] at hln3 hbig'
            simp [eq_true ec, ap, hln3, hbig']
            refine arg_loop hT hc hd hB n (fun k hk => ih k (by omega)) (acc ++ [ee]) r2 v _ s3 x3 o3 (by simp; omega) ?_ ?_ ?_ ?_ (fun l r' u' s' f' a b c' d' e' f'' g h => hX' l r' u' s' f' a b c' d' e' f'' g ?_)
            · simp [g0]
            · simp [g1]
            · simp [g2]
            · simp
            · rw [hok, Rs.bind_ok, hr2, Rs.bind_ok, if_neg hbig, h]
        have hYY : Y = .block 1 (.seq (seqA (blkB (tlD b87_0))) (.kb [0, 1, 5] (tlD (blkB (tlD b87_0))))) := by rw [hY]; rfl
        obtain ⟨Z, hZ⟩ : ∃ Z, Z = tlD (blkB (tlD b87_0)) := ⟨_, rfl⟩
        rw [← hZ] at key hYY
        rw [hYY]
        by_cases h0 : acc = []
        · rw [if_pos h0]
          have hu := ho.nl h0
          simp only [Rs.bind_ok]
          have hl0 : lenV u = some (.int .i64 0) := by rw [hu]; rfl
          simp [seqA, blkB, tlD, b87_0, hl0]
          refine key (t :: r) s _ x ho ?_ ?_ ?_ ?_ (List.suffix_refl _) (by rw [if_pos h0])
          all_goals simp
        · rw [if_neg h0, bind_assoc]
          have hpos : 0 < acc.length := List.length_pos_iff.2 h0
          have hpos' : (0 : Int) < acc.length := by omega
          obtain ⟨N, hN⟩ : ∃ N, N = acc.length := ⟨_, rfl⟩
          rw [← hN] at hln hpos hpos'
          simp [seqA, blkB, tlD, b87_0, hln, hpos]
          refine GG.call (wantR hT x.ps _) (fun a b e r' _ => pan_t x (by simp) (by simp) a b e) (fun _ r1 hr1 => ?_)
          have h1 := Sh.want [44] (t :: r) _ _ hr1
          simp
          refine key r1 _ _ (x.put (h1.1.trans x.ps.suf)) (ho.keep (by simp) (fun l h1 h2 => by simp [show ¬ l = p by omega])) ?_ ?_ ?_ ?_ h1.1 (by rw [if_neg h0]; exact hr1)
          all_goals simp
end Go.Proofs.YtmkgmjdbgjiehaaDoor
namespace Go.Proofs.YtmkgmjdbgjiehaaDoor
open Go.Proofs.YtmkgmjdbgjiehaaDoor.Ab
set_option linter.unusedVariables false
set_option linter.unusedSimpArgs false
attribute [local simp] Gr.refl Gr.new Gr.set Gr.kill Nat.add_assoc r_ckk chk_x chk_n new_set exV_cells exE_len exE_take
variable {E : En Tryd.prog} {B : Int}
theorem args_end (hT : E.T = T) {σ s : St} {p : Nat} {L r : List TK} {d : Nat} {c : Option Nat} (hc : ∀ k, c = some k → k ≤ 6) (hd : d ≤ 60) {l : List Ex} {u : V} {f : Fr} (x : XT σ s p L r d) (ho : OA σ s B u l) (hll : l.length ≤ 6) (hds : f.ds = []) (e0 : f.env 0 = .ptr p 0 0) (e1 : f.env 1 = .int .i64 (cI c)) (e5 : f.env 5 = u) :
    GG id σ p L d (fun l => argV (exsE B l)) (match manyT c l with | some e => .bad e.fr e.to 21 r | none => (wantT [41] r).bind fun _ r3 => .ok l r3) (run E false [.cut σ, .t 4] [.d (.kb [0, 1, 5] (tlD (tlD (tlD (tlD d87)))))] f s) := by
  have hln := ho.len
  have hlt := x.lt
  have hdd : f.dd = [] := hds
  -- the closing bracket
  have fin : ∀ (f1 : Fr), f1.ds = [] → f1.env 0 = .ptr p 0 0 → f1.env 5 = u → GG id σ p L d (fun l => argV (exsE B l)) ((wantT [41] r).bind fun _ r3 => .ok l r3) (run E false [.cut σ, .t 4] [.d (tlD (tlD (tlD (tlD (tlD d87)))))] f1 s) := by
    intro f1 g0 g1 g2
    have gdd : f1.dd = [] := g0
    simp [tlD, d87, g0, g1, g2]
    refine GG.call (wantR hT x.ps _) (fun a b e r' _ => pan_t x (by simp [gdd]) (by simp) a b e) (fun _ r3 hr3 => ?_)
    have h3 := sufT x.ps.suf (Sh.want _ _).wk hr3
    generalize hs3 : s.set p (pR L (ix L r3) (d : Int)) = s3
    have x3 : XT σ s3 p L r3 d := by rw [← hs3]; exact x.put h3
    have o3 : OA σ s3 B u l := ho.keep (by rw [← hs3]; simp) (fun l h1 h2 => by rw [← hs3]; simp [show ¬ l = p by omega])
    simp [g0, g2]
    refine GG.done ?_
    rw [cut_ps (L := L) (i := ix L r3) (d := (d : Int)) x.lt x3.ps.H x3.tn (o' := .ret (argV (exsE B l))) (by rw [frzO_ret]; first | rw [frzV_sl o3 x3.tn.n] | rw [g2, frzV_sl o3 x3.tn.n])]
  cases c with
  | none =>
    have hm : manyT none l = none := rfl
    simp only [hm]
    have hX : tlD (tlD (tlD (tlD d87))) = .seq (seqA (tlD (tlD (tlD (tlD d87))))) (.kb [0, 5] (tlD (tlD (tlD (tlD (tlD d87)))))) := rfl
    obtain ⟨Z, hZ⟩ : ∃ Z, Z = tlD (tlD (tlD (tlD (tlD d87)))) := ⟨_, rfl⟩
    rw [hX]
    rw [← hZ] at fin ⊢
    simp [seqA, tlD, d87, hds, e0, e1, e5, cI]
    refine fin _ ?_ ?_ ?_ <;> simp
  | some k =>
    have hX : tlD (tlD (tlD (tlD d87))) = .seq (seqA (tlD (tlD (tlD (tlD d87))))) (.kb [0, 5] (tlD (tlD (tlD (tlD (tlD d87)))))) := rfl
    obtain ⟨Z, hZ⟩ : ∃ Z, Z = tlD (tlD (tlD (tlD (tlD d87)))) := ⟨_, rfl⟩
    rw [hX]
    rw [← hZ] at fin ⊢
    by_cases hk : k < l.length
    · have hm : manyT (some k) l = some l[k] := by simp [manyT, hk]
      simp only [hm]
      have hel : (l.map (exE B))[k]? = some (exE B l[k]) := by simp [hk]
      have hia := ho.sl.rd.at (k := .i64) (i := k) (by simpa using hk)
      have hfa := ho.sl.rd.fa (i := k) (j := 5) (by simpa using hk)
      have hlda : ldaV s 2 (celA u k 5) = some (.agg [.int .i64 (l[k]).fr, .int .i64 (l[k]).to]) := by
        rw [celA_lda ho.sl.rd hel (exE_spl B l[k]), exE_spn]
      obtain ⟨fr, hfr⟩ : ∃ fr, fr = (l[k]).fr := ⟨_, rfl⟩
      obtain ⟨to, hto⟩ : ∃ to, to = (l[k]).to := ⟨_, rfl⟩
      rw [← hfr, ← hto] at hlda ⊢
      simp [seqA, tlD, d87, hds, e0, e1, e5, cI, hln, hk, hia, hfa, hlda]
      intro _
      show some (cutR .all σ (.panic (failV fr to 21), s)) = _
      rw [pan_h x fr to 21 (by omega)]; rfl
    · have hm : manyT (some k) l = none := by simp [manyT]; omega
      simp only [hm]
      simp [seqA, tlD, d87, hds, e0, e1, e5, cI, hln, hk]
      refine fin _ ?_ ?_ ?_ <;> simp
theorem args_step (hT : E.T = T) {n : Nat} (ih : ∀ k, k ≤ n → AllEv E B k) {σ : St} {p : Nat} {L r : List TK} {d : Nat} {c : Option Nat} (h : Ps σ p L r d) (hd : d ≤ 60) (hc : ∀ k, c = some k → k ≤ 6) (hne : argsT 60 L (n + 1) c d r ≠ .off) : ev E 87 [.ptr p 0 0, .int .i64 (cI c)] σ = Out σ p L d (fun l => argV (exsE B l)) (argsT 60 L (n + 1) c d r) := by
  have x := XT.refl h
  rw [ev_eq (fd := f87) (by rw [hT]; rfl) (by simp [f87])]
  simp only [headR, f87, cutR]
  refine GG.out ?_ hne
  unfold argsT
  obtain ⟨Z, hZ⟩ : ∃ Z, Z = tlD (tlD (tlD (tlD d87))) := ⟨_, rfl⟩
  have hX : d87 = subD 3 d87 (.seq (.block 0 (.loop [0, 1, 5] b87_0)) (.kb [0, 1, 5] Z)) := by rw [hZ]; rfl
  rw [hX]
  simp [d87, subD]
  refine GG.call (wantR hT x.ps _) (fun a b e r' _ => pan_t x (by simp) (by simp) a b e) (fun _ r1 hr1 => ?_)
  have h1 := sufT x.ps.suf (Sh.want _ _).wk hr1
  have x1 := x.put h1
  simp
  refine arg_loop hT hc hd rfl n (fun k hk => ih k (by omega)) [] r1 .nils _ _ x1 (OA.nils _ _ _) (by simp) ?_ ?_ ?_ ?_ (fun l r' u' s' f' a b c' d' e' f'' g hh => ?_)
  · simp
  · simp
  · simp
  · simp
  · rw [hZ]; exact args_end hT hc hd a b g c' d' e' f''
end Go.Proofs.YtmkgmjdbgjiehaaDoor
namespace Go.Proofs.YtmkgmjdbgjiehaaDoor
open Go.Proofs.YtmkgmjdbgjiehaaDoor.Ab
set_option linter.unusedVariables false
set_option linter.unusedSimpArgs false
attribute [local simp] Gr.refl Gr.new Gr.set Gr.kill Nat.add_assoc r_ckk chk_x chk_n new_set exV_cells exE_len exE_take
variable {E : En Tryd.prog} {B : Int}
theorem argV_sls (σ : St) (es : List (List V)) : Sls σ (argV es) := by
  cases es with
  | nil => exact .inl rfl
  | cons e es => exact .inr (.inl ⟨7, _, rfl⟩)
theorem atom_step (hT : E.T = T) (hB : B = 4294967296) {n : Nat} (ih : AllEv E B n) {σ : St} {p : Nat} {L r : List TK} {d : Nat} (h : Ps σ p L r d) (hd : d ≤ 60) (hne : atomT 60 L (n + 1) d r ≠ .off) : ev E 80 [.ptr p 0 0] σ = Out σ p L d (exV B) (atomT 60 L (n + 1) d r) := by
  cases r with
  | nil => exact absurd (by simp [atomT]) hne
  | cons t r =>
    have x0 := XR.begin h
    have hn0 := now_ev hT x0.ps
    obtain ⟨s0, hs0⟩ : ∃ s0, s0 = σ.new (.row 7 [z7]) := ⟨_, rfl⟩
    rw [← hs0] at x0 hn0
    have n0 : s0.n = σ.n + 1 := by rw [hs0]; rfl
    obtain ⟨s1, hs1⟩ : ∃ s1, s1 = s0.new (.row 4 [tkE t]) := ⟨_, rfl⟩
    have x1 : XR σ s1 p L (t :: r) d := by rw [hs1]; exact x0.new _
    obtain ⟨q, hq⟩ : ∃ q, q = s0.n := ⟨_, rfl⟩
    have c1 : s1.H q = some (.row 4 [tkE t]) := by rw [hs1, hq]; simp
    have n1 : s1.n = q + 1 := by rw [hs1, hq]; rfl
    have hlt := h.lt
    have re := x1.re
    have hp := x1.ps.H
    have hx := ix_cons x1.ps.suf
    have hil := ix_le (L := L) (r := t :: r)
    have hL := x1.ps.gd.len
    have hw : IntKind.i64.wrap ((ix L (t :: r) : Int) + 1) = ((ix L r : Nat) : Int) := by rw [IntWalk.i64_in _ (by omega)]; omega
    have pq : ¬ σ.n = p := by omega
    have pq1 : ¬ q = p := by omega
    rw [ev_eq (fd := f80) (by rw [hT]; rfl) (by simp [f80])]
    simp only [headR, f80, cutR]
    refine GG.out ?_ hne
    rw [tkE_eq] at hn0 c1 hs1
    unfold z7 at hs0 re
    have hbeg : ∃ f1 : Fr, run E false [.cut σ, .c 2 (some 7)] [.d d80] ⟨envOf [.ptr p 0 0], []⟩ σ = run E false [.cut σ, .c 2 (some 7)] [.d (tlD (tlD d80))] f1 s1 ∧ f1.ds = [] ∧ f1.env 0 = .ptr p 0 0 ∧ f1.env 2 = .ptr σ.n 0 0 ∧ f1.env 3 = .ptr q 0 0 := by
      obtain ⟨Z, hZ⟩ : ∃ Z, Z = tlD (tlD d80) := ⟨_, rfl⟩
      have hX : d80 = subD 2 d80 Z := by rw [hZ]; rfl
      rw [← hZ, hX]
      exact ⟨_, by simp [d80, subD, ← hs0, hn0, ← hs1]; rfl, by simp, by simp, by simp, by simp [hq]⟩
    obtain ⟨f1, hb1, g0, g1, g2, g3⟩ := hbeg
    have gdd : f1.dd = [] := g0
    rw [hb1]
    unfold atomT
    simp only
    by_cases hk3 : t.kind = 3
    · rw [if_pos hk3]
      have hk3' : (t.kind : Int) = 3 := by omega
      obtain ⟨gd1, gd2⟩ := h.gd.num t (h.suf.subset (by simp)) hk3
      have hbp := fun σ' => bparse_ev hT hB (σ := σ') t.txt gd2 gd1
      by_cases hwl : wellD t.txt = true
      · rw [if_pos hwl]
        simp only [hwl, if_true] at hbp
        obtain ⟨m, hm⟩ : ∃ m, m = numD t.txt := ⟨_, rfl⟩
        rw [← hm] at hbp ⊢
        have hsc : (magV B (m : Int)).scal = true := magV_scal
        obtain ⟨s2, hs2⟩ : ∃ s2, s2 = (s1.new (.row 2 [numV B m])).set p (pR L (ix L r) (d : Nat)) := ⟨_, rfl⟩
        have x2 : XR σ s2 p L r d := by rw [hs2]; exact (x1.new _).put (suf_tail x1.ps.suf)
        have re2 := x2.re
        have c2 : s2.H q = some (.row 4 [[.int .i64 t.kind, .str t.txt, .int .i64 t.fr, .int .i64 t.to]]) := by rw [hs2]; simp [pq1, c1, show ¬ q = s1.n by omega]
        have d2 : s2.H s1.n = some (.row 2 [numV B m]) := by rw [hs2]; simp [show ¬ s1.n = p by omega]
        have g4 : ¬ p = s1.n := by omega
        obtain ⟨i, hi⟩ : ∃ i, i = ix L (t :: r) := ⟨_, rfl⟩
        obtain ⟨j, hj⟩ : ∃ j, j = ix L r := ⟨_, rfl⟩
        rw [← hi] at hp hw
        rw [← hj] at hw hs2
        simp only [pR] at hp hs2
        unfold numV at hbp hs2 d2
        unfold z7 at re2
        simp [tlD, d80, g0, g1, g2, g3, c1, eq_true hk3', hbp, hsc, hp, hw, g4, ← hs2, c2, d2, re2]
        refine GG.done ?_
        have := end_e (B := B) x2 (.mk 1 [] m [] t.fr t.to)
        rw [← this]
        simp [exE, exsE, argV]
      · rw [if_neg hwl]
        simp only [hwl] at hbp
        simp at hbp
        have x2 := x1.new (.row 2 [[.bool false, .nils]])
        have hf := fail_ev hT x2.ps 6
        simp only [Int.cast_ofNat_Int] at hf
        simp [tlD, d80, g0, g1, g2, g3, c1, eq_true hk3', hbp, hf]
        intro _
        show some (cutR .all σ (.panic (failV t.fr t.to 6), s1.new (.row 2 [[.bool false, .nils]]))) = _
        rw [pan_h x2.xt t.fr t.to 6 (by omega)]; rfl
    · rw [if_neg hk3]
      have hk3' : ¬ (t.kind : Int) = 3 := by omega
      by_cases hk1 : t.kind = 1
      · rw [if_pos hk1]
        have hk1' : (t.kind : Int) = 1 := by omega
        obtain ⟨s2, hs2⟩ : ∃ s2, s2 = s1.set p (pR L (ix L r) (d : Nat)) := ⟨_, rfl⟩
        have x2 : XR σ s2 p L r d := by rw [hs2]; exact x1.put (suf_tail x1.ps.suf)
        have c2 : s2.H q = some (.row 4 [[.int .i64 t.kind, .str t.txt, .int .i64 t.fr, .int .i64 t.to]]) := by rw [hs2]; simp [pq1, c1]
        have n2 : s2.n = s1.n := by rw [hs2]; rfl
        cases r with
        | nil => exact fun hh => absurd rfl hh
        | cons t' r =>
          have hi2 := is_ev hT x2.ps [40]
          obtain ⟨i, hi⟩ : ∃ i, i = ix L (t :: t' :: r) := ⟨_, rfl⟩
          obtain ⟨j, hj⟩ : ∃ j, j = ix L (t' :: r) := ⟨_, rfl⟩
          rw [← hi] at hp hw
          rw [← hj] at hw hs2
          simp only [pR] at hp hs2
          show GG id σ p L d (exV B) (if isT [40] (t' :: r) = true then (argsT 60 L n none d (t' :: r)).bind fun l r2 => .ok (.mk 5 t.txt 0 l t.fr (toT L r2)) r2 else .ok (.mk 4 t.txt 0 [] t.fr t.to) (t' :: r)) _
          cases hb : isT [40] (t' :: r) with
          | true =>
            rw [hb] at hi2
            simp only [if_true]
            simp [tlD, d80, g0, g1, g2, g3, c1, eq_true hk1', hk3', hp, hw, ← hs2, hi2]
            refine GG.call (ih.args (c := none) x2.ps hd (by simp)) (fun a b e r' _ => pan_r' x2 (by simp) (by simp) a b e) (fun l r2 hr2 => ?_)
            have h2 := sufT x2.ps.suf ((allSh 60 L n).args _ _ _).wk hr2
            have hr2L : r2.length < L.length := Nat.lt_of_lt_of_le ((allSh 60 L n).args _ _ _ _ _ hr2).2 x2.ps.suf.length_le
            generalize hs3 : s2.set p (pR L (ix L r2) (d : Int)) = s3
            have x3 : XR σ s3 p L r2 d := by rw [← hs3]; exact x2.put h2
            have c3 : s3.H q = some (.row 4 [[.int .i64 t.kind, .str t.txt, .int .i64 t.fr, .int .i64 t.to]]) := by rw [← hs3]; simp [pq1, c2]
            have n3 : s3.n = s1.n := by rw [← hs3]; exact n2
            have mk := made_ev hT x3.ps hr2L 5 t.fr (argV_sls s3 (exsE B l))
            have re3 := x3.re
            unfold z7 at re3
            simp only [Int.cast_ofNat_Int] at mk
            have asc := argV_scal (exsE B l)
            generalize hto : toT L r2 = to at mk ⊢
            have q3 : ¬ q = s3.n := by omega
            have q4 : ¬ σ.n = s3.n := by omega
            simp [mk, c3, asc, q3, q4, re3]
            refine GG.done ?_
            have x4 := x3.new (.row 7 [[.int .i64 5, .str t.txt, .bool false, .nils, argV (exsE B l), .int .i64 t.fr, .int .i64 to]])
            rw [← end_e (B := B) x4 (.mk 5 t.txt 0 l t.fr to)]
            simp [exE, magV]
          | false =>
            rw [hb] at hi2
            simp only [Bool.false_eq_true, if_false]
            have re2 := x2.re
            unfold z7 at re2
            simp [tlD, d80, g0, g1, g2, g3, c1, eq_true hk1', hk3', hp, hw, ← hs2, hi2, c2, re2]
            refine GG.done ?_
            rw [← end_e (B := B) x2 (.mk 4 t.txt 0 [] t.fr t.to)]
            simp [exE, exsE, argV, magV]
      · rw [if_neg hk1]
        have hk1' : ¬ (t.kind : Int) = 1 := by omega
        simp only [takeT_eq]
        cases hv : isT [118] (t :: r) with
        | true =>
            have htkv := take_yes hT x1.ps hv
            obtain ⟨s2, hs2⟩ : ∃ s2, s2 = s1.set p (pR L (ix L r) (d : Nat)) := ⟨_, rfl⟩
            have x2 : XR σ s2 p L r d := by rw [hs2]; exact x1.put (suf_tail x1.ps.suf)
            have re2 := x2.re
            unfold z7 at re2
            have c2 : s2.H q = some (.row 4 [[.int .i64 t.kind, .str t.txt, .int .i64 t.fr, .int .i64 t.to]]) := by rw [hs2]; simp [pq1, c1]
            rw [← hs2] at htkv
            simp only [if_true]
            simp [tlD, d80, g0, g1, g2, g3, c1, hk3', hk1', htkv, c2, re2]
            refine GG.done ?_
            rw [← end_e (B := B) x2 (.mk 4 [118] 0 [] t.fr t.to)]
            simp [exE, exsE, argV, magV]
        | false =>
          have htv := take_no hT x1.ps hv
          simp only [Bool.false_eq_true, if_false]
          cases htr : isT [116, 114, 117, 101] (t :: r) with
          | true =>
              have htktr := take_yes hT x1.ps htr
              obtain ⟨s2, hs2⟩ : ∃ s2, s2 = s1.set p (pR L (ix L r) (d : Nat)) := ⟨_, rfl⟩
              have x2 : XR σ s2 p L r d := by rw [hs2]; exact x1.put (suf_tail x1.ps.suf)
              have re2 := x2.re
              unfold z7 at re2
              have c2 : s2.H q = some (.row 4 [[.int .i64 t.kind, .str t.txt, .int .i64 t.fr, .int .i64 t.to]]) := by rw [hs2]; simp [pq1, c1]
              rw [← hs2] at htktr
              simp only [if_true]
              simp [tlD, d80, g0, g1, g2, g3, c1, hk3', hk1', htv, htktr, c2, re2]
              refine GG.done ?_
              rw [← end_e (B := B) x2 (.mk 2 [] 0 [] t.fr t.to)]
              simp [exE, exsE, argV, magV]
          | false =>
            have httr := take_no hT x1.ps htr
            simp only [Bool.false_eq_true, if_false]
            cases hfa : isT [102, 97, 108, 115, 101] (t :: r) with
            | true =>
                have htkfa := take_yes hT x1.ps hfa
                obtain ⟨s2, hs2⟩ : ∃ s2, s2 = s1.set p (pR L (ix L r) (d : Nat)) := ⟨_, rfl⟩
                have x2 : XR σ s2 p L r d := by rw [hs2]; exact x1.put (suf_tail x1.ps.suf)
                have re2 := x2.re
                unfold z7 at re2
                have c2 : s2.H q = some (.row 4 [[.int .i64 t.kind, .str t.txt, .int .i64 t.fr, .int .i64 t.to]]) := by rw [hs2]; simp [pq1, c1]
                rw [← hs2] at htkfa
                simp only [if_true]
                simp [tlD, d80, g0, g1, g2, g3, c1, hk3', hk1', htv, httr, htkfa, c2, re2]
                refine GG.done ?_
                rw [← end_e (B := B) x2 (.mk 3 [] 0 [] t.fr t.to)]
                simp [exE, exsE, argV, magV]
            | false =>
              have htfa := take_no hT x1.ps hfa
              simp only [Bool.false_eq_true, if_false]
              cases hpa : isT [40] (t :: r) with
              | true =>
                have htpa := take_yes hT x1.ps hpa
                obtain ⟨s2, hs2⟩ : ∃ s2, s2 = s1.set p (pR L (ix L r) (d : Nat)) := ⟨_, rfl⟩
                have x2 : XR σ s2 p L r d := by rw [hs2]; exact x1.put (suf_tail x1.ps.suf)
                rw [← hs2] at htpa
                simp only [if_true]
                simp [tlD, d80, g0, g1, g2, g3, c1, hk3', hk1', htv, httr, htfa, htpa]
                refine GG.call (ih.expr x2.ps hd) (fun a b e r' _ => pan_r' x2 (by simp) (by simp) a b e) (fun ea r3 hr3 => ?_)
                have h3 := sufT x2.ps.suf ((allSh 60 L n).expr _ _).wk hr3
                generalize hs3 : s2.set p (pR L (ix L r3) (d : Int)) = s3
                have x3 : XR σ s3 p L r3 d := by rw [← hs3]; exact x2.put h3
                have ec := exE_sc B ea
                obtain ⟨q', hq'⟩ : ∃ q', q' = s3.n := ⟨_, rfl⟩
                have q3 : σ.n < q' := by have := x3.n; omega
                generalize hs4 : s3.new (.row 7 [exE B ea]) = s4
                have x4 : XR σ s4 p L r3 d := by rw [← hs4]; exact x3.new _
                have c4 : s4.H q' = some (.row 7 [exE B ea]) := by rw [← hs4, hq']; simp
                simp [eq_true ec, hs4]
                simp only [← hq']
                refine GG.call (wantR hT x4.ps _) (fun a b e r' _ => pan_r' x4 (by simp) (by simp) a b e) (fun _ r5 hr5 => ?_)
                have h5 := sufT x4.ps.suf (Sh.want _ _).wk hr5
                generalize hs5 : s4.set p (pR L (ix L r5) (d : Int)) = s5
                have x5 : XR σ s5 p L r5 d := by rw [← hs5]; exact x4.put h5
                have c5 : s5.H q' = some (.row 7 [exE B ea]) := by rw [← hs5]; simp [show ¬ q' = p by omega, c4]
                have re5 := x5.re
                unfold z7 at re5
                simp [eq_true ec, c5, re5]
                refine GG.done ?_
                rw [end_e x5]
              | false =>
                have htpa := take_no hT x1.ps hpa
                simp only [Bool.false_eq_true, if_false]
                simp [tlD, d80, g0, g1, g2, g3, c1, hk3', hk1', htv, httr, htfa, htpa]
                rw [← bind_id (arrT 60 L n d t.fr (t :: r))]
                refine GG.call (ih.arr (fr := t.fr) x1.ps hd) (fun a b e r' _ => pan_r' x1 (by simp) (by simp) a b e) (fun ea r3 hr3 => ?_)
                have h3 := sufT x1.ps.suf ((allSh 60 L n).arr _ _ _).wk hr3
                generalize hs3 : s1.set p (pR L (ix L r3) (d : Int)) = s3
                have x3 : XR σ s3 p L r3 d := by rw [← hs3]; exact x1.put h3
                have ec := exE_sc B ea
                have re3 := x3.re
                unfold z7 at re3
                simp [eq_true ec, re3]
                refine GG.done ?_
                rw [end_e x3]
end Go.Proofs.YtmkgmjdbgjiehaaDoor
namespace Go.Proofs.YtmkgmjdbgjiehaaDoor
open Go.Proofs.YtmkgmjdbgjiehaaDoor.Ab
set_option linter.unusedVariables false
set_option linter.unusedSimpArgs false
attribute [local simp] Gr.refl Gr.new Gr.set Gr.kill Nat.add_assoc r_ckk chk_x chk_n new_set exV_cells exE_len exE_take
variable {E : En Tryd.prog} {B : Int}
theorem end_made {σ s : St} {p : Nat} {L r : List TK} {d : Nat} (x : XR σ s p L r d) (k fr to : Nat) (l : List Ex) : cutR .all σ (.ret (.agg [.int .i64 k, .str [], .bool false, .nils, argV (exsE B l), .int .i64 fr, .int .i64 to]), s.set σ.n (.row 7 [[.int .i64 k, .str [], .bool false, .nils, argV (exsE B l), .int .i64 fr, .int .i64 to]])) = (.ret (exV B (.mk k [] 0 l fr to)), σ.set p (pR L (ix L r) (d : Nat))) := by
  rw [← end_e x]; simp [exE, magV]
theorem placesT_le {ts r : List TK} {k : Nat} (h : placesT ts = .ok k r) : k ≤ 1000000 := by
  cases ts with
  | nil => simp [placesT] at h
  | cons t u =>
    simp only [placesT] at h
    split at h
    · split at h
      · rename_i h2; simp only [Rs.ok.injEq] at h; omega
      · simp at h
    · simp [missT] at h
theorem arr_step (hT : E.T = T) (hB : B = 4294967296) {n : Nat} (ih : AllEv E B n) {σ : St} {p : Nat} {L r : List TK} {d fr : Nat} (h : Ps σ p L r d) (hd : d ≤ 60) (hne : arrT 60 L (n + 1) d fr r ≠ .off) : ev E 88 [.ptr p 0 0, .int .i64 fr] σ = Out σ p L d (exV B) (arrT 60 L (n + 1) d fr r) := by
  cases r with
  | nil => exact absurd (by simp [arrT, takeT, missT]) hne
  | cons t r =>
    obtain ⟨s1, hs1⟩ : ∃ s1, s1 = σ.new (.row 7 [z7]) := ⟨_, rfl⟩
    have x1 : XR σ s1 p L (t :: r) d := by rw [hs1]; exact XR.begin h
    have hlt := h.lt
    rw [ev_eq (fd := f88) (by rw [hT]; rfl) (by simp [f88])]
    simp only [headR, f88, cutR]
    refine GG.out ?_ hne
    unfold z7 at hs1
    unfold arrT
    simp only [takeT_eq]
    cases hg : isT [103, 101, 116] (t :: r) with
    | true =>
      have tk := take_yes hT x1.ps hg
      obtain ⟨s2, hs2⟩ : ∃ s2, s2 = s1.set p (pR L (ix L r) (d : Nat)) := ⟨_, rfl⟩
      have x2 : XR σ s2 p L r d := by rw [hs2]; exact x1.put (suf_tail x1.ps.suf)
      rw [← hs2] at tk
      simp only [if_true]
      simp [d88, ← hs1, tk]
      refine GG.call (ih.args (c := some 2) x2.ps hd (by simp)) (fun a b e r' _ => pan_r' x2 (by simp) (by simp) a b e) (fun l r3 hr3 => ?_)
      have h3 := sufT x2.ps.suf ((allSh 60 L n).args _ _ _).wk hr3
      have hr3L : r3.length < L.length := Nat.lt_of_lt_of_le ((allSh 60 L n).args _ _ _ _ _ hr3).2 x2.ps.suf.length_le
      generalize hs3 : s2.set p (pR L (ix L r3) (d : Int)) = s3
      have x3 : XR σ s3 p L r3 d := by rw [← hs3]; exact x2.put h3
      have mk := made_ev hT x3.ps hr3L 24 fr (argV_sls s3 (exsE B l))
      have re3 := x3.re
      unfold z7 at re3
      simp only [Int.cast_ofNat_Int] at mk
      have asc := argV_scal (exsE B l)
      generalize hto : toT L r3 = to at mk ⊢
      simp [mk, asc, re3]
      refine GG.done ?_
      rw [← end_made (B := B) x3]
      rfl
    | false =>
      have tg := take_no hT x1.ps hg
      simp only [Bool.false_eq_true, if_false]
      cases hse : isT [115, 101, 116] (t :: r) with
      | true =>
        have tk := take_yes hT x1.ps hse
        obtain ⟨s2, hs2⟩ : ∃ s2, s2 = s1.set p (pR L (ix L r) (d : Nat)) := ⟨_, rfl⟩
        have x2 : XR σ s2 p L r d := by rw [hs2]; exact x1.put (suf_tail x1.ps.suf)
        rw [← hs2] at tk
        simp only [if_true]
        simp [d88, ← hs1, tg, tk]
        refine GG.call (ih.args (c := some 3) x2.ps hd (by simp)) (fun a b e r' _ => pan_r' x2 (by simp) (by simp) a b e) (fun l r3 hr3 => ?_)
        have h3 := sufT x2.ps.suf ((allSh 60 L n).args _ _ _).wk hr3
        have hr3L : r3.length < L.length := Nat.lt_of_lt_of_le ((allSh 60 L n).args _ _ _ _ _ hr3).2 x2.ps.suf.length_le
        generalize hs3 : s2.set p (pR L (ix L r3) (d : Int)) = s3
        have x3 : XR σ s3 p L r3 d := by rw [← hs3]; exact x2.put h3
        have mk := made_ev hT x3.ps hr3L 25 fr (argV_sls s3 (exsE B l))
        have re3 := x3.re
        unfold z7 at re3
        simp only [Int.cast_ofNat_Int] at mk
        have asc := argV_scal (exsE B l)
        generalize hto : toT L r3 = to at mk ⊢
        simp [mk, asc, re3]
        refine GG.done ?_
        rw [← end_made (B := B) x3]
        rfl
      | false =>
        have tse := take_no hT x1.ps hse
        simp only [Bool.false_eq_true, if_false]
        cases hle : isT [108, 101, 110] (t :: r) with
        | true =>
          have tk := take_yes hT x1.ps hle
          obtain ⟨s2, hs2⟩ : ∃ s2, s2 = s1.set p (pR L (ix L r) (d : Nat)) := ⟨_, rfl⟩
          have x2 : XR σ s2 p L r d := by rw [hs2]; exact x1.put (suf_tail x1.ps.suf)
          rw [← hs2] at tk
          simp only [if_true]
          simp [d88, ← hs1, tg, tse, tk]
          refine GG.call (ih.args (c := some 1) x2.ps hd (by simp)) (fun a b e r' _ => pan_r' x2 (by simp) (by simp) a b e) (fun l r3 hr3 => ?_)
          have h3 := sufT x2.ps.suf ((allSh 60 L n).args _ _ _).wk hr3
          have hr3L : r3.length < L.length := Nat.lt_of_lt_of_le ((allSh 60 L n).args _ _ _ _ _ hr3).2 x2.ps.suf.length_le
          generalize hs3 : s2.set p (pR L (ix L r3) (d : Int)) = s3
          have x3 : XR σ s3 p L r3 d := by rw [← hs3]; exact x2.put h3
          have mk := made_ev hT x3.ps hr3L 26 fr (argV_sls s3 (exsE B l))
          have re3 := x3.re
          unfold z7 at re3
          simp only [Int.cast_ofNat_Int] at mk
          have asc := argV_scal (exsE B l)
          generalize hto : toT L r3 = to at mk ⊢
          simp [mk, asc, re3]
          refine GG.done ?_
          rw [← end_made (B := B) x3]
          rfl
        | false =>
          have tle := take_no hT x1.ps hle
          simp only [Bool.false_eq_true, if_false]
          cases hfi : isT [102, 105, 108, 108] (t :: r) with
          | true =>
            have tk := take_yes hT x1.ps hfi
            obtain ⟨s2, hs2⟩ : ∃ s2, s2 = s1.set p (pR L (ix L r) (d : Nat)) := ⟨_, rfl⟩
            have x2 : XR σ s2 p L r d := by rw [hs2]; exact x1.put (suf_tail x1.ps.suf)
            rw [← hs2] at tk
            simp only [if_true]
            simp [d88, ← hs1, tg, tse, tle, tk]
            refine GG.call (wantR hT x2.ps _) (fun a b e r' _ => pan_r' x2 (by simp) (by simp) a b e) (fun _ r3 hr3 => ?_)
            have h3 := sufT x2.ps.suf (Sh.want _ _).wk hr3
            generalize hs3 : s2.set p (pR L (ix L r3) (d : Int)) = s3
            have x3 : XR σ s3 p L r3 d := by rw [← hs3]; exact x2.put h3
            simp
            refine GG.call (placesR hT hB x3.ps) (fun a b e r' _ => pan_r' x3 (by simp) (by simp) a b e) (fun k r4 hr4 => ?_)
            have h4 := sufT x3.ps.suf (Sh.places _).wk hr4
            have hk : k ≤ 1000000 := placesT_le hr4
            generalize hs4 : s3.set p (pR L (ix L r4) (d : Int)) = s4
            have x4 : XR σ s4 p L r4 d := by rw [← hs4]; exact x3.put h4
            simp
            refine GG.call (wantR hT x4.ps _) (fun a b e r' _ => pan_r' x4 (by simp) (by simp) a b e) (fun _ r5 hr5 => ?_)
            have h5 := sufT x4.ps.suf (Sh.want _ _).wk hr5
            generalize hs5 : s4.set p (pR L (ix L r5) (d : Int)) = s5
            have x5 : XR σ s5 p L r5 d := by rw [← hs5]; exact x4.put h5
            simp
            refine GG.call (ih.expr x5.ps hd) (fun a b e r' _ => pan_r' x5 (by simp) (by simp) a b e) (fun ea r6 hr6 => ?_)
            have h6 := sufT x5.ps.suf ((allSh 60 L n).expr _ _).wk hr6
            generalize hs6 : s5.set p (pR L (ix L r6) (d : Int)) = s6
            have x6 : XR σ s6 p L r6 d := by rw [← hs6]; exact x5.put h6
            have ec := exE_sc B ea
            obtain ⟨q, hq⟩ : ∃ q', q' = s6.n := ⟨_, rfl⟩
            have q3 : σ.n < q := by have := x6.n; omega
            generalize hs7 : s6.new (.row 7 [exE B ea]) = s7
            have x7 : XR σ s7 p L r6 d := by rw [← hs7]; exact x6.new _
            have c7 : s7.H q = some (.row 7 [exE B ea]) := by rw [← hs7, hq]; simp
            have n7 : q < s7.n := by rw [← hs7, hq]; simp
            simp [eq_true ec, hs7]
            simp only [← hq]
            refine GG.call (wantR hT x7.ps _) (fun a b e r' _ => pan_r' x7 (by simp) (by simp) a b e) (fun _ r8 hr8 => ?_)
            have h8 := sufT x7.ps.suf (Sh.want _ _).wk hr8
            have hr8L : r8.length < L.length := Nat.lt_of_lt_of_le ((Sh.want _ _) _ _ hr8).2 x7.ps.suf.length_le
            generalize hs8 : s7.set p (pR L (ix L r8) (d : Int)) = s8
            have x8 : XR σ s8 p L r8 d := by rw [← hs8]; exact x7.put h8
            have c8 : s8.H q = some (.row 7 [exE B ea]) := by rw [← hs8]; simp [show ¬ q = p by omega, c7]
            have n8 : q < s8.n := by rw [← hs8]; simpa using n7
            have mk := made_ev hT ((x8.new (.row 7 [exE B ea])).ps) hr8L 27 fr (v := .slc s8.n 0 1) (.inr (.inr ⟨_, _, _, rfl, by simp⟩))
            simp only [Int.cast_ofNat_Int] at mk
            have hof := fun σ' => bof_ev hT hB (σ := σ') k (by omega)
            have gx := x8.n
            have g1 : ¬ q = s8.n := by omega
            have g2 : ¬ σ.n = s8.n := by omega
            have g3 : ¬ σ.n = s8.n + 1 := by omega
            have re8 := x8.re
            unfold z7 at re8
            have hsc : (magV B (k : Int)).scal = true := magV_scal
            unfold numV at hof
            generalize hto : toT L r8 = to at mk ⊢
            simp [eq_true ec, c8, g1, g2, g3, mk, hof, hsc, re8]
            refine GG.done ?_
            have x9 := ((x8.new (.row 7 [exE B ea])).new (.row 7 [[.int .i64 27, .str [], .bool false, magV B (k : Int), .slc s8.n 0 1, .int .i64 fr, .int .i64 to]]))
            have f9 : FzE (σ.n + 1) σ ((s8.new (.row 7 [exE B ea])).new (.row 7 [[.int .i64 27, .str [], .bool false, magV B (k : Int), .slc s8.n 0 1, .int .i64 fr, .int .i64 to]])) B [.int .i64 27, .str [], .bool false, magV B (k : Int), .slc s8.n 0 1, .int .i64 fr, .int .i64 to] (.mk 27 [] k [ea] fr to) 2 := ⟨rfl, by simp [hsc], fun s2 hs2 m hm => by
              obtain ⟨m, rfl⟩ : ∃ m', m = m' + 1 := ⟨m - 1, by omega⟩
              have a1 := frz_list s2.H (fun l => decide (l < σ.n)) (exE_pure B ea) (m + 1)
              have := frz_parts (B := B) (H := s2.H) (n := fun l => decide (l < σ.n)) (l := s8.n) (len := 1) (m := m + 1) (es := [ea]) (rows := [exE B ea]) (by simp; omega) (by rw [hs2 _ (by omega) (by simp)]; simp) rfl (by simp) (by simp [a1])
              simp [exE, this, magV_frz]⟩
            rw [← end_r x9 f9 (by omega) (by omega)]
            rw [show s8.n + 1 = (s8.new (.row 7 [exE B ea])).n from rfl, new_set]
          | false =>
            have tfi := take_no hT x1.ps hfi
            simp only [Bool.false_eq_true, if_false]
            have hm := miss_ev hT x1.ps
            simp [d88, ← hs1, tg, tse, tle, tfi, hm]
            intro _
            show some (cutR .all σ (.panic (failV t.fr t.to (if t.kind = 0 then 11 else 21)), s1)) = _
            rw [pan_h x1.xt _ _ _ (by split <;> omega)]; rfl
end Go.Proofs.YtmkgmjdbgjiehaaDoor
