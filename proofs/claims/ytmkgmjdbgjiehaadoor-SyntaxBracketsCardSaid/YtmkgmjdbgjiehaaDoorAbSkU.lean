/-
The walk over the program's texts, told with what its values say: a part of it. No further condition.
-/
import Derived.Test.YtmkgmjdbgjiehaaDoorAbSkO
namespace Go.Proofs.YtmkgmjdbgjiehaaDoor
open Go.Proofs.YtmkgmjdbgjiehaaDoor.Ab
set_option linter.unusedVariables false
variable {E : En Tryd.prog} {B : Int}
theorem allEv (hT : E.T = T) (hB : B = 4294967296) : ∀ n, AllEv E B n := by
  intro n
  induction n using Nat.strongRecOn with
  | _ n ih =>
    cases n with
    | zero => exact ⟨fun _ _ h => absurd (by simp [exprT]) h, fun _ _ _ h => absurd (by simp [rowT]) h, fun _ _ h => absurd (by simp [unaryT]) h, fun _ _ h => absurd (by simp [atomT]) h, fun _ _ h => absurd (by simp [arrT]) h, fun _ _ _ h => absurd (by simp [argsT]) h⟩
    | succ n =>
      have i1 := ih n (by omega)
      have i2 : ∀ k, k ≤ n → AllEv E B k := fun k hk => ih k (by omega)
      exact ⟨fun h hd hne => expr_step hT hB i1 h hd hne, fun h hd hlv hne => row_step hT i2 h hd hlv hne, fun h hd hne => unary_step hT i1 h hd hne, fun h hd hne => atom_step hT hB i1 h hd hne, fun h hd hne => arr_step hT hB i1 h hd hne, fun h hd hc hne => args_step hT i2 h hd hc hne⟩
theorem exprR (hT : E.T = T) (hB : B = 4294967296) {n : Nat} {σ : St} {p : Nat} {L r : List TK} {d : Nat} (h : Ps σ p L r d) (hd : d ≤ 60) (hne : exprT 60 L n d r ≠ .off) : ev E 31 [.ptr p 0 0] σ = Out σ p L d (exV B) (exprT 60 L n d r) := (allEv hT hB n).expr h hd hne
end Go.Proofs.YtmkgmjdbgjiehaaDoor
namespace Go.Proofs.YtmkgmjdbgjiehaaDoor
open Go.Proofs.YtmkgmjdbgjiehaaDoor.Ab
set_option linter.unusedVariables false
set_option linter.unusedSimpArgs false
attribute [local simp] Gr.refl Gr.new Gr.set Gr.kill Nat.add_assoc r_ckk chk_x chk_n new_set exV_cells exE_len exE_take
variable {E : En Tryd.prog} {B : Int}
def predV (B : Int) : Option Ex → V
  | none => .nils
  | some e => .islc 7 [exE B e]
def tyE (B : Int) (t : Ty) : List V := [.int .i64 t.base, .int .i64 t.len, predV B t.pred, .int .i64 t.fr, .int .i64 t.to]
def tyV (B : Int) (t : Ty) : V := .agg (tyE B t)
def z5 : List V := [.int .i64 0, .int .i64 0, .nils, .int .i64 0, .int .i64 0]
theorem predV_frz (B : Int) (o : Option Ex) (H : Nat → Option Blk) (n : Nat → Bool) (m : Nat) : frzC H n (m + 1) (predV B o) = predV B o := by cases o <;> rfl
theorem predV_scal (B : Int) (o : Option Ex) : (predV B o).scal = true := by cases o <;> rfl
theorem predV_pure (B : Int) (o : Option Ex) : (predV B o).pure = true := by cases o <;> rfl
theorem typ_tail (hT : E.T = T) (hB : B = 4294967296) {n : Nat} {σ s : St} {p q fr : Nat} {L r : List TK} {b : Nat × Nat} {f : Fr} (x : XT σ s p L r 0) (hr : r.length < L.length) (re : s.H σ.n = some (.row 5 [z5])) (hq : s.H q = some (.row 5 [[.int .i64 b.1, .int .i64 b.2, .nils, .int .i64 0, .int .i64 0]])) (q0 : σ.n < q) (q1 : q < s.n)
    (g0 : f.ds = []) (e0 : f.env 0 = .ptr p 0 0) (e2 : f.env 2 = .ptr σ.n 0 0) (e3 : f.env 3 = .int .i64 fr) (e4 : f.env 4 = .ptr q 0 0) :
    GG id σ p L (0 : Nat) (tyV B) (needT r (match takeT [123] r with
    | some r3 => (exprT 60 L n 0 r3).bind fun e r4 => (wantT [125] r4).bind fun _ r5 => .ok ⟨b.1, b.2, some e, fr, toT L r5⟩ r5
    | none => .ok ⟨b.1, b.2, none, fr, toT L r⟩ r)) (run E false [.cut σ, .c 2 (some 5)] [.d (tlD (tlD (tlD (tlD d52))))] f s) := by
  cases r with
  | nil => exact fun hh => absurd rfl hh
  | cons t r =>
    have hlt := x.lt
    have gdd : f.dd = [] := g0
    simp only [needT, takeT_eq]
    have qp : ¬ q = p := by omega
    have sp : ¬ σ.n = p := by omega
    have qs : ¬ q = σ.n := by omega
    have sq : ¬ σ.n = q := by omega
    unfold z5 at re
    obtain ⟨b1, b2⟩ := b
    simp only at hq ⊢
    -- the end
    have fin : ∀ (s' : St) (r' : List TK) (o : Option Ex) (v : V) (f' : Fr), XT σ s' p L r' 0 → r'.length < L.length → s'.H σ.n = some (.row 5 [z5]) → s'.H q = some (.row 5 [[.int .i64 b1, .int .i64 b2, v, .int .i64 0, .int .i64 0]]) → q < s'.n → v.scal = true → (∀ s2 : St, (∀ l, q < l → l < s'.n → s2.H l = s'.H l) → frzC s2.H (fun l => decide (l < σ.n)) 1099511627776 v = predV B o) →
        f'.ds = [] → f'.env 0 = .ptr p 0 0 → f'.env 2 = .ptr σ.n 0 0 → f'.env 3 = .int .i64 fr → f'.env 4 = .ptr q 0 0 →
        GG id σ p L (0 : Nat) (tyV B) (.ok ⟨b1, b2, o, fr, toT L r'⟩ r') (run E false [.cut σ, .c 2 (some 5)] [.d (tlD (tlD (tlD (tlD (tlD d52)))))] f' s') := by
      intro s' r' o v f' x' hr' re' hq' q1' hsc hfz h0 h1 h2 h3 h4
      have hto := to_ev hT x'.ps hr' fr
      unfold z5 at re'
      generalize toT L r' = to at hto ⊢
      simp [tlD, d52, h0, h1, h2, h3, h4, hto, hq', re', sq, qs, hsc]
      refine GG.done ?_
      have x2 := (x'.set (l := q) (by omega) (.row 5 [[.int .i64 b1, .int .i64 b2, v, .int .i64 fr, .int .i64 to]])).set (l := σ.n) (Nat.le_refl _) (.row 5 [[.int .i64 b1, .int .i64 b2, v, .int .i64 fr, .int .i64 to]])
      rw [cut_ps (L := L) (i := ix L r') (d := ((0 : Nat) : Int)) (o' := .ret (tyV B ⟨b1, b2, o, fr, to⟩)) x.lt x2.ps.H x2.tn]
      · rfl
      rw [frzO_ret, frzV_agg]
      have := hfz ((s'.set q (.row 5 [[.int .i64 b1, .int .i64 b2, v, .int .i64 fr, .int .i64 to]])).set σ.n (.row 5 [[.int .i64 b1, .int .i64 b2, v, .int .i64 fr, .int .i64 to]])) (fun l h1 h2 => by simp [show ¬ l = σ.n by omega, show ¬ l = q by omega])
      simp [this, tyV, tyE]
    obtain ⟨Z, hZ⟩ : ∃ Z, Z = tlD (tlD (tlD (tlD (tlD d52)))) := ⟨_, rfl⟩
    have hX : tlD (tlD (tlD (tlD d52))) = .seq (seqA (tlD (tlD (tlD (tlD d52))))) (.kb [0, 2, 3, 4] Z) := by rw [hZ]; rfl
    rw [← hZ] at fin
    rw [hX]
    cases hb : isT [123] (t :: r) with
    | true =>
      have tk := take_yes hT x.ps hb
      obtain ⟨s2, hs2⟩ : ∃ s2, s2 = s.set p (pR L (ix L r) ((0 : Nat) : Int)) := ⟨_, rfl⟩
      have x2 : XT σ s2 p L r 0 := by rw [hs2]; exact x.put (suf_tail x.ps.suf)
      rw [← hs2] at tk
      have re2 : s2.H σ.n = some (.row 5 [z5]) := by rw [hs2]; simp [sp, re, z5]
      have q2 : s2.H q = some (.row 5 [[.int .i64 b1, .int .i64 b2, .nils, .int .i64 0, .int .i64 0]]) := by rw [hs2]; simp [qp, hq]
      have n2 : s2.n = s.n := by rw [hs2]; rfl
      simp only [if_true]
      simp [seqA, tlD, d52, g0, e0, e2, e3, e4, tk]
      refine GG.call (exprR hT hB x2.ps (by omega)) (fun a b e r' _ => pan_t x2 (by simp [gdd]) (by simp) a b e) (fun ea r4 hr4 => ?_)
      have h4 := sufT x2.ps.suf ((allSh 60 L n).expr _ _).wk hr4
      generalize hs4 : s2.set p (pR L (ix L r4) ((0 : Nat) : Int)) = s4
      have x4 : XT σ s4 p L r4 0 := by rw [← hs4]; exact x2.put h4
      have re4 : s4.H σ.n = some (.row 5 [z5]) := by rw [← hs4]; simp [sp, re2]
      have q4 : s4.H q = some (.row 5 [[.int .i64 b1, .int .i64 b2, .nils, .int .i64 0, .int .i64 0]]) := by rw [← hs4]; simp [qp, q2]
      have n4 : s4.n = s.n := by rw [← hs4]; exact n2
      have ec := exE_sc B ea
      have g1 : ¬ q = s4.n := by omega
      have g2 : ¬ σ.n = s4.n := by omega
      obtain ⟨s5, hs5⟩ : ∃ s5, s5 = (s4.new (.row 7 [exE B ea])).set q (.row 5 [[.int .i64 b1, .int .i64 b2, .slc s4.n 0 1, .int .i64 0, .int .i64 0]]) := ⟨_, rfl⟩
      have x5 : XT σ s5 p L r4 0 := by rw [hs5]; exact (x4.new _).set (by omega) _
      simp [eq_true ec, q4, g1, ← hs5]
      refine GG.call (wantR hT x5.ps _) (fun a b e r' _ => pan_t x5 (by simp [gdd]) (by simp) a b e) (fun _ r6 hr6 => ?_)
      have h6 := sufT x5.ps.suf (Sh.want _ _).wk hr6
      have hr6L : r6.length < L.length := Nat.lt_of_lt_of_le ((Sh.want _ _) _ _ hr6).2 x5.ps.suf.length_le
      simp [g0]
      have lp : ¬ s4.n = p := by omega
      refine fin _ r6 (some ea) (.slc s4.n 0 1) _ (x5.put h6) hr6L (by rw [hs5]; simp [sp, sq, g2, re4]) (by rw [hs5]; simp [qp]) (by rw [hs5]; simp; omega) rfl (fun s2 h2 => ?_) ?_ ?_ ?_ ?_ ?_
      · have hr := h2 s4.n (by omega) (by rw [hs5]; simp)
        have := parts_frz (B := B) (σ := σ) (es := [ea]) (l := s4.n) (n := 1) (s2 := s2) (by simp) (by rw [hr, hs5]; simp [lp, show ¬ s4.n = q by omega]) (by omega) rfl
        simpa [exsE, argV, predV] using this
      all_goals simp
    | false =>
      have tk := take_no hT x.ps hb
      simp only [Bool.false_eq_true, if_false]
      simp [seqA, tlD, d52, g0, e0, e2, e3, e4, tk]
      refine fin s (t :: r) none .nils _ x hr (by rw [re]; rfl) hq q1 rfl (fun _ _ => rfl) ?_ ?_ ?_ ?_ ?_
      all_goals simp
theorem typ_ev (hT : E.T = T) (hB : B = 4294967296) {n : Nat} {σ : St} {p : Nat} {L r : List TK} (h : Ps σ p L r (0 : Nat)) (hne : typT 60 L n r ≠ .off) : ev E 52 [.ptr p 0 0] σ = Out σ p L (0 : Nat) (tyV B) (typT 60 L n r) := by
  cases r with
  | nil => exact absurd (by simp [typT]) hne
  | cons t r =>
    have hlt := h.lt
    obtain ⟨s1, hs1⟩ : ∃ s1, s1 = (σ.new (.row 5 [z5])).new (.row 5 [z5]) := ⟨_, rfl⟩
    have x1 : XT σ s1 p L (t :: r) 0 := by rw [hs1]; exact ((XT.refl h).new _).new _
    have re1 : s1.H σ.n = some (.row 5 [z5]) := by rw [hs1]; simp
    have q1 : s1.H (σ.n + 1) = some (.row 5 [z5]) := by rw [hs1]; simp
    have n1 : s1.n = σ.n + 2 := by rw [hs1]; rfl
    have hnow := now_ev hT (h.gr (show Gr σ (σ.new (.row 5 [z5])) by simp))
    rw [tkE_eq] at hnow
    have sp : ¬ σ.n = p := by omega
    have qp : ¬ σ.n + 1 = p := by omega
    rw [ev_eq (fd := f52) (by rw [hT]; rfl) (by simp [f52])]
    simp only [headR, f52, cutR]
    refine GG.out ?_ hne
    obtain ⟨Z, hZ⟩ : ∃ Z, Z = tlD (tlD (tlD (tlD d52))) := ⟨_, rfl⟩
    have hX : d52 = subD 3 d52 (.seq (seqA (tlD (tlD (tlD d52)))) (.kb [0, 2, 3, 4] Z)) := by rw [hZ]; rfl
    have tail := fun (b : Nat × Nat) r' s' f' a1 a2 a3 a4 a5 a6 a7 a8 a9 a10 a11 => typ_tail (E := E) (n := n) hT hB (σ := σ) (s := s') (p := p) (q := σ.n + 1) (fr := t.fr) (L := L) (r := r') (b := b) (f := f') a1 a2 a3 a4 a5 a6 a7 a8 a9 a10 a11
    rw [← hZ] at tail
    rw [hX]
    unfold z5 at hs1 hnow q1
    unfold typT
    simp only [takeT_eq]
    have hrL : r.length < L.length := Nat.lt_of_lt_of_le (by simp) h.suf.length_le
    obtain ⟨s2, hs2⟩ : ∃ s2, s2 = s1.set p (pR L (ix L r) ((0 : Nat) : Int)) := ⟨_, rfl⟩
    have x2 : XT σ s2 p L r 0 := by rw [hs2]; exact x1.put (suf_tail x1.ps.suf)
    have re2 : s2.H σ.n = some (.row 5 [z5]) := by rw [hs2]; simp [sp, re1]
    have q2 : s2.H (σ.n + 1) = some (.row 5 [[.int .i64 0, .int .i64 0, .nils, .int .i64 0, .int .i64 0]]) := by rw [hs2]; simp [qp, q1]
    have n2 : s2.n = σ.n + 2 := by rw [hs2]; exact n1
    have ne1 : ¬ σ.n = σ.n + 1 := by omega
    cases hi : isT [105, 110, 116] (t :: r) with
    | true =>
      have tk := take_yes hT x1.ps hi
      rw [← hs2] at tk
      simp only [if_true, Rs.bind_ok]
      simp [d52, subD, tlD, seqA, hnow, ← hs1, tk, q2]
      refine tail (1, 0) r _ _ (x2.set (l := σ.n + 1) (by omega) (.row 5 [[.int .i64 1, .int .i64 0, .nils, .int .i64 0, .int .i64 0]])) hrL (by simp [re2]) (by simp) (by omega) (by simp [n2]) ?_ ?_ ?_ ?_ ?_
      all_goals simp
    | false =>
      have tki := take_no hT x1.ps hi
      simp only [Bool.false_eq_true, if_false]
      cases hb : isT [98, 111, 111, 108] (t :: r) with
      | true =>
        have tk := take_yes hT x1.ps hb
        rw [← hs2] at tk
        simp only [if_true, Rs.bind_ok]
        simp [d52, subD, tlD, seqA, hnow, ← hs1, tki, tk, q2]
        refine tail (2, 0) r _ _ (x2.set (l := σ.n + 1) (by omega) (.row 5 [[.int .i64 2, .int .i64 0, .nils, .int .i64 0, .int .i64 0]])) hrL (by simp [re2]) (by simp) (by omega) (by simp [n2]) ?_ ?_ ?_ ?_ ?_
        all_goals simp
      | false =>
        have tkb := take_no hT x1.ps hb
        simp only [Bool.false_eq_true, if_false]
        cases ha : isT [97, 114, 114] (t :: r) with
        | true =>
          have tk := take_yes hT x1.ps ha
          rw [← hs2] at tk
          simp only [if_true]
          rw [bind_assoc]
          have x3 := x2.set (l := σ.n + 1) (by omega) (.row 5 [[.int .i64 3, .int .i64 0, .nils, .int .i64 0, .int .i64 0]])
          simp [d52, subD, tlD, seqA, hnow, ← hs1, tki, tkb, tk, q2]
          refine GG.call (placesR hT hB x3.ps) (fun a b e r' _ => pan_t x3 (by simp) (by simp) a b e) (fun k r4 hr4 => ?_)
          have h4 := sufT x3.ps.suf (Sh.places _).wk hr4
          have hr4L : r4.length < L.length := Nat.lt_of_lt_of_le ((Sh.places _) _ _ hr4).2 x3.ps.suf.length_le
          have x4 := x3.put h4
          simp [qp]
          refine tail (3, k) r4 _ _ (x4.set (l := σ.n + 1) (by omega) (.row 5 [[.int .i64 3, .int .i64 k, .nils, .int .i64 0, .int .i64 0]])) hr4L (by simp [sp, re2]) (by simp) (by omega) (by simp [n2]) ?_ ?_ ?_ ?_ ?_
          all_goals simp
        | false =>
          have tka := take_no hT x1.ps ha
          simp only [Bool.false_eq_true, if_false]
          have hm := miss_ev hT x1.ps
          simp [d52, subD, tlD, seqA, hnow, ← hs1, tki, tkb, tka, hm, missT]
          intro _
          show some (cutR .all σ (.panic (failV t.fr t.to (if t.kind = 0 then 11 else 21)), s1)) = _
          rw [pan_h x1 _ _ _ (by split <;> omega)]; rfl
end Go.Proofs.YtmkgmjdbgjiehaaDoor
namespace Go.Proofs.YtmkgmjdbgjiehaaDoor
open Go.Proofs.YtmkgmjdbgjiehaaDoor.Ab
set_option linter.unusedVariables false
set_option linter.unusedSimpArgs false
attribute [local simp] Gr.refl Gr.new Gr.set Gr.kill Nat.add_assoc r_ckk chk_x chk_n new_set exV_cells exE_len exE_take
variable {E : En Tryd.prog} {B : Int}
structure OG (σ s : St) (z : Nat) (u : V) (es : List (List V)) : Prop where
  sl : Sl s z u es
  lo : ∀ k, u.row = some k → σ.n ≤ k ∧ k < s.n
  nl : es = [] → u = .nils
section
variable {σ s : St} {z : Nat} {u : V} {es : List (List V)}
theorem OG.nils (σ s : St) (z : Nat) : OG σ s z .nils [] := ⟨.inl ⟨rfl, rfl⟩, fun k h => by simp [V.row] at h, fun _ => rfl⟩
theorem OG.keep {s' : St} (h : OG σ s z u es) (hn : s.n ≤ s'.n) (hH : ∀ l, σ.n ≤ l → l < s.n → s'.H l = s.H l) : OG σ s' z u es :=
  ⟨h.sl.mono fun l hl => hH l (h.lo l hl).1 (h.lo l hl).2, fun k hk => ⟨(h.lo k hk).1, Nat.lt_of_lt_of_le (h.lo k hk).2 hn⟩, h.nl⟩
theorem OG.app (h : OG σ s z u es) (e : List V) (bytes : Nat) (hb : bytes ≤ 1000) (hn : σ.n ≤ s.n) (hl : es.length < 1000) : ∃ v s', appV (s.new (.row z [e])) bytes z u (.slc s.n 0 1) = some (v, s') ∧ OG σ s' z v (es ++ [e]) ∧ s' = (grown (s.new (.row z [e])) u).new (.row z (es ++ [e])) := by
  have h' : OG σ (s.new (.row z [e])) z u es := h.keep (by simp) (fun l h1 h2 => by simp [show ¬ l = s.n by omega])
  have hm : (es.length + 1) * bytes ≤ reach := by
    have : (es.length + 1) * bytes ≤ 1000 * 1000 := Nat.mul_le_mul (by omega) hb
    simp [reach]; omega
  have := h'.sl.app (y := .slc s.n 0 1) (ys := [e]) (by simp [srcOf, cont]) (by simp) (bytes := bytes) (by simpa using hm) (by simp [reach]; omega)
  refine ⟨_, _, this, ⟨.inr ⟨(s.new (.row z [e])).n, by simp, by simp⟩, fun k hk => ?_, fun hh => by simp at hh⟩, rfl⟩
  simp [V.row] at hk
  subst hk
  simp; omega
theorem OG.len (h : OG σ s z u es) : lenV u = some (.int .i64 es.length) := h.sl.rd.len
theorem OG.scal (h : OG σ s z u es) : u.scal = true := h.sl.rd.scal
theorem OG.frz (h : OG σ s z u es) (hp : ∀ e ∈ es, ∀ v ∈ e, v.pure = true) {s2 : St} (hH : ∀ l, σ.n ≤ l → l < s.n → s2.H l = s.H l) (m : Nat) : frzC s2.H (fun l => decide (l < σ.n)) (m + 1) u = if es = [] then .nils else .islc z es := by
  rcases h.sl with ⟨rfl, he⟩ | ⟨l, rfl, hl⟩
  · rw [if_pos he]; rfl
  · have h0 := h.lo l rfl
    have hne : es ≠ [] := fun e => by have := h.nl e; simp at this
    rw [if_neg hne, frz_slcP (z := z) (es := es) m (by simp; omega) (by rw [hH l h0.1 h0.2, hl]) (by simp) (fun e he => hp e (List.mem_of_mem_drop (List.mem_of_mem_take he)))]
    rw [List.drop_zero, List.take_of_length_le (Nat.le_refl _)]
end
def pmE (B : Int) (m : Pm) : List V := [.str m.name, .int .i64 m.ty.base, .int .i64 m.ty.len, predV B m.ty.pred, .int .i64 m.ty.fr, .int .i64 m.ty.to, .int .i64 m.fr, .int .i64 m.to]
theorem pmE_pure (B : Int) (l : List Pm) : ∀ e ∈ l.map (pmE B), ∀ v ∈ e, v.pure = true := fun e he v hv => by
  obtain ⟨m, _, rfl⟩ := List.mem_map.1 he
  simp [pmE] at hv
  rcases hv with rfl | rfl | rfl | rfl | rfl | rfl | rfl | rfl <;> first | rfl | exact predV_pure _ _
def itB (kd : Nat) (pb : Bool) (nm : List UInt8) (f t : Nat) (u r0 r1 r2 r3 r4 : V) : Blk :=
  .row 18 [[.int .i64 kd, .bool pb, .str nm, .int .i64 f, .int .i64 t, u, r0, r1, r2, r3, r4, .int .i64 0, .str [], .bool false, .nils, .nils, .int .i64 0, .int .i64 0]]
def i0 : V := .int .i64 0
structure Tw (σ s : St) (p q : Nat) : Prop where
  n : σ.n ≤ s.n
  H : ∀ l, l < σ.n → l ≠ p → l ≠ q → s.H l = σ.H l
  W : s.W = σ.W
section
variable {σ s τ : St} {p q : Nat}
theorem Tw.refl (σ : St) (p q : Nat) : Tw σ σ p q := ⟨Nat.le_refl _, fun _ _ _ _ => rfl, rfl⟩
theorem Tw.new (h : Tw σ s p q) (b : Blk) : Tw σ (s.new b) p q := ⟨by have := h.n; simp; omega, fun l hl h1 h2 => by have := h.n; simp [show l ≠ s.n by omega, h.H l hl h1 h2], h.W⟩
theorem Tw.set (h : Tw σ s p q) {l : Nat} (hl : σ.n ≤ l ∨ l = p ∨ l = q) (b : Blk) : Tw σ (s.set l b) p q := ⟨h.n, fun k hk h1 h2 => by simp [show k ≠ l by omega, h.H k hk h1 h2], h.W⟩
theorem Tw.kill (h : Tw σ s p q) {l : Nat} (hl : σ.n ≤ l) : Tw σ (s.kill l) p q := ⟨h.n, fun k hk h1 h2 => by simp [show k ≠ l by omega, h.H k hk h1 h2], h.W⟩
theorem Tw.grown (h : Tw σ s p q) {u : V} (hu : ∀ k, u.row = some k → σ.n ≤ k) : Tw σ (grown s u) p q := by
  cases u <;> (try exact h)
  exact h.kill (hu _ rfl)
end
structure IQ (σ s : St) (p q : Nat) (L r : List TK) (b : Blk) : Prop where
  ps : Ps s p L r ((0 : Nat) : Int)
  tw : Tw σ s p q
  it : s.H q = some b
  lt : p < σ.n ∧ q < σ.n ∧ p ≠ q
section
variable {σ s : St} {p q : Nat} {L r r' : List TK} {b b' : Blk}
theorem IQ.put (h : IQ σ s p q L r b) (hs : r' <:+ L) : IQ σ (s.set p (pR L (ix L r') ((0 : Nat) : Int))) p q L r' b :=
  ⟨h.ps.put _ hs, h.tw.set (.inr (.inl rfl)) _, by have := h.lt; simp [show ¬ q = p from fun e => this.2.2 e.symm, h.it], h.lt⟩
theorem IQ.new (h : IQ σ s p q L r b) (c : Blk) : IQ σ (s.new c) p q L r b :=
  have h2 := h.lt
  have h3 := h.tw.n
  ⟨h.ps.gr ((Gr.refl _).new _), h.tw.new _, by simp [show ¬ q = s.n by omega, h.it], h.lt⟩
theorem IQ.turn (h : IQ σ s p q L r b) (b' : Blk) : IQ σ (s.set q b') p q L r b' :=
  have h2 := h.lt
  ⟨⟨h.ps.lt, by simp [show ¬ p = q from h2.2.2, h.ps.H], h.ps.suf, h.ps.gd⟩, h.tw.set (.inr (.inr rfl)) _, by simp, h.lt⟩
theorem IQ.kill (h : IQ σ s p q L r b) {l : Nat} (hl : σ.n ≤ l) : IQ σ (s.kill l) p q L r b :=
  have h2 := h.lt
  ⟨⟨h.ps.lt, by simp [show ¬ p = l by omega, h.ps.H], h.ps.suf, h.ps.gd⟩, h.tw.kill hl, by simp [show ¬ q = l by omega, h.it], h.lt⟩
theorem IQ.grown (h : IQ σ s p q L r b) {u : V} (hu : ∀ k, u.row = some k → σ.n ≤ k) : IQ σ (grown s u) p q L r b := by
  cases u <;> (try exact h)
  exact h.kill (hu _ rfl)
end
def HOut (σ : St) (p q : Nat) (L : List TK) (B : Int) (kd : Nat) (pb : Bool) : Rs Hd → Option (CO × St) → Prop
  | .off, _ => True
  | .ok hd r, x => ∃ u s, x = some (.ret (.tup []), s) ∧ IQ σ s p q L r (itB kd pb hd.nm.txt hd.nm.fr hd.nm.to u (.int .i64 hd.result.base) (.int .i64 hd.result.len) (predV B hd.result.pred) (.int .i64 hd.result.fr) (.int .i64 hd.result.to)) ∧ OG σ s 8 u (hd.params.map (pmE B))
  | .bad a b e r, x => ∃ s, x = some (.panic (failV a b e), s) ∧ s.H p = some (pR L (ix L r) (if e = 13 then 1 else 0)) ∧ Tw σ s p q
end Go.Proofs.YtmkgmjdbgjiehaaDoor
namespace Go.Proofs.YtmkgmjdbgjiehaaDoor
open Go.Proofs.YtmkgmjdbgjiehaaDoor.Ab
set_option linter.unusedVariables false
set_option linter.unusedSimpArgs false
attribute [local simp] Gr.refl Gr.new Gr.set Gr.kill Nat.add_assoc r_ckk chk_x chk_n new_set exV_cells exE_len exE_take
variable {E : En Tryd.prog} {B : Int}
def GH (σ : St) (p q : Nat) (L : List TK) (B : Int) (kd : Nat) (pb : Bool) (spec : Rs Hd) (x : Option (CO × St)) : Prop := spec ≠ .off → HOut σ p q L B kd pb spec x
section
variable {β : Type} {σ s : St} {p q : Nat} {L r r' : List TK} {kd : Nat} {pb : Bool} {b : Blk} {dr : Bool} {st : List SE} {f : Fr} {dst : Option Nat} {k : FuncId} {vs : List V} {enc' : β → V}
theorem panH (h : IQ σ s p q L r b) (hf : f.dd = []) (hn : noRnd st = true) (a b' e : Nat) : HOut σ p q L B kd pb (.bad a b' e r') (panF E (run E) false dr [] f (failV a b' e) st (s.set p (pR L (ix L r') (if e = 13 then ((0 : Nat) : Int) + 1 else ((0 : Nat) : Int))))) := by
  rw [pan_nil2 E false _ _ _ _ _ _ hf hn]
  refine ⟨_, rfl, ?_, h.tw.set (.inr (.inl rfl)) _⟩
  by_cases he : e = 13 <;> simp [he]
theorem GH.call {res : Rs β} {g : β → List TK → Rs Hd} (h : IQ σ s p q L r b) (hf : f.dd = []) (hn : noRnd st = true) (he : res ≠ .off → ev E k vs s = Out s p L ((0 : Nat) : Int) enc' res)
    (kk : ∀ a r, res = .ok a r → GH σ p q L B kd pb (g a r) (run E false [] st (f.put dst (enc' a)) (s.set p (pR L (ix L r) ((0 : Nat) : Int))))) :
    GH σ p q L B kd pb (res.bind g) (goC E false [] st f dst dr (ev E k vs s)) := by
  intro hne
  cases hr : res with
  | off => rw [hr] at hne; exact absurd rfl hne
  | bad a b' e r' =>
    rw [he (by rw [hr]; simp), hr]
    exact panH h hf hn a b' e
  | ok a r' =>
    rw [he (by rw [hr]; simp), hr]
    exact kk a r' hr (by rw [hr] at hne; exact hne)
theorem panHere (h : IQ σ s p q L r b) (a b' e : Nat) (he : e ≠ 13) : HOut σ p q L B kd pb (.bad a b' e r) (some (.panic (failV a b' e), s)) :=
  ⟨s, rfl, by rw [if_neg he]; exact h.ps.H, h.tw⟩
end
theorem pm_one (x : TK) : pmE B ⟨x.txt, ⟨1, 0, none, x.fr, x.to⟩, x.fr, x.to⟩ = [.str x.txt, .int .i64 1, .int .i64 0, .nils, .int .i64 x.fr, .int .i64 x.to, .int .i64 x.fr, .int .i64 x.to] := rfl
theorem qual_loop (hT : E.T = T) {σ : St} {p q : Nat} {L : List TK} {kd : Nat} {pb : Bool} {nm : List UInt8} {fr to : Nat} {Bd X : D} (hB : Bd = b28_0) {sp : List Pm → List TK → Rs Hd} :
    ∀ (n : Nat) (acc : List Pm) (r : List TK) (u : V) (f : Fr) (s : St), IQ σ s p q L r (itB kd pb nm fr to u i0 i0 .nils i0 i0) → OG σ s 8 u (acc.map (pmE B)) → acc.length ≤ 12 → f.ds = [] → f.env 0 = .ptr p 0 0 → f.env 1 = .ptr q 0 0 →
      (∀ l r' u' s' f', IQ σ s' p q L r' (itB kd pb nm fr to u' i0 i0 .nils i0 i0) → OG σ s' 8 u' (l.map (pmE B)) → f'.ds = [] → f'.env 0 = .ptr p 0 0 → f'.env 1 = .ptr q 0 0 → qualT n acc r = .ok l r' → GH σ p q L B kd pb (sp l r') (run E false [] [.d X] f' s')) →
      GH σ p q L B kd pb ((qualT n acc r).bind sp) (run E false [] (.d (.loop [0, 1] Bd) :: .blk 0 :: [.d X]) f s)
  | 0, acc, r, u, f, s, x, ho, hal, g0, e0, e1, hX => fun h => absurd (by simp [qualT]) h
  | n + 1, acc, r, u, f, s, x, ho, hal, g0, e0, e1, hX => by
    rw [r_loopU hB]
    unfold qualT at hX ⊢
    rw [bind_assoc]
    have hlt := x.lt
    have gdd : f.dd = [] := g0
    simp [b28_0, g0, e0, e1]
    refine GH.call x (by simp) (by simp) (nameR hT x.ps) (fun t r1 hr1 => ?_)
    have h1 := sufT x.ps.suf (Sh.name _).wk hr1
    have x1 := x.put h1
    generalize hs1 : s.set p (pR L (ix L r1) ((0 : Nat) : Int)) = s1 at x1 ⊢
    have o1 : OG σ s1 8 u (acc.map (pmE B)) := ho.keep (by rw [← hs1]; simp) (fun l h1 h2 => by rw [← hs1]; simp [show ¬ l = p by omega])
    have tke := tkE_eq t
    obtain ⟨w, hw⟩ : ∃ w, w = s1.n := ⟨_, rfl⟩
    have x2 := x1.new (.row 4 [tkE t])
    generalize hs2 : s1.new (.row 4 [tkE t]) = s2 at x2
    have o2 : OG σ s2 8 u (acc.map (pmE B)) := o1.keep (by rw [← hs2]; simp) (fun l h1 h2 => by rw [← hs2]; simp [show ¬ l = s1.n by omega])
    have c2 : s2.H w = some (.row 4 [[.int .i64 t.kind, .str t.txt, .int .i64 t.fr, .int .i64 t.to]]) := by rw [← hs2, hw, tke]; simp
    have it2 := x2.it
    have hn2 := x2.tw.n
    have ql2 : q < s2.n := by omega
    obtain ⟨v, s3, ap, o3, hs3⟩ := o2.app (pmE B ⟨t.txt, ⟨1, 0, none, t.fr, t.to⟩, t.fr, t.to⟩) 88 (by omega) (by omega) (by simp; omega)
    have hmap : acc.map (pmE B) ++ [pmE B ⟨t.txt, ⟨1, 0, none, t.fr, t.to⟩, t.fr, t.to⟩] = (acc ++ [(⟨t.txt, ⟨1, 0, none, t.fr, t.to⟩, t.fr, t.to⟩ : Pm)]).map (pmE B) := by simp
    rw [hmap] at o3
    rw [pm_one] at ap hs3
    have x3 := ((x2.new (.row 8 [[.str t.txt, .int .i64 1, .int .i64 0, .nils, .int .i64 t.fr, .int .i64 t.to, .int .i64 t.fr, .int .i64 t.to]])).grown fun k hk => (o2.lo k hk).1).new (.row 8 (acc.map (pmE B) ++ [[.str t.txt, .int .i64 1, .int .i64 0, .nils, .int .i64 t.fr, .int .i64 t.to, .int .i64 t.fr, .int .i64 t.to]]))
    rw [← hs3] at x3
    have it3 := x3.it
    have hln := o3.len
    rw [List.length_map] at hln
    have hsc := o3.scal
    have hw3 : s3.H w = some (.row 4 [[.int .i64 t.kind, .str t.txt, .int .i64 t.fr, .int .i64 t.to]]) := by
      have h1 : w < s2.n := by rw [← hs2, hw]; simp
      have h2 : u.row ≠ some w := fun h => by have := (o1.lo w h).2; omega
      rw [hs3]; simp [grown_H, h2, show ¬ w = s2.n by omega, show ¬ w = s2.n + 1 by omega, c2]
    have wq : ¬ w = q := by have := x1.tw.n; omega
    have qs2 : ¬ q = s2.n := by omega
    have ws2 : ¬ w = s2.n := by rw [← hs2, hw]; simp
    obtain ⟨s4, hs4⟩ : ∃ s4, s4 = s3.set q (itB kd pb nm fr to v i0 i0 .nils i0 i0) := ⟨_, rfl⟩
    have x4 := x3.turn (itB kd pb nm fr to v i0 i0 .nils i0 i0)
    rw [← hs4] at x4
    have o4 : OG σ s4 8 v ((acc ++ [(⟨t.txt, ⟨1, 0, none, t.fr, t.to⟩, t.fr, t.to⟩ : Pm)]).map (pmE B)) := o3.keep (by rw [hs4]; simp) (fun l h1 h2 => by rw [hs4]; simp [show ¬ l = q by omega])
    have it4 := x4.it
    have hw4 : s4.H w = some (.row 4 [[.int .i64 t.kind, .str t.txt, .int .i64 t.fr, .int .i64 t.to]]) := by rw [hs4]; simp [wq, hw3]
    simp only [itB, i0] at it2 it3 it4 hs4
    obtain ⟨N, hN⟩ : ∃ N, N = (acc ++ [(⟨t.txt, ⟨1, 0, none, t.fr, t.to⟩, t.fr, t.to⟩ : Pm)]).length := ⟨_, rfl⟩
    rw [← hN] at hln
    have hNa : N = acc.length + 1 := by rw [hN]; simp
    rw [tke] at hs2
    simp [tke, hs2]
    simp only [← hw]
    by_cases hbig : 12 < acc.length + 1
    · rw [if_pos hbig]
      have hbig' : (12 : Int) < N := by omega
      simp [it2, c2, ap, it3, qs2, ws2, hsc, cells_scal hsc, ← hs4, it4, hln, hbig', hw4]
      intro _
      exact panHere x4 t.fr t.to 3 (by omega)
    · rw [if_neg hbig]
      have hbig' : ¬ (12 : Int) < N := by omega
      simp [it2, c2, ap, it3, qs2, ws2, hsc, cells_scal hsc, ← hs4, it4, hln, hbig', hw4]
      cases r1 with
      | nil => exact fun hh => absurd rfl hh
      | cons t' r1 =>
        simp only [needT, takeT_eq]
        cases hb : isT [44] (t' :: r1) with
        | true =>
          have tk := take_yes hT x4.ps hb
          have x5 := x4.put (suf_tail x4.ps.suf)
          have o5 : OG σ (s4.set p (pR L (ix L r1) ((0 : Nat) : Int))) 8 v ((acc ++ [(⟨t.txt, ⟨1, 0, none, t.fr, t.to⟩, t.fr, t.to⟩ : Pm)]).map (pmE B)) := o4.keep (by simp) (fun l h1 h2 => by simp [show ¬ l = p by omega])
          simp only [if_true]
          simp [tk]
          refine qual_loop hT hB n _ r1 v _ _ x5 o5 (by simp; omega) ?_ ?_ ?_ (fun l r' u' s' f' a b c' d' e' hh => hX l r' u' s' f' a b c' d' e' ?_)
          · simp
          · simp
          · simp
          · rw [hr1, Rs.bind_ok, if_neg hbig]
            simp only [needT, takeT_eq, hb, if_true]
            exact hh
        | false =>
          have tk := take_no hT x4.ps hb
          simp only [Bool.false_eq_true, if_false, Rs.bind_ok]
          simp [tk]
          refine hX _ (t' :: r1) v s4 _ x4 o4 ?_ ?_ ?_ ?_
          · simp
          · simp
          · simp
          · rw [hr1, Rs.bind_ok, if_neg hbig]
            simp only [needT, takeT_eq, hb, Bool.false_eq_true, if_false]
end Go.Proofs.YtmkgmjdbgjiehaaDoor
namespace Go.Proofs.YtmkgmjdbgjiehaaDoor
open Go.Proofs.YtmkgmjdbgjiehaaDoor.Ab
set_option linter.unusedVariables false
set_option linter.unusedSimpArgs false
attribute [local simp] Gr.refl Gr.new Gr.set Gr.kill Nat.add_assoc r_ckk chk_x chk_n new_set exV_cells exE_len exE_take
variable {E : En Tryd.prog} {B : Int}
def qualHd (n : Nat) (r1 : List TK) : Rs Hd := (nameT r1).bind fun t r2 => (wantT [40] r2).bind fun _ r3 => (qualT n [] r3).bind fun l r4 => (wantT [41] r4).bind fun _ r5 => .ok ⟨2, false, t, l, ⟨2, 0, none, 0, 0⟩⟩ r5
def funHd (L : List TK) (n : Nat) (p : Bool) (r1 : List TK) : Rs Hd := (nameT r1).bind fun t r2 => (wantT [40] r2).bind fun _ r3 => (parsT 60 L n n [] r3).bind fun l r4 => (wantT [41] r4).bind fun _ r5 => (wantT [45, 62] r5).bind fun _ r6 => (typT 60 L n r6).bind fun y r7 => .ok ⟨1, p, t, l, y⟩ r7
theorem headT_eq (L : List TK) (n : Nat) (t : TK) (r : List TK) : headT 60 L n (t :: r) = if isT [113, 117, 97, 108] (t :: r) = true then qualHd n r else
    ((if isT [112, 117, 98] (t :: r) = true then Rs.ok true r else .ok false (t :: r)).bind fun p r0 => (wantT [102, 110] r0).bind fun _ r1 => funHd L n p r1) := by
  unfold headT
  simp only [takeT_eq]
  cases h1 : isT [113, 117, 97, 108] (t :: r) <;> simp only [Bool.false_eq_true, if_false, if_true]
  · cases h2 : isT [112, 117, 98] (t :: r) <;> simp only [Bool.false_eq_true, if_false, if_true] <;> rfl
  · rfl
theorem qual_ev (hT : E.T = T) {σ : St} {p q : Nat} {L r : List TK} {n kd : Nat} (h : Ps σ p L r ((0 : Nat) : Int)) (hq : σ.H q = some (itB kd false [] 0 0 .nils i0 i0 .nils i0 i0)) (hlt : p < σ.n ∧ q < σ.n ∧ p ≠ q) (hne : qualHd n r ≠ .off) :
    HOut σ p q L B kd false (qualHd n r) (ev E 28 [.ptr p 0 0, .ptr q 0 0] σ) := by
  have x0 : IQ σ σ p q L r _ := ⟨h, Tw.refl _ _ _, hq, hlt⟩
  have hev : ev E 28 [.ptr p 0 0, .ptr q 0 0] σ = run E false f28.res [.d f28.body] ⟨envOf [.ptr p 0 0, .ptr q 0 0], []⟩ σ := by
    rw [ev_eq (fd := f28) (by rw [hT]; rfl) (by simp [f28])]
    simp only [headR, f28, cutR]
    exact map_id' _
  rw [hev]
  suffices hs : GH σ p q L B kd false (qualHd n r) (run E false f28.res [.d f28.body] ⟨envOf [.ptr p 0 0, .ptr q 0 0], []⟩ σ) from hs hne
  unfold qualHd
  obtain ⟨Z, hZ⟩ : ∃ Z, Z = tlD (tlD (tlD (tlD d28))) := ⟨_, rfl⟩
  have hX : f28.body = subD 3 d28 (.seq (.block 0 (.loop [0, 1] b28_0)) (.kb [0, 1] Z)) := by rw [hZ]; rfl
  rw [hX]
  simp [d28, subD, f28]
  refine GH.call x0 (by simp) (by simp) (nameR hT x0.ps) (fun t r1 hr1 => ?_)
  have h1 := sufT x0.ps.suf (Sh.name _).wk hr1
  have x1 := x0.put h1
  generalize hs1 : σ.set p (pR L (ix L r1) ((0 : Nat) : Int)) = s1 at x1 ⊢
  have tke := tkE_eq t
  obtain ⟨w, hw⟩ : ∃ w, w = s1.n := ⟨_, rfl⟩
  have x2 := x1.new (.row 4 [tkE t])
  generalize hs2 : s1.new (.row 4 [tkE t]) = s2 at x2
  rw [tke] at hs2
  have c2 : s2.H w = some (.row 4 [[.int .i64 t.kind, .str t.txt, .int .i64 t.fr, .int .i64 t.to]]) := by rw [← hs2, hw]; simp
  have it2 := x2.it
  have wq : ¬ w = q := by have := x1.tw.n; omega
  obtain ⟨s3, hs3⟩ : ∃ s3, s3 = s2.set q (itB kd false t.txt t.fr t.to .nils i0 i0 .nils i0 i0) := ⟨_, rfl⟩
  have x3 := x2.turn (itB kd false t.txt t.fr t.to .nils i0 i0 .nils i0 i0)
  rw [← hs3] at x3
  simp only [itB, i0] at it2 hs3
  simp [tke, hs2]
  simp only [← hw]
  simp [it2, c2, wq, ← hs3]
  refine GH.call x3 (by simp) (by simp) (wantR hT x3.ps _) (fun _ r4 hr4 => ?_)
  have h4 := sufT x3.ps.suf (Sh.want _ _).wk hr4
  have x4 := x3.put h4
  simp
  refine qual_loop hT rfl n [] r4 .nils _ _ x4 (OG.nils _ _ _) (by simp) ?_ ?_ ?_ (fun l r' u' s' f' a b c' d' e' hh => ?_)
  · simp
  · simp
  · simp
  have cdd : f'.dd = [] := c'
  rw [hZ]
  simp [tlD, d28, c', d', e']
  refine GH.call a (by simp [cdd]) (by simp) (wantR hT a.ps _) (fun _ r5 hr5 => ?_)
  have h5 := sufT a.ps.suf (Sh.want _ _).wk hr5
  have x5 := a.put h5
  have it5 := x5.it
  have o5 : OG σ (s'.set p (pR L (ix L r5) ((0 : Nat) : Int))) 8 u' (l.map (pmE B)) := b.keep (by simp) (fun l h1 h2 => by simp [show ¬ l = p by omega])
  generalize hs5 : s'.set p (pR L (ix L r5) ((0 : Nat) : Int)) = s5 at x5 it5 o5 ⊢
  simp only [itB, i0] at it5
  simp [it5]
  intro _
  exact ⟨u', _, rfl, x5.turn _, o5.keep (by simp) (fun l h1 h2 => by simp [show ¬ l = q by omega])⟩
end Go.Proofs.YtmkgmjdbgjiehaaDoor
namespace Go.Proofs.YtmkgmjdbgjiehaaDoor
open Go.Proofs.YtmkgmjdbgjiehaaDoor.Ab
set_option linter.unusedVariables false
set_option linter.unusedSimpArgs false
attribute [local simp] Gr.refl Gr.new Gr.set Gr.kill Nat.add_assoc r_ckk chk_x chk_n new_set exV_cells exE_len exE_take
variable {E : En Tryd.prog} {B : Int}
theorem typR (hT : E.T = T) (hB : B = 4294967296) {n : Nat} {σ : St} {p : Nat} {L r : List TK} (h : Ps σ p L r ((0 : Nat) : Int)) (hne : typT 60 L n r ≠ .off) : ev E 52 [.ptr p 0 0] σ = Out σ p L ((0 : Nat) : Int) (tyV B) (typT 60 L n r) := typ_ev hT hB h hne
theorem Wk.typ (n : Nat) (L ts : List TK) : Wk ts (typT 60 L n ts) := by
  cases ts with
  | nil => exact Wk.off
  | cons t r =>
    unfold typT
    refine Wk.bind ?_ fun b r2 _ => Wk.need ?_
    · split
      · rename_i h; exact (Sh.take h (Wk.ok _ _)).wk
      · split
        · rename_i h; exact (Sh.take h (Wk.ok _ _)).wk
        · split
          · rename_i h; exact (Sh.take h ((Sh.places _).wk.bind fun _ _ _ => Wk.ok _ _)).wk
          · exact (Sh.miss _).wk
    · split
      · rename_i h; exact (Sh.take h (((allSh 60 L n).expr _ _).wk.bind fun _ _ _ => (Sh.want _ _).wk.bind fun _ _ _ => Wk.ok _ _)).wk
      · exact Wk.ok _ _
theorem pars_loop (hT : E.T = T) (hB0 : B = 4294967296) {σ : St} {p q : Nat} {L : List TK} {kd : Nat} {pb : Bool} {nm : List UInt8} {fr to m : Nat} {Bd X : D} (hB : Bd = b30_0) {sp : List Pm → List TK → Rs Hd} :
    ∀ (n : Nat) (acc : List Pm) (r : List TK) (u : V) (f : Fr) (s : St), IQ σ s p q L r (itB kd pb nm fr to u i0 i0 .nils i0 i0) → OG σ s 8 u (acc.map (pmE B)) → acc.length ≤ 6 → f.ds = [] → f.env 0 = .ptr p 0 0 → f.env 1 = .ptr q 0 0 →
      (∀ l r' u' s' f', IQ σ s' p q L r' (itB kd pb nm fr to u' i0 i0 .nils i0 i0) → OG σ s' 8 u' (l.map (pmE B)) → f'.ds = [] → f'.env 0 = .ptr p 0 0 → f'.env 1 = .ptr q 0 0 → parsT 60 L m n acc r = .ok l r' → GH σ p q L B kd pb (sp l r') (run E false [] [.d X] f' s')) →
      GH σ p q L B kd pb ((parsT 60 L m n acc r).bind sp) (run E false [] (.d (.loop [0, 1] Bd) :: .blk 0 :: [.d X]) f s)
  | 0, acc, r, u, f, s, x, ho, hal, g0, e0, e1, hX => fun h => absurd (by simp [parsT]) h
  | n + 1, acc, r, u, f, s, x, ho, hal, g0, e0, e1, hX => by
    cases r with
    | nil =>
      refine fun hh => absurd ?_ hh
      unfold parsT
      rw [if_neg (by simp [isT])]
      by_cases h0 : acc = []
      · rw [if_pos h0]; simp [nameT]
      · rw [if_neg h0]; simp [wantT, takeT, missT]
    | cons t r =>
      have hi := is_ev hT x.ps [41]
      have hln := ho.len
      rw [List.length_map] at hln
      have hlt := x.lt
      have it0 := x.it
      simp only [itB, i0] at it0
      rw [r_loopU hB]
      cases hb : isT [41] (t :: r) with
      | true =>
        rw [hb] at hi
        have hsp : parsT 60 L m (n + 1) acc (t :: r) = .ok acc (t :: r) := by unfold parsT; rw [if_pos hb]
        rw [hsp, Rs.bind_ok]
        simp [b30_0, g0, e0, e1, hi]
        refine hX acc (t :: r) u s _ x ho ?_ ?_ ?_ hsp
        all_goals simp
      | false =>
        rw [hb] at hi
        have hsp : parsT 60 L m (n + 1) acc (t :: r) = (if acc = [] then .ok () (t :: r) else wantT [44] (t :: r)).bind fun _ r1 => (nameT r1).bind fun x r2 => (wantT [58] r2).bind fun _ r3 => (typT 60 L m r3).bind fun y r4 =>
            if 6 < acc.length + 1 then .bad x.fr x.to 3 r4 else parsT 60 L m n (acc ++ [⟨x.txt, y, x.fr, x.to⟩]) r4 := by rw [parsT, if_neg (by rw [hb]; simp)]
        rw [hsp] at hX ⊢
        have key : ∀ (r1 : List TK) (s1 : St) (f1 : Fr), IQ σ s1 p q L r1 (itB kd pb nm fr to u i0 i0 .nils i0 i0) → OG σ s1 8 u (acc.map (pmE B)) → f1.ds = [] → f1.env 0 = .ptr p 0 0 → f1.env 1 = .ptr q 0 0 → ((if acc = [] then .ok () (t :: r) else wantT [44] (t :: r)) = .ok () r1) →
            GH σ p q L B kd pb (((nameT r1).bind fun x r2 => (wantT [58] r2).bind fun _ r3 => (typT 60 L m r3).bind fun y r4 => if 6 < acc.length + 1 then .bad x.fr x.to 3 r4 else parsT 60 L m n (acc ++ [⟨x.txt, y, x.fr, x.to⟩]) r4).bind sp) (run E false [] (.d (tlD (blkB (tlD b30_0))) :: .blk 1 :: .lp [0, 1] Bd :: .blk 0 :: [.d X]) f1 s1) := by
          intro r1 s1 f1 x1 o1 h0 h1 h2 hok
          have hdd : f1.dd = [] := h0
          rw [bind_assoc]
          simp [b30_0, tlD, blkB, h0, h1, h2]
          refine GH.call x1 (by simp [h0, hdd]) (by simp) (nameR hT x1.ps) (fun y r2 hr2 => ?_)
          have k2 := sufT x1.ps.suf (Sh.name _).wk hr2
          have x2 := x1.put k2
          have o2 : OG σ (s1.set p (pR L (ix L r2) ((0 : Nat) : Int))) 8 u (acc.map (pmE B)) := o1.keep (by simp) (fun l h1 h2 => by simp [show ¬ l = p by omega])
          generalize hs2 : s1.set p (pR L (ix L r2) ((0 : Nat) : Int)) = s2 at x2 o2 ⊢
          have tke := tkE_eq y
          obtain ⟨w, hw⟩ : ∃ w, w = s2.n := ⟨_, rfl⟩
          have x3 := x2.new (.row 4 [tkE y])
          generalize hs3 : s2.new (.row 4 [tkE y]) = s3 at x3
          rw [tke] at hs3
          have o3 : OG σ s3 8 u (acc.map (pmE B)) := o2.keep (by rw [← hs3]; simp) (fun l h1 h2 => by rw [← hs3]; simp [show ¬ l = s2.n by omega])
          have c3 : s3.H w = some (.row 4 [[.int .i64 y.kind, .str y.txt, .int .i64 y.fr, .int .i64 y.to]]) := by rw [← hs3, hw]; simp
          have wq : ¬ w = q := by have := x2.tw.n; omega
          have wp : ¬ w = p := by have := x2.tw.n; omega
          have w0 : σ.n ≤ w := by have := x2.tw.n; omega
          have w3 : w < s3.n := by rw [← hs3, hw]; simp
          simp [tke, hs3, h0, h1, h2]
          simp only [← hw]
          rw [bind_assoc]
          refine GH.call x3 (by simp [h0, hdd]) (by simp) (wantR hT x3.ps _) (fun _ r4 hr4 => ?_)
          have k4 := sufT x3.ps.suf (Sh.want _ _).wk hr4
          have x4 := x3.put k4
          have o4 : OG σ (s3.set p (pR L (ix L r4) ((0 : Nat) : Int))) 8 u (acc.map (pmE B)) := o3.keep (by simp) (fun l h1 h2 => by simp [show ¬ l = p by omega])
          have c4 : (s3.set p (pR L (ix L r4) ((0 : Nat) : Int))).H w = some (.row 4 [[.int .i64 y.kind, .str y.txt, .int .i64 y.fr, .int .i64 y.to]]) := by simp [wp, c3]
          generalize hs4 : s3.set p (pR L (ix L r4) ((0 : Nat) : Int)) = s4 at x4 o4 c4 ⊢
          have n4 : s4.n = s3.n := by rw [← hs4]; rfl
          have it4 := x4.it
          simp only [itB, i0] at it4
          rw [bind_assoc]
          simp [it4, c4, h0]
          refine GH.call x4 (by simp) (by simp) (typR hT hB0 x4.ps) (fun ty r5 hr5 => ?_)
          have k5 := sufT x4.ps.suf (Wk.typ _ _ _) hr5
          have x5 := x4.put k5
          have o5 : OG σ (s4.set p (pR L (ix L r5) ((0 : Nat) : Int))) 8 u (acc.map (pmE B)) := o4.keep (by simp) (fun l h1 h2 => by simp [show ¬ l = p by omega])
          have c5 : (s4.set p (pR L (ix L r5) ((0 : Nat) : Int))).H w = some (.row 4 [[.int .i64 y.kind, .str y.txt, .int .i64 y.fr, .int .i64 y.to]]) := by simp [wp, c4]
          generalize hs5 : s4.set p (pR L (ix L r5) ((0 : Nat) : Int)) = s5 at x5 o5 c5 ⊢
          have n5 : s5.n = s3.n := by rw [← hs5]; exact n4
          have it5 := x5.it
          simp only [itB, i0] at it5
          have hty : tyV B ty = .agg [.int .i64 ty.base, .int .i64 ty.len, predV B ty.pred, .int .i64 ty.fr, .int .i64 ty.to] := rfl
          have psc := predV_scal B ty.pred
          have hn5 := x5.tw.n
          obtain ⟨v, s6, ap, o6, hs6⟩ := o5.app (pmE B ⟨y.txt, ty, y.fr, y.to⟩) 88 (by omega) (by omega) (by simp; omega)
          have hmap : acc.map (pmE B) ++ [pmE B ⟨y.txt, ty, y.fr, y.to⟩] = (acc ++ [(⟨y.txt, ty, y.fr, y.to⟩ : Pm)]).map (pmE B) := by simp
          rw [hmap] at o6
          have x6 := ((x5.new (.row 8 [pmE B ⟨y.txt, ty, y.fr, y.to⟩])).grown fun k hk => (o5.lo k hk).1).new (.row 8 (acc.map (pmE B) ++ [pmE B ⟨y.txt, ty, y.fr, y.to⟩]))
          rw [← hs6] at x6
          simp only [pmE] at ap
          have it6 := x6.it
          simp only [itB, i0] at it6
          have hln6 := o6.len
          rw [List.length_map] at hln6
          have hsc := o6.scal
          have h2w : u.row ≠ some w := fun h => by have := (o2.lo w h).2; omega
          have c6 : s6.H w = some (.row 4 [[.int .i64 y.kind, .str y.txt, .int .i64 y.fr, .int .i64 y.to]]) := by
            rw [hs6]; simp [grown_H, h2w, show ¬ w = s5.n by omega, show ¬ w = s5.n + 1 by omega, c5]
          have qs5 : ¬ q = s5.n := by omega
          have ws5 : ¬ w = s5.n := by omega
          obtain ⟨s7, hs7⟩ : ∃ s7, s7 = s6.set q (itB kd pb nm fr to v i0 i0 .nils i0 i0) := ⟨_, rfl⟩
          have x7 := x6.turn (itB kd pb nm fr to v i0 i0 .nils i0 i0)
          rw [← hs7] at x7
          have o7 : OG σ s7 8 v ((acc ++ [(⟨y.txt, ty, y.fr, y.to⟩ : Pm)]).map (pmE B)) := o6.keep (by rw [hs7]; simp) (fun l h1 h2 => by rw [hs7]; simp [show ¬ l = q by omega])
          have it7 := x7.it
          have c7 : s7.H w = some (.row 4 [[.int .i64 y.kind, .str y.txt, .int .i64 y.fr, .int .i64 y.to]]) := by rw [hs7]; simp [wq, c6]
          simp only [itB, i0] at it7 hs7
          obtain ⟨N, hN⟩ : ∃ N, N = (acc ++ [(⟨y.txt, ty, y.fr, y.to⟩ : Pm)]).length := ⟨_, rfl⟩
          rw [← hN] at hln6
          have hNa : N = acc.length + 1 := by rw [hN]; simp
          by_cases hbig : 6 < acc.length + 1
          · rw [if_pos hbig]
            have hbig' : (6 : Int) < N := by omega
            simp [hty, it5, c5, psc, ap, qs5, ws5, it6, hsc, cells_scal hsc, ← hs7, it7, hln6, hbig', c7]
            intro _
            exact panHere x7 y.fr y.to 3 (by omega)
          · rw [if_neg hbig]
            have hbig' : ¬ (6 : Int) < N := by omega
            simp [hty, it5, c5, psc, ap, qs5, ws5, it6, hsc, cells_scal hsc, ← hs7, it7, hln6, hbig', c7]
            refine pars_loop hT hB0 hB n _ r5 v _ _ x7 o7 (by simp; omega) ?_ ?_ ?_ (fun l r' u' s' f' a b c' d' e' hh => hX l r' u' s' f' a b c' d' e' ?_)
            · simp
            · simp
            · simp
            · rw [hok, Rs.bind_ok, hr2, Rs.bind_ok, hr4, Rs.bind_ok, hr5, Rs.bind_ok, if_neg hbig, hh]
        obtain ⟨Z, hZ⟩ : ∃ Z, Z = tlD (blkB (tlD b30_0)) := ⟨_, rfl⟩
        have hYY : b30_0 = .seq (seqA b30_0) (.kb [0, 1] (.block 1 (.seq (seqA (blkB (tlD b30_0))) (.kb [0, 1] Z)))) := by rw [hZ]; rfl
        rw [← hZ] at key
        rw [hYY]
        by_cases h0 : acc = []
        · rw [if_pos h0] at *
          have hl0 : lenV u = some (.int .i64 0) := by rw [hln, h0]; rfl
          simp only [Rs.bind_ok]
          simp [seqA, blkB, tlD, b30_0, g0, e0, e1, hi, it0, hl0]
          refine key (t :: r) s _ x ho ?_ ?_ ?_ rfl
          all_goals simp
        · rw [if_neg h0] at *
          rw [bind_assoc]
          have hpos : 0 < acc.length := List.length_pos_iff.2 h0
          obtain ⟨N, hN⟩ : ∃ N, N = acc.length := ⟨_, rfl⟩
          rw [← hN] at hln hpos
          have hpos' : (0 : Int) < N := by omega
          simp [seqA, blkB, tlD, b30_0, g0, e0, e1, hi, it0, hln, hpos]
          refine GH.call x (by simp) (by simp) (wantR hT x.ps _) (fun _ r1 hr1 => ?_)
          have k1 := sufT x.ps.suf (Sh.want _ _).wk hr1
          simp
          refine key r1 _ _ (x.put k1) (ho.keep (by simp) (fun l h1 h2 => by simp [show ¬ l = p by omega])) ?_ ?_ ?_ hr1
          all_goals simp
end Go.Proofs.YtmkgmjdbgjiehaaDoor
