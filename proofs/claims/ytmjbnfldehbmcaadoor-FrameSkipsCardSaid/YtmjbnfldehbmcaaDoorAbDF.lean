/-
The walk over the program's texts, told with what its values say: a part of it. No further condition.
-/
import Derived.Test.YtmjbnfldehbmcaaDoorAbDE
namespace Go.Proofs.YtmjbnfldehbmcaaDoor
open Go.Proofs.YtmjbnfldehbmcaaDoor.Ab
set_option linter.unusedVariables false
def r0 : R := ⟨0, [], 0, -1, 0, []⟩
theorem good0 : Good r0 := ⟨by simp [r0], by simp [r0], by simp [r0], by simp [r0], by simp [r0], by simp [r0], by simp [r0], by simp [r0]⟩
theorem new_c (σ : St) : CCalls Tryd.prog 10 [] σ (fun o σ' => o = .ret (.ptr σ.n 0 0) ∧ Own σ' σ.n r0 [] .nils .nils .nils [] ∧ σ'.n = σ.n + 1 ∧ ∀ l, l ≠ σ.n → σ'.H l = σ.H l) := by
  refine w_fn ok10 (by simp [c10]) fun Q hn hr hpq => ?_
  simp only [c10] at *
  have hq : ∀ f' σ', f'.ds = [] → f'.env 0 = .ptr σ.n 0 0 → σ' = σ.new (.row 7 [cel r0 .nils .nils .nils]) → Q .ret f' σ' := fun f σ' h1 h2 h3 => hr f _ ⟨h1, _, by simp [retV, resL, resV, one, h2], rfl, by
    subst h3
    refine ⟨⟨by simp, .inl ⟨rfl, rfl⟩, .inl ⟨rfl, rfl⟩, .inl ⟨rfl, rfl⟩, trivial, fun _ => rfl, fun _ => rfl, by simp [names, rowL, V.row], by simp [names, rowL, V.row]⟩, rfl, fun l hl => by simp [hl]⟩⟩
  clear hn hr hpq
  refine w_seq ?_
  refine w_regk [] fun K KP hk hkp => ?_
  simp
  apply hk; clear hk hkp K KP
  refine w_seq ?_
  refine w_regk [0] fun K KP hk hkp => ?_
  simp
  exact hk _ _ _ (w_ret (hq _ _ rfl (by simp) rfl))
theorem over_c {σ : St} {p : Nat} {b c d e f g : V} {st : Int} (hp : σ.H p = some (.row 7 [[.int .i64 st, b, c, d, e, f, g]])) : CCalls Tryd.prog 12 [.ptr p 0 0] σ (fun o σ' => o = .ret (.bool (decide (st = 3))) ∧ σ' = σ) := by
  refine w_fn ok12 (by simp [c12]) fun Q hn hr hpq => ?_
  simp only [c12] at *
  have hq : ∀ f', f'.ds = [] → f'.env 2 = .bool (decide (st = 3)) → Q .ret f' σ := fun f h1 h2 => hr f _ ⟨h1, by simp [retV, resL, resV, one, h2]⟩
  clear hn hr hpq
  refine w_seq ?_
  refine w_regk [0] fun K KP hk hkp => ?_
  simp
  apply hk; clear hk hkp K KP
  refine w_seq ?_
  refine w_regk [2] fun K KP hk hkp => ?_
  simp [hp]
  exact hk _ _ _ (w_ret (hq _ rfl (by simp)))
theorem Msgs.get {σ : St} : ∀ {es : List (List V)} {ms : List Msg}, Msgs σ es ms → ∀ {i : Nat} {k : Int} {s : List UInt8}, ms[i]? = some (k, s) → ∃ b, es[i]? = some [.int .i64 k, b] ∧ Sl σ 1 b (s.map byteE)
  | [], [], _, i, k, s, h => by simp at h
  | e :: es, m :: ms, h, i, k, s, hi => by
    unfold Msgs at h
    split at h
    · simp at *
    · rename_i h1 h2
      obtain ⟨rfl, rfl⟩ := List.cons.inj h1
      obtain ⟨rfl, rfl⟩ := List.cons.inj h2
      cases i with
      | zero => simp at hi; obtain ⟨rfl, rfl⟩ := hi; obtain ⟨rfl, hb, _⟩ := h; exact ⟨_, rfl, hb⟩
      | succ i => simpa using Msgs.get h.2.2 (by simpa using hi)
    · exact h.elim
  | [], _ :: _, h, _, _, _, _ => by simp [Msgs] at h
  | _ :: _, [], h, _, _, _, _ => by unfold Msgs at h; split at h <;> simp_all
def t1 : List UInt8 := [99, 111, 110, 116, 101, 110, 116]
def t2 : List UInt8 := [45, 108, 101, 110, 103, 116, 104, 58, 32, 50, 13, 10, 13, 10, 97]
def t3 : List UInt8 := [98, 120, 13, 10]
theorem fed1 : (feedS r0 t1).2 = [] := by decide
theorem fed2 : (feedS (feedS r0 t1).1 t2).2 = [] := by decide
theorem fed3 : (feedS (feedS (feedS r0 t1).1 t2).1 t3).2 = [(1, [97, 98]), (3, [])] := by decide
theorem fed4 : (feedS (feedS (feedS r0 t1).1 t2).1 t3).1.st = 3 := by decide
/-- A constant's bytes are fed. -/
theorem feed_const {σ : St} {p : Nat} {r : R} {lv bv : V} (h : Own σ p r [] lv bv .nils []) (hg : Good r) (t : List UInt8) (ht : t.length < 2 ^ 39) :
    CCalls Tryd.prog 11 [.ptr p 0 0, .slc σ.n 0 t.length] (σ.new (.row 1 (t.map byteE))) (fun o σ' => ∃ lv' bv' ov' oes', o = .ret ov' ∧ Fed σ' p (feedS r t).1 (feedS r t).2 lv' bv' ov' oes' ∧ Good (feedS r t).1 ∧ σ.n ≤ σ'.n) := by
  have f : Fm σ (σ.new (.row 1 (t.map byteE))) (names p lv bv .nils []) (names p lv bv .nils []) := ⟨by simp, fun l h => .inl h, fun l hl hn => by rw [new_H, if_neg (by omega)]⟩
  have keep : ∀ l ∈ names p lv bv .nils [], (σ.new (.row 1 (t.map byteE))).H l = σ.H l := fun l hl => by
    have := h.lt l hl
    rw [new_H, if_neg (by omega)]
  have h' : Own (σ.new (.row 1 (t.map byteE))) p r [] lv bv .nils [] := ⟨by rw [keep p (by simp [names])]; exact h.at_, h.line.mono fun l e => keep l (by simp [names, mem_rowL, e]), h.body.mono fun l e => keep l (by simp [names, mem_rowL, e]), .inl ⟨rfl, rfl⟩, trivial, h.bn, h.ln, h.nd, fun l hl => by have := h.lt l hl; simp; omega⟩
  refine (feed_c h' hg (v := .slc σ.n 0 t.length) (b := t) (by simp [Bs, Rd, cont]; exact List.take_of_length_le (by simp)) (fun l e => ?_) ht).mono ?_
  · simp [V.row] at e
    subst e
    exact ⟨fun hm => by have := h.lt _ hm; omega, by simp⟩
  · rintro o σ' ⟨lv', bv', ov', oes', h1, h2, h3, h4⟩
    have := h4.n
    simp at this
    exact ⟨lv', bv', ov', oes', h1, h2, h3, by omega⟩
theorem framed_c (σ : St) : CCalls Tryd.prog 6 [] σ (fun o σ' => o = .ret (.bool true)) := by
  refine w_fn ok6 (by simp [c6]) fun Q hn hr hpq => ?_
  simp only [c6] at *
  have hq : ∀ f' σ', f'.ds = [] → f'.env 0 = .bool true → Q .ret f' σ' := fun f σ' h1 h2 => hr f _ ⟨h1, _, by simp [retV, resL, resV, one, h2], rfl⟩
  clear hn hr hpq
  refine w_seq ?_
  refine w_regk [] fun K KP hk hkp => ?_
  simp
  apply hk; clear hk hkp K KP
  refine w_seq ?_
  refine w_regk [1] fun K KP hk hkp => ?_
  simp
  refine (new_c σ).mono ?_
  rintro _ σ1 ⟨rfl, h1, _, _⟩
  simp
  apply hk; clear hk hkp K KP
  generalize σ.n = p at h1
  refine w_seq ?_
  refine w_regk [1, 2] fun K KP hk hkp => ?_
  simp
  refine (feed_const h1 good0 t1 (by simp [t1])).mono ?_
  rintro _ σ2 ⟨lv2, bv2, ov2, oes2, rfl, h2, g2, _⟩
  simp
  apply hk; clear hk hkp K KP
  have h2o := h2.own
  rw [fed1] at h2
  have e2 : oes2 = [] := by have := h2.msgs.len; simpa using this
  have l2 : lenV ov2 = some (.int .i64 0) := by rw [h2.out.rd.len, e2]; rfl
  refine w_seq ?_
  refine w_regk [1, 2, 3] fun K KP hk hkp => ?_
  simp
  refine (feed_const h2o g2 t2 (by simp [t2])).mono ?_
  rintro _ σ3 ⟨lv3, bv3, ov3, oes3, rfl, h3, g3, _⟩
  simp
  apply hk; clear hk hkp K KP
  have h3o := h3.own
  rw [fed2] at h3
  have e3 : oes3 = [] := by have := h3.msgs.len; simpa using this
  have l3 : lenV ov3 = some (.int .i64 0) := by rw [h3.out.rd.len, e3]; rfl
  refine w_seq ?_
  refine w_regk [1, 2, 3, 4] fun K KP hk hkp => ?_
  simp
  refine (feed_const h3o g3 t3 (by simp [t3])).mono ?_
  rintro _ σ4 ⟨lv4, bv4, ov4, oes4, rfl, h4, g4, _⟩
  simp
  apply hk; clear hk hkp K KP
  have h4o := h4.own.at_
  simp only [cel, fed4] at h4o
  rw [fed3] at h4
  have e4 : oes4.length = 2 := by have := h4.msgs.len; simpa using this
  have l4 : lenV ov4 = some (.int .i64 2) := by rw [h4.out.rd.len, e4]; rfl
  obtain ⟨b1, hb1, sb1⟩ := h4.msgs.get (i := 0) (k := 1) (s := [97, 98]) rfl
  obtain ⟨b2, hb2, sb2⟩ := h4.msgs.get (i := 1) (k := 3) (s := []) rfl
  have hrd := h4.out.rd
  have a0 := hrd.at (k := .i64) (i := 0) (by omega)
  have a1 := hrd.at (k := .i64) (i := 1) (by omega)
  simp only [Int.cast_ofNat_Int, Int.ofNat_eq_natCast] at a0 a1
  have f00 := hrd.fa (i := 0) (j := 0) (by omega)
  have f01 := hrd.fa (i := 0) (j := 1) (by omega)
  have f10 := hrd.fa (i := 1) (j := 0) (by omega)
  have c00 := hrd.cel (i := 0) (j := 0) hb1
  have c01 := hrd.cel (i := 0) (j := 1) hb1
  have c10 := hrd.cel (i := 1) (j := 0) hb2
  simp at c00 c01 c10 a0 a1
  have hs1 : Bs σ4 b1 [97, 98] := sb1.rd
  refine w_seq ?_
  refine w_regk [0] fun K KP hk hkp => ?_
  simp [l2, l3, l4, a0, a1, f00, f01, f10, c00, c01, c10, hs1.b2s]
  refine (over_c h4o).mono ?_
  rintro _ σ5 ⟨rfl, _⟩
  simp
  exact hk _ _ _ (w_ret (hq _ _ rfl (by simp)))
end Go.Proofs.YtmjbnfldehbmcaaDoor
