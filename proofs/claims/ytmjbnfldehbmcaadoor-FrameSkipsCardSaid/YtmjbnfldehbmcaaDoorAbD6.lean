/-
The walk over the program's texts, told with what its values say: a part of it. No further condition.
-/
import Derived.Test.YtmjbnfldehbmcaaDoorAbD5
namespace Go.Proofs.YtmjbnfldehbmcaaDoor
open Go.Proofs.YtmjbnfldehbmcaaDoor.Ab
/-! The reader. -/
structure R where
  st : Int
  line : List UInt8
  size : Int
  length : Int
  left : Int
  body : List UInt8
abbrev Msg := Int × List UInt8
def cel (r : R) (lv bv ov : V) : List V := [.int .i64 r.st, lv, .int .i64 r.size, .int .i64 r.length, .int .i64 r.left, bv, ov]
def rowL (v : V) : List Nat := v.row.toList
def msgRow (e : List V) : List Nat := e.flatMap rowL
def Msgs (σ : St) : List (List V) → List Msg → Prop
  | [], [] => True
  | [.int .i64 k, b] :: es, (k', s) :: ms => k = k' ∧ Sl σ 1 b (s.map byteE) ∧ Msgs σ es ms
  | _, _ => False
def names (p : Nat) (lv bv ov : V) (oes : List (List V)) : List Nat := p :: (rowL lv ++ (rowL bv ++ (rowL ov ++ oes.flatMap msgRow)))
structure Own (σ : St) (p : Nat) (r : R) (ms : List Msg) (lv bv ov : V) (oes : List (List V)) : Prop where
  at_ : σ.H p = some (.row 7 [cel r lv bv ov])
  line : Sl σ 1 lv (r.line.map byteE)
  body : Sl σ 1 bv (r.body.map byteE)
  out : Sl σ 2 ov oes
  msgs : Msgs σ oes ms
  bn : r.st ≠ 1 → bv = .nils
  ln : r.st ≠ 0 → lv = .nils
  nd : (names p lv bv ov oes).Nodup
  lt : ∀ l ∈ names p lv bv ov oes, l < σ.n
structure Fm (σ σ' : St) (L L' : List Nat) : Prop where
  n : σ.n ≤ σ'.n
  sub : ∀ l ∈ L', l ∈ L ∨ σ.n ≤ l
  H : ∀ l, l ∉ L → l < σ.n → σ'.H l = σ.H l
theorem Fm.refl (σ : St) (L : List Nat) : Fm σ σ L L := ⟨Nat.le_refl _, fun l h => .inl h, fun _ _ _ => rfl⟩
theorem Fm.trans {σ σ' σ'' : St} {L L' L'' : List Nat} (h : Fm σ σ' L L') (k : Fm σ' σ'' L' L'') : Fm σ σ'' L L'' :=
  ⟨Nat.le_trans h.n k.n, fun l hl => by
    rcases k.sub l hl with h1 | h1
    · exact h.sub l h1
    · exact .inr (Nat.le_trans h.n h1), fun l hl hn => by
    have hno : l ∉ L' := fun hm => by
      rcases h.sub l hm with h1 | h1
      · exact hl h1
      · omega
    rw [k.H l hno (Nat.lt_of_lt_of_le hn h.n), h.H l hl hn]⟩
theorem mem_rowL {v : V} {l : Nat} : l ∈ rowL v ↔ v.row = some l := by simp [rowL]
theorem Msgs.mono {σ σ' : St} : ∀ {es : List (List V)} {ms : List Msg}, Msgs σ es ms → (∀ l ∈ es.flatMap msgRow, σ'.H l = σ.H l) → Msgs σ' es ms
  | [], [], _, _ => trivial
  | e :: es, m :: ms, h, hH => by
    unfold Msgs at h
    split at h
    · simp at *
    · rename_i h1 h2
      obtain ⟨rfl, rfl⟩ := List.cons.inj h1
      obtain ⟨rfl, rfl⟩ := List.cons.inj h2
      exact ⟨h.1, h.2.1.mono fun l hl => hH l (by simp [msgRow, mem_rowL, hl]), Msgs.mono h.2.2 fun l hl => hH l (by rw [List.flatMap_cons]; exact List.mem_append_right _ hl)⟩
    · exact h.elim
  | [], _ :: _, h, _ => by simp [Msgs] at h
  | _ :: _, [], h, _ => by unfold Msgs at h; split at h <;> simp_all
theorem Msgs.snoc {σ : St} {k : Int} {b : V} {s : List UInt8} (hb : Sl σ 1 b (s.map byteE)) : ∀ {es : List (List V)} {ms : List Msg}, Msgs σ es ms → Msgs σ (es ++ [[.int .i64 k, b]]) (ms ++ [(k, s)])
  | [], [], _ => ⟨rfl, hb, trivial⟩
  | e :: es, m :: ms, h => by
    unfold Msgs at h
    split at h
    · simp at *
    · rename_i h1 h2
      obtain ⟨rfl, rfl⟩ := List.cons.inj h1
      obtain ⟨rfl, rfl⟩ := List.cons.inj h2
      exact ⟨h.1, h.2.1, Msgs.snoc hb h.2.2⟩
    · exact h.elim
  | [], _ :: _, h => by simp [Msgs] at h
  | _ :: _, [], h => by unfold Msgs at h; split at h <;> simp_all
def emitS (σ : St) (p : Nat) (a b c d e f g : V) (oes : List (List V)) (k : Int) (m : V) : St :=
  ((grown (σ.new (.row 2 [[.int .i64 k, m]])) g).new (.row 2 (oes ++ [[.int .i64 k, m]]))).set p (.row 7 [[a, b, c, d, e, f, .slc (σ.n + 1) 0 (oes.length + 1)]])
theorem emit_c (σ : St) (p : Nat) (a b c d e f g : V) (oes : List (List V)) (k : Int) (m : V) (hp : σ.H p = some (.row 7 [[a, b, c, d, e, f, g]])) (hg : Sl σ 2 g oes) (hm : m.scal = true)
    (hne : g.row ≠ some p) (hpn : p < σ.n) (hgn : ∀ l, g.row = some l → l < σ.n) (hlen : oes.length < 2 ^ 40) :
    CCalls Tryd.prog 20 [.ptr p 0 0, .int .i64 k, m] σ (fun o σ' => o = .ret (.tup []) ∧ σ' = emitS σ p a b c d e f g oes k m) := by
  refine w_fn ok20 (by simp [c20]) fun Q hn hr hpq => ?_
  simp only [c20] at *
  have hq : ∀ f', f'.ds = [] → Q .normal f' (emitS σ p a b c d e f g oes k m) := fun f h1 => hn f _ ⟨h1, by simp [retV, resL, one]⟩
  clear hn hr hpq
  refine w_reg fun K KP hk hkp => ?_
  have hsg := hg.scal
  simp [hp, cells_scal hm, hm]
  have hg' : Sl (σ.new (.row 2 [[.int .i64 k, m]])) 2 g oes := hg.mono fun l hl => by
    have := hgn l hl
    simp; omega
  have hsrc : srcOf (σ.new (.row 2 [[.int .i64 k, m]])) 2 (.slc σ.n 0 1) = some [[.int .i64 k, m]] := srcOf_rd (by simp [Rd, cont])
  rw [hg'.app hsrc (by simp) (by simp only [reach, List.length_singleton]; omega) (by simp only [reach, List.length_singleton]; omega)]
  have hH : ((grown (σ.new (.row 2 [[.int .i64 k, m]])) g).new (.row 2 (oes ++ [[.int .i64 k, m]]))).H p = some (.row 7 [[a, b, c, d, e, f, g]]) := by
    rw [new_H, if_neg (by simp; omega), grown_H, if_neg hne, new_H, if_neg (by omega), hp]
  simp [hH, -new_H]
  refine hk _ _ (w_end ?_)
  exact hq _ (by simp)
theorem emitS_set (σ : St) (p : Nat) (B : Blk) (a b c d e f g : V) (oes : List (List V)) (k : Int) (m : V) : emitS (σ.set p B) p a b c d e f g oes k m = emitS σ p a b c d e f g oes k m := by
  refine St.ext' (fun l => ?_) (by simp [emitS]) (by simp [emitS])
  simp only [emitS, set_H, new_H, grown_H, grown_n, new_n, set_n]
  by_cases h : l = p <;> simp [h]
theorem emitS_set' (σ : St) (p : Nat) (a b c d e f g : V) (oes : List (List V)) (k : Int) (m : V) (B : Blk) : (emitS σ p a b c d e f g oes k m).set p B = ((grown (σ.new (.row 2 [[.int .i64 k, m]])) g).new (.row 2 (oes ++ [[.int .i64 k, m]]))).set p B := by
  simp [emitS]
theorem emitS_H (σ : St) (p : Nat) (a b c d e f g : V) (oes : List (List V)) (k : Int) (m : V) (l : Nat) : (emitS σ p a b c d e f g oes k m).H l = if l = p then some (.row 7 [[a, b, c, d, e, f, .slc (σ.n + 1) 0 (oes.length + 1)]]) else if l = σ.n + 1 then some (.row 2 (oes ++ [[.int .i64 k, m]])) else if g.row = some l then none else if l = σ.n then some (.row 2 [[.int .i64 k, m]]) else σ.H l := by
  simp only [emitS, set_H, new_H, grown_H, grown_n, new_n]
theorem own_emit {σ : St} {p : Nat} {r r' : R} {ms : List Msg} {lv bv ov : V} {oes : List (List V)} (h : Own σ p r ms lv bv ov oes) (hl : r'.line = []) (hb : r'.body = []) (k : Int) :
    Own (emitS σ p (.int .i64 r'.st) .nils (.int .i64 r'.size) (.int .i64 r'.length) (.int .i64 r'.left) .nils ov oes k bv) p r' (ms ++ [(k, r.body)]) .nils .nils (.slc (σ.n + 1) 0 (oes.length + 1)) (oes ++ [[.int .i64 k, bv]]) ∧
    Fm σ (emitS σ p (.int .i64 r'.st) .nils (.int .i64 r'.size) (.int .i64 r'.length) (.int .i64 r'.left) .nils ov oes k bv) (names p lv bv ov oes) (names p .nils .nils (.slc (σ.n + 1) 0 (oes.length + 1)) (oes ++ [[.int .i64 k, bv]])) := by
  have hnd := h.nd
  have hlt := h.lt
  unfold names at hnd hlt
  simp only [List.nodup_cons, List.nodup_append, List.mem_append, List.mem_cons, not_or] at hnd
  simp only [List.mem_append, List.mem_cons] at hlt
  obtain ⟨⟨pl, pb, po, pm⟩, lN, ⟨bN, ⟨oN, mN, dom⟩, db⟩, dl⟩ := hnd
  have hpn := hlt p (.inl rfl)
  have keep : ∀ l, l ∈ rowL bv ∨ l ∈ oes.flatMap msgRow → (emitS σ p (.int .i64 r'.st) .nils (.int .i64 r'.size) (.int .i64 r'.length) (.int .i64 r'.left) .nils ov oes k bv).H l = σ.H l := fun l hm => by
    have hl := hlt l (by rcases hm with h | h <;> simp [h])
    rw [emitS_H, if_neg, if_neg, if_neg, if_neg]
    · omega
    · intro e
      have e' := mem_rowL.2 e
      rcases hm with h | h
      · exact db l h l (.inl e') rfl
      · exact dom l e' l h rfl
    · omega
    · rintro rfl
      rcases hm with h | h
      · exact pb h
      · exact pm h
  have hflat : (oes ++ [[.int .i64 k, bv]]).flatMap msgRow = oes.flatMap msgRow ++ rowL bv := by simp [msgRow, rowL, V.row]
  have hrow : rowL (.slc (σ.n + 1) 0 (oes.length + 1)) = [σ.n + 1] := rfl
  have hnil : rowL .nils = [] := rfl
  have hn : (emitS σ p (.int .i64 r'.st) .nils (.int .i64 r'.size) (.int .i64 r'.length) (.int .i64 r'.left) .nils ov oes k bv).n = σ.n + 2 := by simp [emitS]
  refine ⟨⟨?_, .inl ⟨rfl, by simp [hl]⟩, .inl ⟨rfl, by simp [hb]⟩, .inr ⟨σ.n + 1, by simp, ?_⟩, ?_, fun _ => rfl, fun _ => rfl, ?_, ?_⟩, ?_, ?_, ?_⟩
  · rw [emitS_H, if_pos rfl]; rfl
  · rw [emitS_H, if_neg (by omega), if_pos rfl]
  · exact Msgs.snoc (h.body.mono fun l hl => keep l (.inl (mem_rowL.2 hl))) (h.msgs.mono fun l hl => keep l (.inr hl))
  · unfold names
    rw [hflat, hrow, hnil]
    simp only [List.nil_append, List.singleton_append, List.nodup_cons, List.nodup_append, List.mem_cons, List.mem_append, not_or]
    refine ⟨⟨by omega, pm, pb⟩, ⟨fun hm => ?_, fun hm => ?_⟩, mN, bN, fun a ha b hb e => db b hb a (.inr ha) e.symm⟩
    · have := hlt _ (.inr (.inr (.inr (.inr hm)))); omega
    · have := hlt _ (.inr (.inr (.inl hm))); omega
  · unfold names
    rw [hflat, hrow, hnil, hn]
    simp only [List.nil_append, List.singleton_append, List.mem_cons, List.mem_append]
    rintro l (rfl | rfl | hm | hm)
    · omega
    · omega
    · have := hlt _ (.inr (.inr (.inr (.inr hm)))); omega
    · have := hlt _ (.inr (.inr (.inl hm))); omega
  · rw [hn]; omega
  · unfold names
    rw [hflat, hrow, hnil]
    simp only [List.nil_append, List.singleton_append, List.mem_cons, List.mem_append]
    rintro l (rfl | rfl | hm | hm)
    · exact .inl (.inl rfl)
    · exact .inr (by omega)
    · exact .inl (.inr (.inr (.inr (.inr hm))))
    · exact .inl (.inr (.inr (.inl hm)))
  · unfold names
    simp only [List.mem_cons, List.mem_append, not_or]
    rintro l ⟨h1, h2, h3, h4, h5⟩ hlt
    rw [emitS_H, if_neg h1, if_neg (by omega), if_neg (fun e => h4 (mem_rowL.2 e)), if_neg (by omega)]
end Go.Proofs.YtmjbnfldehbmcaaDoor
