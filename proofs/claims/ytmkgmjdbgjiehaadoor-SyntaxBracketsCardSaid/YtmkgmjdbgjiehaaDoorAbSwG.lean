/-
The walk over the program's texts, told with what its values say: a part of it. No further condition.
-/
import Derived.Test.YtmkgmjdbgjiehaaDoorAbPs
import Derived.KernelRfl
namespace Go.Proofs.YtmkgmjdbgjiehaaDoor.Ab
set_option linter.unusedVariables false
def Nz {α : Type} (x : Rs α) (P : Prop) : Prop := ∀ a b e r, x = .bad a b e r → e ≠ 0 ∧ (P → e ≠ 13)
section
variable {α β : Type} {P : Prop} {ts : List TK}
theorem Nz.bind {x : Rs α} {g : α → List TK → Rs β} (h : Nz x P) (c : ∀ a r, Nz (g a r) P) : Nz (x.bind g) P := fun a b e r k => by
  cases hx : x with
  | ok a' r' => rw [hx] at k; exact c a' r' a b e r k
  | bad a' b' e' r' => rw [hx] at k; simp at k; obtain ⟨rfl, rfl, rfl, rfl⟩ := k; exact h _ _ _ _ hx
  | off => rw [hx] at k; simp at k
theorem Nz.ok (a : α) (r : List TK) : Nz (.ok a r) P := fun _ _ _ _ k => by cases k
theorem Nz.off : Nz (.off : Rs α) P := fun _ _ _ _ k => by cases k
theorem Nz.bad (a b : Nat) {e : Nat} (r : List TK) (h : e ≠ 0 ∧ (P → e ≠ 13)) : Nz (.bad a b e r : Rs α) P := fun _ _ _ _ k => by cases k; exact h
theorem Nz.miss (ts : List TK) : Nz (missT ts : Rs α) P := by
  cases ts with
  | nil => exact .off
  | cons t r => exact .bad _ _ _ (by split <;> simp)
theorem Nz.need {x : Rs α} (h : Nz x P) : Nz (needT ts x) P := by cases ts; exact .off; exact h
theorem Nz.mono {x : Rs α} {Q : Prop} (h : Nz x P) (k : Q → P) : Nz x Q := fun a b e r hx => ⟨(h a b e r hx).1, fun q => (h a b e r hx).2 (k q)⟩
theorem Nz.want (s : List UInt8) (ts : List TK) : Nz (wantT s ts) P := by
  unfold wantT; split
  · exact .ok _ _
  · exact .miss _
theorem Nz.name (ts : List TK) : Nz (nameT ts) P := by
  cases ts with
  | nil => exact .off
  | cons t r => simp only [nameT]; split; exact .ok _ _; exact .miss _
theorem Nz.places (ts : List TK) : Nz (placesT ts) P := by
  cases ts with
  | nil => exact .off
  | cons t r =>
    simp only [placesT]; split
    · split
      · exact .ok _ _
      · exact .bad _ _ _ (by simp)
    · exact .miss _
theorem Nz.comma {p : Prop} [Decidable p] (ts : List TK) : Nz (if p then .ok () ts else wantT [44] ts) P := by
  split
  · exact .ok _ _
  · exact .want _ _
end
section
variable (M : Nat) (L : List TK)
structure AllNz (n : Nat) : Prop where
  expr : ∀ d ts, Nz (exprT M L n d ts) (d + n ≤ M)
  row : ∀ lv d ts, Nz (rowT M L n lv d ts) (d + n ≤ M)
  loop : ∀ lv d fr a ts, Nz (loopT M L n lv d fr a ts) (d + n ≤ M)
  unary : ∀ d ts, Nz (unaryT M L n d ts) (d + n ≤ M)
  atom : ∀ d ts, Nz (atomT M L n d ts) (d + n ≤ M)
  arr : ∀ d fr ts, Nz (arrT M L n d fr ts) (d + n ≤ M)
  args : ∀ c d ts, Nz (argsT M L n c d ts) (d + n ≤ M)
  arg : ∀ c d acc ts, Nz (argT M L n c d acc ts) (d + n ≤ M)
theorem allNz : ∀ n, AllNz M L n
  | 0 => ⟨fun _ _ => by unfold exprT; exact .off, fun _ _ _ => by unfold rowT; exact .off, fun _ _ _ _ _ => by unfold loopT; exact .off, fun _ _ => by unfold unaryT; exact .off, fun _ _ => by unfold atomT; exact .off, fun _ _ _ => by unfold arrT; exact .off, fun _ _ _ => by unfold argsT; exact .off, fun _ _ _ _ => by unfold argT; exact .off⟩
  | n + 1 => by
    have ih := allNz n
    have ex : ∀ d ts, Nz (exprT M L n (d + 1) ts) (d + (n + 1) ≤ M) := fun d ts => (ih.expr (d + 1) ts).mono (by omega)
    have ex0 : ∀ d ts, Nz (exprT M L n d ts) (d + (n + 1) ≤ M) := fun d ts => (ih.expr d ts).mono (by omega)
    have ro1 : ∀ lv d ts, Nz (rowT M L n lv (d + 1) ts) (d + (n + 1) ≤ M) := fun lv d ts => (ih.row lv (d + 1) ts).mono (by omega)
    have ro : ∀ lv d ts, Nz (rowT M L n lv d ts) (d + (n + 1) ≤ M) := fun lv d ts => (ih.row lv d ts).mono (by omega)
    have lo : ∀ lv d fr a ts, Nz (loopT M L n lv d fr a ts) (d + (n + 1) ≤ M) := fun lv d fr a ts => (ih.loop lv d fr a ts).mono (by omega)
    have un : ∀ d ts, Nz (unaryT M L n (d + 1) ts) (d + (n + 1) ≤ M) := fun d ts => (ih.unary (d + 1) ts).mono (by omega)
    have un0 : ∀ d ts, Nz (unaryT M L n d ts) (d + (n + 1) ≤ M) := fun d ts => (ih.unary d ts).mono (by omega)
    have atm : ∀ d ts, Nz (atomT M L n (d + 1) ts) (d + (n + 1) ≤ M) := fun d ts => (ih.atom (d + 1) ts).mono (by omega)
    have ars : ∀ c d ts, Nz (argsT M L n c d ts) (d + (n + 1) ≤ M) := fun c d ts => (ih.args c d ts).mono (by omega)
    have arg : ∀ c d acc ts, Nz (argT M L n c d acc ts) (d + (n + 1) ≤ M) := fun c d acc ts => (ih.arg c d acc ts).mono (by omega)
    have arr : ∀ d fr ts, Nz (arrT M L n d fr ts) (d + (n + 1) ≤ M) := fun d fr ts => (ih.arr d fr ts).mono (by omega)
    constructor
    · intro d ts
      unfold exprT
      split
      · exact .off
      · split
        · exact .bad _ _ _ (by omega)
        · split
          · exact (Nz.name _).bind fun nm r2 => (Nz.want _ _).bind fun _ r3 => (ex _ _).bind fun a r4 => (Nz.want _ _).bind fun _ r5 => (ex _ _).bind fun b r6 => .ok _ _
          · split
            · exact (ex _ _).bind fun a r2 => (Nz.want _ _).bind fun _ r3 => (ex _ _).bind fun b r4 => (Nz.want _ _).bind fun _ r5 => (ex _ _).bind fun c r6 => .ok _ _
            · split
              · exact (ex _ _).bind fun a r2 => (Nz.want _ _).bind fun _ r3 => (ex _ _).bind fun b r4 => .ok _ _
              · exact ro1 _ _ _
    · intro lv d ts
      unfold rowT
      split
      · exact un0 _ _
      · split
        · exact .off
        · exact (ro _ _ _).bind fun a r2 => lo _ _ _ _ _
    · intro lv d fr a ts
      unfold loopT
      split
      · exact .off
      · split
        · exact .ok _ _
        · refine (ro _ _ _).bind fun b r2 => ?_
          split
          · exact .ok _ _
          · exact lo _ _ _ _ _
    · intro d ts
      unfold unaryT
      split
      · exact .off
      · split
        · exact .bad _ _ _ (by omega)
        · split
          · exact (un _ _).bind fun a r2 => .ok _ _
          · split
            · exact (un _ _).bind fun a r2 => .ok _ _
            · exact atm _ _
    · intro d ts
      unfold atomT
      split
      · exact .off
      · split
        · split
          · exact .ok _ _
          · exact .bad _ _ _ (by simp)
        · split
          · refine Nz.need ?_
            split
            · exact (ars _ _ _).bind fun l r2 => .ok _ _
            · exact .ok _ _
          · split
            · exact .ok _ _
            · split
              · exact .ok _ _
              · split
                · exact .ok _ _
                · split
                  · exact (ex0 _ _).bind fun e r2 => (Nz.want _ _).bind fun _ r3 => .ok _ _
                  · exact arr _ _ _
    · intro d fr ts
      unfold arrT
      split
      · exact (ars _ _ _).bind fun l r2 => .ok _ _
      · split
        · exact (ars _ _ _).bind fun l r2 => .ok _ _
        · split
          · exact (ars _ _ _).bind fun l r2 => .ok _ _
          · split
            · exact (Nz.want _ _).bind fun _ r2 => (Nz.places _).bind fun k r3 => (Nz.want _ _).bind fun _ r4 => (ex0 _ _).bind fun a r5 => (Nz.want _ _).bind fun _ r6 => .ok _ _
            · exact .miss _
    · intro c d ts
      unfold argsT
      refine (Nz.want _ _).bind fun _ r1 => (arg _ _ _ _).bind fun l r2 => ?_
      split
      · exact .bad _ _ _ (by simp)
      · exact (Nz.want _ _).bind fun _ r3 => .ok _ _
    · intro c d acc ts
      unfold argT
      split
      · refine Nz.bind (x := if acc = [] then .ok () ts else wantT [44] ts) (Nz.comma _) fun _ r1 => (ex0 _ _).bind fun e r2 => ?_
        split
        · exact .bad _ _ _ (by simp)
        · exact arg _ _ _ _
      · exact .ok _ _
theorem Nz.typ (n : Nat) (ts : List TK) : Nz (typT M L n ts) (n ≤ M) := by
  cases ts with
  | nil => exact .off
  | cons t r =>
    unfold typT
    refine Nz.bind ?_ fun b r2 => Nz.need ?_
    · split
      · exact .ok _ _
      · split
        · exact .ok _ _
        · split
          · exact (Nz.places _).bind fun k r2 => .ok _ _
          · exact .miss _
    · split
      · exact (((allNz M L n).expr 0 _).mono (by omega)).bind fun e r4 => (Nz.want _ _).bind fun _ r5 => .ok _ _
      · exact .ok _ _
theorem Nz.qual {P : Prop} : ∀ (n : Nat) (acc : List Pm) (ts : List TK), Nz (qualT n acc ts) P
  | 0, acc, ts => .off
  | n + 1, acc, ts => by
    unfold qualT
    refine (Nz.name _).bind fun x r1 => ?_
    split
    · exact .bad _ _ _ (by simp)
    · refine Nz.need ?_
      split
      · exact Nz.qual n _ _
      · exact .ok _ _
theorem Nz.pars (m : Nat) : ∀ (n : Nat) (acc : List Pm) (ts : List TK), Nz (parsT M L m n acc ts) (m ≤ M)
  | 0, acc, ts => .off
  | n + 1, acc, ts => by
    unfold parsT
    split
    · exact .ok _ _
    · refine Nz.bind (x := if acc = [] then .ok () ts else wantT [44] ts) (Nz.comma _) fun _ r1 => (Nz.name _).bind fun x r2 => (Nz.want _ _).bind fun _ r3 => (Nz.typ M L m _).bind fun y r4 => ?_
      split
      · exact .bad _ _ _ (by simp)
      · exact Nz.pars m n _ _
theorem Nz.item (n : Nat) (ts : List TK) : Nz (itemT M L n ts) (n ≤ M) := by
  unfold itemT
  refine Nz.bind ?_ fun h r1 => (Nz.want _ _).bind fun _ r2 => (((allNz M L n).expr 0 _).mono (by omega)).bind fun b r3 => (Nz.want _ _).bind fun _ r4 => ?_
  · unfold headT
    split
    · exact (Nz.name _).bind fun t r2 => (Nz.want _ _).bind fun _ r3 => (Nz.qual n [] _).bind fun l r4 => (Nz.want _ _).bind fun _ r5 => .ok _ _
    · refine Nz.bind (x := match takeT [112, 117, 98] ts with | some r => Rs.ok true r | none => .ok false ts) ?_ fun p r0 => (Nz.want _ _).bind fun _ r1 => (Nz.name _).bind fun t r2 => (Nz.want _ _).bind fun _ r3 => (Nz.pars M L n n [] _).bind fun l r4 => (Nz.want _ _).bind fun _ r5 => (Nz.want _ _).bind fun _ r6 => (Nz.typ M L n _).bind fun y r7 => .ok _ _
      split
      · exact .ok _ _
      · exact .ok _ _
  · split
    · exact .off
    · split
      · exact .ok _ _
      · exact .bad _ _ _ (by simp)
end
theorem parse_err {b : List UInt8} {x y e : Nat} (h : parseF b = .err x y e) (ho : (tksF b).2.2 = 0 → itemT 60 (tksF b).1 (fuelF (tksF b).1) (tksF b).1 ≠ .off) : e ≠ 0 := by
  unfold parseF at h
  split at h
  · rename_i h0
    split at h
    · cases h
    · rename_i a b' e' r hi
      cases h
      exact (Nz.item 60 _ _ _ _ _ _ _ hi).1
    · rename_i hi
      exact absurd hi (ho h0)
  · rename_i h0; cases h; exact h0
theorem parse_on (b : List UInt8) (h0 : (tksF b).2.2 = 0) : itemT 60 (tksF b).1 (fuelF (tksF b).1) (tksF b).1 ≠ .off := by
  have he := (toks_good (K := b.length) (b.length + 1) b (by omega) h0).1
  exact (To.item 60 _ he (Nat.le_refl _)).1
theorem parse_err0 {b : List UInt8} {x y e : Nat} (h : parseF b = .err x y e) : e ≠ 0 := parse_err h (parse_on b)
end Go.Proofs.YtmkgmjdbgjiehaaDoor.Ab
namespace Go.Proofs.YtmkgmjdbgjiehaaDoor.Ab
set_option linter.unusedVariables false
def Tq : List TK → List TK → Prop
  | [], [] => True
  | a :: as0, b :: bs => (a.kind = b.kind ∧ a.txt = b.txt) ∧ Tq as0 bs
  | _, _ => False
def Rq {α : Type} (R : α → α → Prop) : Rs α → Rs α → Prop
  | .off, .off => True
  | .bad _ _ e _, .bad _ _ e' _ => e = e'
  | .ok a r, .ok b r' => R a b ∧ Tq r r'
  | _, _ => False
section
variable {α β : Type} {R : α → α → Prop} {R' : β → β → Prop} {ts ts' : List TK}
theorem Rq.bind {x y : Rs α} {f g : α → List TK → Rs β} (h : Rq R x y) (k : ∀ a b r r', R a b → Tq r r' → Rq R' (f a r) (g b r')) : Rq R' (x.bind f) (y.bind g) := by
  cases x <;> cases y <;> first | exact h.elim | exact k _ _ _ _ h.1 h.2 | exact h
theorem isT_q (h : Tq ts ts') (s : List UInt8) : isT s ts = isT s ts' := by
  cases ts <;> cases ts' <;> first | exact h.elim | rfl | (obtain ⟨⟨h1, h2⟩, _⟩ := h; simp [isT, h1, h2])
theorem takeT_q (h : Tq ts ts') (s : List UInt8) : (takeT s ts = none ∧ takeT s ts' = none) ∨ ∃ r r', takeT s ts = some r ∧ takeT s ts' = some r' ∧ Tq r r' := by
  have hi := isT_q h s
  cases ts <;> cases ts'
  · exact .inl ⟨rfl, rfl⟩
  · exact h.elim
  · exact h.elim
  · rename_i t r t' r'
    show ((if isT s (t :: r) = true then some r else none) = none ∧ (if isT s (t' :: r') = true then some r' else none) = none) ∨ ∃ u u', (if isT s (t :: r) = true then some r else none) = some u ∧ (if isT s (t' :: r') = true then some r' else none) = some u' ∧ Tq u u'
    rw [← hi]
    by_cases hs : isT s (t :: r) = true
    · rw [if_pos hs, if_pos hs]; exact .inr ⟨r, r', rfl, rfl, h.2⟩
    · rw [if_neg hs, if_neg hs]; exact .inl ⟨rfl, rfl⟩
theorem Rq.off : Rq R (.off : Rs α) .off := trivial
theorem Rq.ok {a b : α} {r r' : List TK} (h : R a b) (k : Tq r r') : Rq R (.ok a r) (.ok b r') := ⟨h, k⟩
theorem Rq.bad (a b a' b' : Nat) {e : Nat} (r r' : List TK) : Rq R (.bad a b e r) (.bad a' b' e r') := rfl
theorem Rq.miss (h : Tq ts ts') : Rq R (missT ts) (missT ts') := by
  cases ts <;> cases ts' <;> first | exact h.elim | trivial | (obtain ⟨⟨h1, h2⟩, _⟩ := h; simp [missT, Rq, h1])
theorem Rq.need (h : Tq ts ts') {x y : Rs α} (k : Rq R x y) : Rq R (needT ts x) (needT ts' y) := by
  cases ts <;> cases ts' <;> first | exact h.elim | trivial | exact k
theorem Rq.take {s : List UInt8} (h : Tq ts ts') {f g : List TK → Rs α} {x y : Rs α} (k : ∀ r r', Tq r r' → Rq R (f r) (g r')) (k2 : Rq R x y) : Rq R (match takeT s ts with | some r => f r | none => x) (match takeT s ts' with | some r => g r | none => y) := by
  rcases takeT_q h s with ⟨h1, h2⟩ | ⟨r, r', h1, h2, hq⟩
  · rw [h1, h2]; exact k2
  · rw [h1, h2]; exact k r r' hq
theorem Rq.want (h : Tq ts ts') (s : List UInt8) : Rq (fun _ _ => True) (wantT s ts) (wantT s ts') := by
  unfold wantT
  exact .take h (fun r r' hq => ⟨trivial, hq⟩) (.miss h)
theorem Rq.name (h : Tq ts ts') : Rq (fun a b : TK => a.txt = b.txt) (nameT ts) (nameT ts') := by
  cases ts <;> cases ts'
  · trivial
  · exact h.elim
  · exact h.elim
  · have h' := h
    obtain ⟨⟨h1, h2⟩, h3⟩ := h
    simp only [nameT, ← h1]
    split
    · exact ⟨h2, h3⟩
    · exact .miss h'
theorem Rq.places (h : Tq ts ts') : Rq (fun a b : Nat => a = b) (placesT ts) (placesT ts') := by
  cases ts <;> cases ts'
  · trivial
  · exact h.elim
  · exact h.elim
  · have h' := h
    obtain ⟨⟨h1, h2⟩, h3⟩ := h
    simp only [placesT, ← h1, ← h2]
    split
    · split
      · exact ⟨rfl, h3⟩
      · rfl
    · exact .miss h'
theorem Rq.mono {R2 : α → α → Prop} {x y : Rs α} (h : Rq R x y) (k : ∀ a b, R a b → R2 a b) : Rq R2 x y := by
  cases x <;> cases y <;> first | exact h.elim | exact ⟨k _ _ h.1, h.2⟩ | exact h
end
def Eq2 (a b : Ex) : Prop := er a = er b
def Eq2s (a b : List Ex) : Prop := a.map er = b.map er
theorem er_q {k m : Nat} {nm nm' : List UInt8} {l l' : List Ex} {a b a' b' : Nat} (hn : nm = nm') (h : Eq2s l l') : Eq2 (.mk k nm m l a b) (.mk k nm' m l' a' b') := by
  subst hn; unfold Eq2; rw [er_mk, er_mk, h]
theorem e1 {a a' : Ex} (h : Eq2 a a') : Eq2s [a] [a'] := by unfold Eq2s; simp only [List.map_cons, List.map_nil]; rw [h]
theorem e2 {a a' b b' : Ex} (h : Eq2 a a') (h2 : Eq2 b b') : Eq2s [a, b] [a', b'] := by unfold Eq2s; simp only [List.map_cons, List.map_nil]; rw [h, h2]
theorem e3 {a a' b b' c c' : Ex} (h : Eq2 a a') (h2 : Eq2 b b') (h3 : Eq2 c c') : Eq2s [a, b, c] [a', b', c'] := by unfold Eq2s; simp only [List.map_cons, List.map_nil]; rw [h, h2, h3]
theorem Eq2s.len {a b : List Ex} (h : Eq2s a b) : a.length = b.length := by have := congrArg List.length h; simpa using this
section
variable (M : Nat) (L L' : List TK)
structure AllRq (n : Nat) : Prop where
  expr : ∀ d ts ts', Tq ts ts' → Rq Eq2 (exprT M L n d ts) (exprT M L' n d ts')
  row : ∀ lv d ts ts', Tq ts ts' → Rq Eq2 (rowT M L n lv d ts) (rowT M L' n lv d ts')
  loop : ∀ lv d fr fr' a a' ts ts', Tq ts ts' → Eq2 a a' → Rq Eq2 (loopT M L n lv d fr a ts) (loopT M L' n lv d fr' a' ts')
  unary : ∀ d ts ts', Tq ts ts' → Rq Eq2 (unaryT M L n d ts) (unaryT M L' n d ts')
  atom : ∀ d ts ts', Tq ts ts' → Rq Eq2 (atomT M L n d ts) (atomT M L' n d ts')
  arr : ∀ d fr fr' ts ts', Tq ts ts' → Rq Eq2 (arrT M L n d fr ts) (arrT M L' n d fr' ts')
  args : ∀ c d ts ts', Tq ts ts' → Rq Eq2s (argsT M L n c d ts) (argsT M L' n c d ts')
  arg : ∀ c d acc acc' ts ts', Tq ts ts' → Eq2s acc acc' → Rq Eq2s (argT M L n c d acc ts) (argT M L' n c d acc' ts')
theorem allRq : ∀ n, AllRq M L L' n
  | 0 => ⟨fun _ _ _ _ => by unfold exprT; trivial, fun _ _ _ _ _ => by unfold rowT; trivial, fun _ _ _ _ _ _ _ _ _ _ => by unfold loopT; trivial, fun _ _ _ _ => by unfold unaryT; trivial, fun _ _ _ _ => by unfold atomT; trivial, fun _ _ _ _ _ _ => by unfold arrT; trivial, fun _ _ _ _ _ => by unfold argsT; trivial, fun _ _ _ _ _ _ _ _ => by unfold argT; trivial⟩
  | n + 1 => by
    have ih := allRq n
    constructor
    · intro d ts ts' h
      unfold exprT
      cases ts <;> cases ts'
      · trivial
      · exact h.elim
      · exact h.elim
      · simp only
        split
        · rfl
        · refine .take h (fun r r' hq => ?_) (.take h (fun r r' hq => ?_) (.take h (fun r r' hq => ?_) (ih.row _ _ _ _ h)))
          · exact (Rq.name hq).bind fun nm nm' r2 r2' hn q2 => (Rq.want q2 _).bind fun _ _ r3 r3' _ q3 => (ih.expr _ _ _ q3).bind fun a a' r4 r4' ha q4 => (Rq.want q4 _).bind fun _ _ r5 r5' _ q5 => (ih.expr _ _ _ q5).bind fun b b' r6 r6' hb q6 => .ok (er_q hn (e2 ha hb)) q6
          · exact (ih.expr _ _ _ hq).bind fun a a' r4 r4' ha q4 => (Rq.want q4 _).bind fun _ _ r5 r5' _ q5 => (ih.expr _ _ _ q5).bind fun b b' r6 r6' hb q6 => (Rq.want q6 _).bind fun _ _ r7 r7' _ q7 => (ih.expr _ _ _ q7).bind fun c c' r8 r8' hc q8 => .ok (er_q rfl (e3 ha hb hc)) q8
          · exact (ih.expr _ _ _ hq).bind fun a a' r4 r4' ha q4 => (Rq.want q4 _).bind fun _ _ r5 r5' _ q5 => (ih.expr _ _ _ q5).bind fun b b' r6 r6' hb q6 => .ok (er_q rfl (e2 ha hb)) q6
    · intro lv d ts ts' h
      unfold rowT
      split
      · exact ih.unary _ _ _ h
      · cases ts <;> cases ts'
        · trivial
        · exact h.elim
        · exact h.elim
        · exact (ih.row _ _ _ _ h).bind fun a a' r r' ha hq => ih.loop _ _ _ _ _ _ _ _ hq ha
    · intro lv d fr fr' a a' ts ts' h ha
      unfold loopT
      cases ts <;> cases ts'
      · trivial
      · exact h.elim
      · exact h.elim
      · rename_i t r t' r'
        have hl : levelT lv t' = levelT lv t := by unfold levelT; rw [← h.1.1, ← h.1.2]
        simp only [hl]
        split
        · exact .ok ha h
        · refine (ih.row _ _ _ _ h.2).bind fun b b' r2 r2' hb q2 => ?_
          split
          · exact .ok (er_q rfl (e2 ha hb)) q2
          · exact ih.loop _ _ _ _ _ _ _ _ q2 (er_q rfl (e2 ha hb))
    · intro d ts ts' h
      unfold unaryT
      cases ts <;> cases ts'
      · trivial
      · exact h.elim
      · exact h.elim
      · simp only
        split
        · rfl
        · refine .take h (fun r r' hq => ?_) (.take h (fun r r' hq => ?_) (ih.atom _ _ _ h))
          · exact (ih.unary _ _ _ hq).bind fun a a' r4 r4' ha q4 => .ok (er_q rfl (e1 ha)) q4
          · exact (ih.unary _ _ _ hq).bind fun a a' r4 r4' ha q4 => .ok (er_q rfl (e1 ha)) q4
    · intro d ts ts' h
      unfold atomT
      cases ts <;> cases ts'
      · trivial
      · exact h.elim
      · exact h.elim
      · rename_i t r t' r'
        simp only [← h.1.1, ← h.1.2, ← isT_q h.2]
        split
        · split
          · exact .ok (er_q rfl rfl) h.2
          · rfl
        · split
          · refine Rq.need h.2 ?_
            split
            · exact (ih.args _ _ _ _ h.2).bind fun l l' r2 r2' hl q2 => .ok (er_q rfl hl) q2
            · exact .ok (er_q rfl rfl) h.2
          · refine .take h (fun r r' hq => .ok (er_q rfl rfl) hq) (.take h (fun r r' hq => .ok (er_q rfl rfl) hq) (.take h (fun r r' hq => .ok (er_q rfl rfl) hq) (.take h (fun r r' hq => ?_) (ih.arr _ _ _ _ _ h))))
            exact (ih.expr _ _ _ hq).bind fun a a' r4 r4' ha q4 => (Rq.want q4 _).bind fun _ _ r5 r5' _ q5 => .ok ha q5
    · intro d fr fr' ts ts' h
      unfold arrT
      refine .take h (fun r r' hq => ?_) (.take h (fun r r' hq => ?_) (.take h (fun r r' hq => ?_) (.take h (fun r r' hq => ?_) (.miss h))))
      · exact (ih.args _ _ _ _ hq).bind fun l l' r2 r2' hl q2 => .ok (er_q rfl hl) q2
      · exact (ih.args _ _ _ _ hq).bind fun l l' r2 r2' hl q2 => .ok (er_q rfl hl) q2
      · exact (ih.args _ _ _ _ hq).bind fun l l' r2 r2' hl q2 => .ok (er_q rfl hl) q2
      · exact (Rq.want hq _).bind fun _ _ r2 r2' _ q2 => (Rq.places q2).bind fun k k' r3 r3' hk q3 => (Rq.want q3 _).bind fun _ _ r4 r4' _ q4 => (ih.expr _ _ _ q4).bind fun a a' r5 r5' ha q5 => (Rq.want q5 _).bind fun _ _ r6 r6' _ q6 => .ok (by subst hk; exact er_q rfl (e1 ha)) q6
    · intro c d ts ts' h
      unfold argsT
      refine (Rq.want h _).bind fun _ _ r1 r1' _ q1 => (ih.arg _ _ _ _ _ _ q1 rfl).bind fun l l' r2 r2' hl q2 => ?_
      have hlen := Eq2s.len hl
      have hmm : (manyT c l = none ↔ manyT c l' = none) := by
        cases c with
        | none => simp [manyT]
        | some k => simp only [manyT, List.getElem?_eq_none_iff]; omega
      cases h1 : manyT c l <;> cases h2 : manyT c l'
      · exact (Rq.want q2 _).bind fun _ _ r3 r3' _ q3 => .ok hl q3
      · rw [h1, h2] at hmm; simp at hmm
      · rw [h1, h2] at hmm; simp at hmm
      · rfl
    · intro c d acc acc' ts ts' h ha
      have hlen := Eq2s.len ha
      unfold argT
      rw [isT_q h, hlen]
      split
      · refine Rq.bind (R := fun _ _ => True) (x := if acc = [] then .ok () ts else wantT [44] ts) (y := if acc' = [] then .ok () ts' else wantT [44] ts') ?_ fun _ _ r1 r1' _ q1 => (ih.expr _ _ _ q1).bind fun e e' r2 r2' he q2 => ?_
        · have : acc = [] ↔ acc' = [] := by rw [← List.length_eq_zero_iff, ← List.length_eq_zero_iff, hlen]
          by_cases h0 : acc = []
          · rw [if_pos h0, if_pos (this.1 h0)]; exact .ok trivial h
          · rw [if_neg h0, if_neg fun k => h0 (this.2 k)]; exact .want h _
        · split
          · rfl
          · exact ih.arg _ _ _ _ _ _ q2 (by unfold Eq2s at ha ⊢; rw [List.map_append, List.map_append, ha]; simp only [List.map_cons, List.map_nil]; rw [he])
      · exact .ok ha h
theorem Rq.typ {n : Nat} {ts ts' : List TK} (h : Tq ts ts') : Rq (fun a b => erT a = erT b) (typT M L n ts) (typT M L' n ts') := by
  cases ts <;> cases ts'
  · trivial
  · exact h.elim
  · exact h.elim
  · unfold typT
    refine Rq.bind (R := fun a b => a = b) ?_ fun b b' r2 r2' hb q2 => Rq.need q2 (.take q2 (fun r r' hq => ?_) ?_)
    · refine .take h (fun r r' hq => .ok rfl hq) (.take h (fun r r' hq => .ok rfl hq) (.take h (fun r r' hq => ?_) (.miss h)))
      exact (Rq.places hq).bind fun k k' r3 r3' hk q3 => .ok (by rw [hk]) q3
    · subst hb
      exact ((allRq M L L' n).expr _ _ _ hq).bind fun e e' r4 r4' he q4 => (Rq.want q4 _).bind fun _ _ r5 r5' _ q5 => .ok (by simp only [erT, Option.map_some]; rw [he]) q5
    · subst hb; exact .ok rfl q2
def EqPs (a b : List Pm) : Prop := a.map erP = b.map erP
theorem EqPs.len {a b : List Pm} (h : EqPs a b) : a.length = b.length := by have := congrArg List.length h; simpa using this
theorem EqPs.add {a b : List Pm} {m m' : Pm} (h : EqPs a b) (hm : erP m = erP m') : EqPs (a ++ [m]) (b ++ [m']) := by unfold EqPs at h ⊢; rw [List.map_append, List.map_append, h]; simp only [List.map_cons, List.map_nil]; rw [hm]
theorem Rq.qual : ∀ (n : Nat) (acc acc' : List Pm) (ts ts' : List TK), Tq ts ts' → EqPs acc acc' → Rq EqPs (qualT n acc ts) (qualT n acc' ts')
  | 0, acc, acc', ts, ts', h, ha => trivial
  | n + 1, acc, acc', ts, ts', h, ha => by
    unfold qualT
    refine (Rq.name h).bind fun x x' r1 r1' hx q1 => ?_
    rw [ha.len]
    split
    · rfl
    · have hm : EqPs (acc ++ [⟨x.txt, ⟨1, 0, none, x.fr, x.to⟩, x.fr, x.to⟩]) (acc' ++ [⟨x'.txt, ⟨1, 0, none, x'.fr, x'.to⟩, x'.fr, x'.to⟩]) := ha.add (by simp only [erP, erT]; rw [hx])
      exact Rq.need q1 (.take q1 (fun r r' hq => Rq.qual n _ _ _ _ hq hm) (.ok hm q1))
theorem Rq.pars (m : Nat) : ∀ (n : Nat) (acc acc' : List Pm) (ts ts' : List TK), Tq ts ts' → EqPs acc acc' → Rq EqPs (parsT M L m n acc ts) (parsT M L' m n acc' ts')
  | 0, acc, acc', ts, ts', h, ha => trivial
  | n + 1, acc, acc', ts, ts', h, ha => by
    have hlen := ha.len
    unfold parsT
    rw [isT_q h]
    split
    · exact .ok ha h
    · refine Rq.bind (R := fun _ _ => True) (x := if acc = [] then .ok () ts else wantT [44] ts) (y := if acc' = [] then .ok () ts' else wantT [44] ts') ?_ fun _ _ r1 r1' _ q1 => (Rq.name q1).bind fun x x' r2 r2' hx q2 => (Rq.want q2 _).bind fun _ _ r3 r3' _ q3 => (Rq.typ M L L' q3).bind fun y y' r4 r4' hy q4 => ?_
      · have : acc = [] ↔ acc' = [] := by rw [← List.length_eq_zero_iff, ← List.length_eq_zero_iff, hlen]
        by_cases h0 : acc = []
        · rw [if_pos h0, if_pos (this.1 h0)]; exact .ok trivial h
        · rw [if_neg h0, if_neg fun k => h0 (this.2 k)]; exact .want h _
      · rw [hlen]
        split
        · rfl
        · exact Rq.pars m n _ _ _ _ q4 (ha.add (by simp only [erP]; rw [hx, hy]))
theorem Rq.item {n : Nat} {ts ts' : List TK} (h : Tq ts ts') : Rq (fun a b => erI a = erI b) (itemT M L n ts) (itemT M L' n ts') := by
  unfold itemT
  refine Rq.bind (R := fun a b : Hd => a.kind = b.kind ∧ a.pub = b.pub ∧ a.nm.txt = b.nm.txt ∧ EqPs a.params b.params ∧ erT a.result = erT b.result) ?_ fun hd hd' r1 r1' hh q1 => (Rq.want q1 _).bind fun _ _ r2 r2' _ q2 => ((allRq M L L' n).expr _ _ _ q2).bind fun b b' r3 r3' hb q3 => (Rq.want q3 _).bind fun _ _ r4 r4' _ q4 => ?_
  · unfold headT
    refine .take h (fun r r' hq => ?_) ?_
    · exact (Rq.name hq).bind fun t t' r2 r2' ht q2 => (Rq.want q2 _).bind fun _ _ r3 r3' _ q3 => (Rq.qual n [] [] _ _ q3 rfl).bind fun l l' r4 r4' hl q4 => (Rq.want q4 _).bind fun _ _ r5 r5' _ q5 => .ok ⟨rfl, rfl, ht, hl, rfl⟩ q5
    · refine Rq.bind (R := fun a b : Bool => a = b) (.take h (fun r r' hq => .ok rfl hq) (.ok rfl h)) fun p p' r0 r0' hp q0 => (Rq.want q0 _).bind fun _ _ r1 r1' _ q1 => (Rq.name q1).bind fun t t' r2 r2' ht q2 => (Rq.want q2 _).bind fun _ _ r3 r3' _ q3 => (Rq.pars M L L' n n [] [] _ _ q3 rfl).bind fun l l' r4 r4' hl q4 => (Rq.want q4 _).bind fun _ _ r5 r5' _ q5 => (Rq.want q5 _).bind fun _ _ r6 r6' _ q6 => (Rq.typ M L L' q6).bind fun y y' r7 r7' hy q7 => .ok ⟨rfl, hp, ht, hl, hy⟩ q7
  · cases r4 <;> cases r4'
    · trivial
    · exact q4.elim
    · exact q4.elim
    · simp only [← q4.1.1]
      split
      · obtain ⟨h1, h2, h3, h4, h5⟩ := hh
        exact .ok (by simp only [erI]; rw [h1, h2, h3, h5, show List.map erP hd.params = List.map erP hd'.params from h4, show er b = er b' from hb]) q4
      · rfl
end
end Go.Proofs.YtmkgmjdbgjiehaaDoor.Ab
namespace Go.Proofs.YtmkgmjdbgjiehaaDoor.Ab
set_option linter.unusedVariables false
set_option linter.unusedSimpArgs false
def Ns (s : List UInt8) : Prop := (59 : UInt8) ∉ s
theorem Ns.app {a b : List UInt8} (h : Ns a) (k : Ns b) : Ns (a ++ b) := by unfold Ns at *; simp [h, k]
theorem Ns.cons {c : UInt8} {b : List UInt8} (h : c ≠ 59) (k : Ns b) : Ns (c :: b) := by unfold Ns at *; simp [k]; exact fun e => h e.symm
theorem Ns.num (n : Nat) : Ns (numT n) := by
  intro h
  have := List.all_eq_true.1 (numT_ok n).2.2.1 _ h
  simp [digD] at this
theorem Ns.name {s : List UInt8} (h : nameOK s) : Ns s := by
  have hne : s ≠ [] := by rintro rfl; have := h.1; simp [tokF] at this
  obtain ⟨a, t, rfl, hh⟩ := piece_cases h.1 hne
  rcases hh with ⟨_, hw, _⟩ | ⟨_, _, _, _, hk⟩ | ⟨_, _, hk, _⟩
  · intro h
    have := takeWhile_all hw _ h
    simp [goesB, smallB, digitB] at this
  · omega
  · omega
theorem Ns.joinTail {sep : List UInt8} (hs : Ns sep) : ∀ {l : List (List UInt8)}, (∀ s ∈ l, Ns s) → Ns (Lib.joinTail sep l)
  | [], _ => by simp [Ns, Lib.joinTail]
  | x :: l, h => by
    have ih := Ns.joinTail hs (l := l) fun s hs => h s (by simp [hs])
    simp only [Lib.joinTail, List.map_cons, List.flatten_cons] at ih ⊢
    exact (hs.app (h x (by simp))).app ih
theorem Ns.join {sep : List UInt8} (hs : Ns sep) {l : List (List UInt8)} (h : ∀ s ∈ l, Ns s) : Ns (Lib.join l sep) := by
  cases l with
  | nil => rw [Lib.join_nil]; simp [Ns]
  | cons x l => rw [Lib.join_cons]; exact (h x (by simp)).app (Ns.joinTail hs fun s hs => h s (by simp [hs]))
theorem Ns.sh {e : Ex} (h : Ns (ba e)) (least : Nat) : Ns (sh e least) := by
  rw [sh_eq]; split
  · exact .cons (by decide) (h.app (by unfold Ns; decide))
  · exact h
theorem Ns.sep : Ns ([44, 32] : List UInt8) := by unfold Ns; decide
section
variable (M : Nat) (L : List TK)
end
end Go.Proofs.YtmkgmjdbgjiehaaDoor.Ab
namespace Go.Proofs.YtmkgmjdbgjiehaaDoor.Ab
set_option linter.unusedVariables false
def tx1 : List UInt8 := [102, 110, 32, 102, 40, 120, 58, 32, 105, 110, 116, 123, 118, 32, 62, 32, 48, 125, 41, 32, 45, 62, 32, 105, 110, 116, 32, 61, 32, 120, 43, 49, 42, 50, 59]
def tx2 : List UInt8 := [102, 110, 32, 102, 40, 41, 32, 45, 62, 32, 105, 110, 116, 32, 61, 32, 49]
def tx3 : List UInt8 := [102, 110, 32, 102, 40, 120, 58, 32, 105, 110, 116, 123, 118, 32, 62, 32, 48, 125, 41, 32, 45, 62, 32, 105, 110, 116, 32, 61, 32, 120, 32, 43, 32, 49, 32, 42, 32, 50, 59]
def it1 : It := ⟨1, false, [102], 3, 4, [⟨[120], ⟨1, 0, some (.mk 17 [] 0 [.mk 4 [118] 0 [] 12 13, .mk 1 [] 0 [] 16 17] 12 17), 8, 18⟩, 5, 6⟩], ⟨1, 0, none, 23, 26⟩, .mk 8 [] 0 [.mk 4 [120] 0 [] 29 30, .mk 10 [] 0 [.mk 1 [] 1 [] 31 32, .mk 1 [] 2 [] 33 34] 31 34] 29 34⟩
theorem parse1 : parseF tx1 = .good it1 := by kernel_rfl
theorem parse2 : parseF tx2 = .err 17 17 11 := by kernel_rfl
theorem print1 : itS it1 = tx3 := by kernel_rfl
theorem toks_gs (K : Nat) : ∀ (n : Nat) (s : List UInt8), s.length < n → Gs (toksF K n s).1
  | 0, s, h => by omega
  | n + 1, s, h => by
    unfold toksF
    have hsuf := (skip_suf s false).length_le
    split
    · intro t ht; simp at ht; subst ht; exact ⟨fun k => by simp at k, fun k => by simp at k⟩
    · rename_i c u hk
      rw [hk] at hsuf
      split
      · rename_i h1
        obtain ⟨l1, l2, l3⟩ := tok_len h1
        have hlen : ((c :: u).drop (tokF (c :: u)).2.1.length).length = (c :: u).length - (tokF (c :: u)).2.1.length := List.length_drop
        split
        · intro t ht
          rcases List.mem_cons.1 ht with rfl | ht
          · refine ⟨fun k => ?_, fun k => ?_⟩
            · simp only at k ⊢
              cases g : smallB c with
              | true =>
                have e := tokF_name (t := u) g
                rw [e] at k h1 ⊢
                split at k
                · simp at k
                · rename_i hl
                  rw [if_neg hl]
                  simp only at k ⊢
                  split at k
                  · simp at k
                  · rename_i hw
                    have hg : goesB c = true := by simp [goesB, g]
                    have hcs : (c :: u).takeWhile goesB = c :: u.takeWhile goesB := List.takeWhile_cons_of_pos hg
                    have htw : ((c :: u).takeWhile goesB).takeWhile goesB = (c :: u).takeWhile goesB := by
                      have : ∀ l : List UInt8, (∀ x ∈ l, goesB x = true) → l.takeWhile goesB = l := fun l hl => by
                        induction l with
                        | nil => rfl
                        | cons a l ih => rw [List.takeWhile_cons_of_pos (hl a (by simp)), ih fun x hx => hl x (by simp [hx])]
                      refine this _ fun x hx => ?_
                      have h' : ∀ (l : List UInt8), ∀ x ∈ l.takeWhile goesB, goesB x = true := fun l => by
                        induction l with
                        | nil => intro x hx; simp at hx
                        | cons a l ih =>
                          intro x hx
                          by_cases ha : goesB a = true
                          · rw [List.takeWhile_cons_of_pos ha] at hx
                            rcases List.mem_cons.1 hx with rfl | hx
                            · exact ha
                            · exact ih x hx
                          · rw [List.takeWhile_cons_of_neg ha] at hx; simp at hx
                      exact h' _ x hx
                    refine ⟨?_, fun e118 => hw (by rw [e118]; decide)⟩
                    rw [hcs] at htw hl hw ⊢
                    rw [tokF_name g, htw, if_neg hl, if_neg hw]
              | false =>
                exfalso
                cases g2 : digitB c with
                | true => rw [tokF_dig g g2] at k; split at k <;> simp at k
                | false => rw [tokF_sign g g2] at k; split at k <;> simp at k
            · simp only at k ⊢
              obtain ⟨m1, m2⟩ := tokF_num h1 k
              have : ∀ (l : List UInt8) (n0 : Nat), l.all digD = true → l.foldl (fun n c => n * 10 + (c.toNat - 48)) n0 < (n0 + 1) * 10 ^ l.length := fun l => by
                induction l with
                | nil => intro n0 _; simp
                | cons a l ih =>
                  intro n0 ha
                  simp only [List.all_cons, Bool.and_eq_true, digD, decide_eq_true_eq] at ha
                  have := ih (n0 * 10 + (a.toNat - 48)) ha.2
                  simp only [List.foldl_cons, List.length_cons]
                  refine Nat.lt_of_lt_of_le this ?_
                  rw [Nat.pow_succ, ← Nat.mul_assoc, Nat.mul_right_comm]
                  exact Nat.mul_le_mul_right _ (by omega)
              have h2 := this (tokF (c :: u)).2.1 0 m1
              simp only [Nat.zero_add, Nat.one_mul] at h2
              exact Nat.lt_of_lt_of_le h2 (Nat.pow_le_pow_right (by decide) m2)
          · exact toks_gs K n _ (by omega) t ht
        · intro t ht; simp at ht
      · intro t ht; simp at ht
theorem parse_ok {b : List UInt8} {it : It} (h : parseF b = .good it) : okI it ∧ ndI it ≤ 2 * b.length + 2 := by
  unfold parseF at h
  split at h
  · rename_i h0
    split at h
    · rename_i it' r hi
      cases h
      have hg : Gs (tksF b).1 := toks_gs b.length (b.length + 1) b (by omega)
      have hl := (toks_good (K := b.length) (b.length + 1) b (by omega) h0).2.2
      have h1 := Wx.item (M := 60) (L := (tksF b).1) hg _ _ hi
      have h2 := Wn.item 60 (tksF b).1 _ _ _ _ hi
      refine ⟨h1, ?_⟩
      have : (tksF b).1.length ≤ b.length + 1 := hl
      omega
    · cases h
    · cases h
  · cases h
end Go.Proofs.YtmkgmjdbgjiehaaDoor.Ab
namespace Go.Proofs.YtmkgmjdbgjiehaaDoor
open Go.Proofs.YtmkgmjdbgjiehaaDoor.Ab
set_option linter.unusedVariables false
set_option linter.unusedSimpArgs false
attribute [local simp] Gr.refl Gr.new Gr.set Gr.kill Nat.add_assoc r_ckk chk_x chk_n
abbrev BB : Int := 4294967296
def lit1 : List (List V) := [[.int .u8 102], [.int .u8 110], [.int .u8 32], [.int .u8 102], [.int .u8 40], [.int .u8 120], [.int .u8 58], [.int .u8 32], [.int .u8 105], [.int .u8 110], [.int .u8 116], [.int .u8 123], [.int .u8 118], [.int .u8 32], [.int .u8 62], [.int .u8 32], [.int .u8 48], [.int .u8 125], [.int .u8 41], [.int .u8 32], [.int .u8 45], [.int .u8 62], [.int .u8 32], [.int .u8 105], [.int .u8 110], [.int .u8 116], [.int .u8 32], [.int .u8 61], [.int .u8 32], [.int .u8 120], [.int .u8 43], [.int .u8 49], [.int .u8 42], [.int .u8 50], [.int .u8 59]]
def lit2 : List (List V) := [[.int .u8 102], [.int .u8 110], [.int .u8 32], [.int .u8 102], [.int .u8 40], [.int .u8 41], [.int .u8 32], [.int .u8 45], [.int .u8 62], [.int .u8 32], [.int .u8 105], [.int .u8 110], [.int .u8 116], [.int .u8 32], [.int .u8 61], [.int .u8 32], [.int .u8 49]]
theorem lit1_is : lit1 = tx1.map byteE := rfl
theorem lit2_is : lit2 = tx2.map byteE := rfl
theorem new_bs {σ : St} {es : List (List V)} {s : List UInt8} (h : es = s.map byteE) {k : Nat} (hk : k = s.length) : Bs (σ.new (.row 1 es)) (.slc σ.n 0 k) s := by
  subst h; subst hk; simp [Bs, Rd, cont, List.take_of_length_le]
theorem new_old {σ : St} {b : Blk} {k : Nat} : (V.slc σ.n 0 k).old (σ.new b) := fun l off len e => by simp at e; simp [← e.1]
theorem parse_new {σ : St} {es : List (List V)} {s : List UInt8} (h : es = s.map byteE) {k : Nat} (hk : k = s.length) (hs : s.length < 2 ^ 38) : ev ET 9 [.slc σ.n 0 k] (σ.new (.row 1 es)) = some (.ret (parseV BB (parseF s)), σ.new (.row 1 es)) :=
  parse_ev (E := ET) rfl rfl (new_bs h hk) new_old hs
theorem it1_ok : okI it1 ∧ ndI it1 ≤ 2 * tx1.length + 2 := parse_ok parse1
set_option maxRecDepth 10000 in
set_option maxHeartbeats 2000000 in
theorem parsed_ev {σ : St} (ht : Tab σ) : ev ET 8 [] σ = some (.ret (.bool true), σ) := by
  suffices h : ∃ τ, run ET false f8.res [.d f8.body] ⟨envOf [], []⟩ σ = some (.ret (.bool true), τ) ∧ Gr σ τ by
    obtain ⟨τ, h, g⟩ := h
    exact ev_pure (fd := f8) rfl (by simp [f8]) rfl h g.H g.W (by simp)
  obtain ⟨s1, hs1⟩ : ∃ s1, s1 = σ.new (.row 1 lit1) := ⟨_, rfl⟩
  have g1 : Gr σ s1 := by rw [hs1]; simp
  have p1 := parse_new (σ := σ) lit1_is (k := 35) rfl (by decide)
  rw [parse1, ← hs1] at p1
  obtain ⟨i1, i2, i3⟩ := itE_ok BB it1
  have hpr := fun (s : St) (h : Tab s) => print_ev (B := BB) rfl it1_ok.1 (by have := it1_ok.2; have e : tx1.length = 35 := rfl; omega) (σ := s) h
  rw [print1] at hpr
  have hit : itV BB it1 = .agg (itE BB it1) := rfl
  have q1 : s1.H σ.n = some (.row 1 lit1) := by rw [hs1]; simp
  obtain ⟨ie, hie⟩ : ∃ ie, ie = itE BB it1 := ⟨_, rfl⟩
  simp only [parseV, hit, ← hie] at p1 hpr i1 i2
  obtain ⟨s2, hs2⟩ : ∃ s2, s2 = (((s1.new (.row 18 [z18])).new (.row 2 [[.int .i64 0, .int .i64 0]])).set s1.n (.row 18 [ie])).set (s1.n + 1) (.row 2 [[.int .i64 0, .int .i64 0]]) := ⟨_, rfl⟩
  have g2 : Gr s1 s2 := by rw [hs2]; exact ((((Gr.refl s1).new _).new _).set (Nat.le_refl _) _).set (by omega) _
  have m2 : s2.H s1.n = some (.row 18 [ie]) := by rw [hs2]; simp
  obtain ⟨s3, hs3⟩ : ∃ s3, s3 = s2.new (.row 1 lit2) := ⟨_, rfl⟩
  have g3 : Gr s2 s3 := by rw [hs3]; simp
  have p2 := parse_new (σ := s2) lit2_is (k := 17) rfl (by decide)
  rw [parse2, ← hs3] at p2
  simp only [parseV] at p2
  have q3 : s3.H s2.n = some (.row 1 lit2) := by rw [hs3]; simp
  obtain ⟨s4, hs4⟩ : ∃ s4, s4 = (((s3.new (.row 18 [z18])).new (.row 2 [[.int .i64 0, .int .i64 0]])).set s3.n (.row 18 [z18])).set (s3.n + 1) (.row 2 [[.int .i64 17, .int .i64 17]]) := ⟨_, rfl⟩
  have g4 : Gr s3 s4 := by rw [hs4]; exact ((((Gr.refl s3).new _).new _).set (Nat.le_refl _) _).set (by omega) _
  have m4 : s4.H (s3.n + 1) = some (.row 2 [[.int .i64 17, .int .i64 17]]) := by rw [hs4]; simp
  have n1 : s1.n < s2.n := by rw [hs2]; simp
  have n2 : s2.n < s3.n := by rw [hs3]; simp
  have m3 : s4.H s1.n = some (.row 18 [ie]) := by rw [g4.H _ (by omega), g3.H _ n1]; exact m2
  have hpr4 := hpr s4 ((((ht.gr g1).gr g2).gr g3).gr g4)
  have htk : ie.take 18 = ie := List.take_of_length_le (by omega)
  have hdr : ie.drop 18 = [] := List.drop_eq_nil_of_le (by omega)
  refine ⟨s4, ?_, ((g1.trans g2).trans g3).trans g4⟩
  have e1 : ∀ s : St, s.new (.row 1 lit1) = s.new (.row 1 [[.int .u8 102], [.int .u8 110], [.int .u8 32], [.int .u8 102], [.int .u8 40], [.int .u8 120], [.int .u8 58], [.int .u8 32], [.int .u8 105], [.int .u8 110], [.int .u8 116], [.int .u8 123], [.int .u8 118], [.int .u8 32], [.int .u8 62], [.int .u8 32], [.int .u8 48], [.int .u8 125], [.int .u8 41], [.int .u8 32], [.int .u8 45], [.int .u8 62], [.int .u8 32], [.int .u8 105], [.int .u8 110], [.int .u8 116], [.int .u8 32], [.int .u8 61], [.int .u8 32], [.int .u8 120], [.int .u8 43], [.int .u8 49], [.int .u8 42], [.int .u8 50], [.int .u8 59]]) := fun _ => rfl
  have e2 : ∀ s : St, s.new (.row 1 lit2) = s.new (.row 1 [[.int .u8 102], [.int .u8 110], [.int .u8 32], [.int .u8 102], [.int .u8 40], [.int .u8 41], [.int .u8 32], [.int .u8 45], [.int .u8 62], [.int .u8 32], [.int .u8 105], [.int .u8 110], [.int .u8 116], [.int .u8 32], [.int .u8 61], [.int .u8 32], [.int .u8 49]]) := fun _ => rfl
  rw [e1] at hs1
  rw [e2] at hs3
  simp only [z18] at hs2 hs4 p2
  simp only [tx3] at hpr4
  simp [f8, d8, ← hs1, q1, p1, i1, eq_true i2, hdr, htk, ← hs2, ← hs3, q3, p2, ← hs4, m3, m4, hpr4, lit1, lit2]
end Go.Proofs.YtmkgmjdbgjiehaaDoor
namespace Go.Proofs.YtmkgmjdbgjiehaaDoor
open Go.Proofs.YtmkgmjdbgjiehaaDoor.Ab
set_option linter.unusedVariables false
set_option linter.unusedSimpArgs false
attribute [local simp] Gr.refl Gr.new Gr.set Gr.kill Nat.add_assoc r_ckk chk_x chk_n
theorem parse_str {σ : St} {s : List UInt8} (hs : s.length < 2 ^ 38) : ev ET 9 [.slc σ.n 0 s.length] (σ.new (.row 1 (s.map byteE))) = some (.ret (parseV BB (parseF s)), σ.new (.row 1 (s.map byteE))) := parse_new rfl rfl hs
def zz : List V := [.int .i64 0, .int .i64 0]
def st2 (s : St) (a b : List V) : St := (((s.new (.row 18 [z18])).new (.row 2 [zz])).set s.n (.row 18 [a])).set (s.n + 1) (.row 2 [b])
theorem st2_gr (s : St) (a b : List V) : Gr s (st2 s a b) := ((((Gr.refl s).new _).new _).set (Nat.le_refl _) _).set (by omega) _
theorem st2_a (s : St) (a b : List V) : (st2 s a b).H s.n = some (.row 18 [a]) := by simp [st2]
theorem st2_n (s : St) (a b : List V) : (st2 s a b).n = s.n + 2 := by simp [st2]
theorem errV {x y e : Nat} : parseV BB (.err x y e) = .tup [.agg z18, .agg [.int .i64 x, .int .i64 y], .int .i64 e] := rfl
theorem goodV {it : It} : parseV BB (.good it) = .tup [.agg (itE BB it), .agg zz, .int .i64 0] := rfl
end Go.Proofs.YtmkgmjdbgjiehaaDoor
