/-
The walk over the program's texts, told with what its values say: a part of it. No further condition.
-/
import Derived.Test.YtmkgmjdbgjiehaaDoorAbPs
import Derived.KernelRfl
namespace Go.Proofs.YtmkgmjdbgjiehaaDoor.Ab
set_option linter.unusedVariables false
def Nz {α : Type} (x : Rs α) (P : Prop) : Prop := ∀ a b e r, x = .bad a b e r → e ≠ 0 ∧ (P → e ≠ 13)
section
variable {α β : Type} {P : Prop} {ts : List TK}
theorem Nz.bind {x : Rs α} {g : α → List TK → Rs β} (h : Nz x P) (c : ∀ a r, Nz (g a r) P) : Nz (x.bind g) P := fun a b e r k => by
  cases hx : x with
  | ok a' r' => rw [hx] at k; exact c a' r' a b e r k
  | bad a' b' e' r' => rw [hx] at k; simp at k; obtain ⟨rfl, rfl, rfl, rfl⟩ := k; exact h _ _ _ _ hx
  | off => rw [hx] at k; simp at k
theorem Nz.ok (a : α) (r : List TK) : Nz (.ok a r) P := fun _ _ _ _ k => by cases k
theorem Nz.off : Nz (.off : Rs α) P := fun _ _ _ _ k => by cases k
theorem Nz.bad (a b : Nat) {e : Nat} (r : List TK) (h : e ≠ 0 ∧ (P → e ≠ 13)) : Nz (.bad a b e r : Rs α) P := fun _ _ _ _ k => by cases k; exact h
theorem Nz.miss (ts : List TK) : Nz (missT ts : Rs α) P := by
  cases ts with
  | nil => exact .off
  | cons t r => exact .bad _ _ _ (by split <;> simp)
theorem Nz.need {x : Rs α} (h : Nz x P) : Nz (needT ts x) P := by cases ts; exact .off; exact h
theorem Nz.mono {x : Rs α} {Q : Prop} (h : Nz x P) (k : Q → P) : Nz x Q := fun a b e r hx => ⟨(h a b e r hx).1, fun q => (h a b e r hx).2 (k q)⟩
theorem Nz.want (s : List UInt8) (ts : List TK) : Nz (wantT s ts) P := by
  unfold wantT; split
  · exact .ok _ _
  · exact .miss _
theorem Nz.name (ts : List TK) : Nz (nameT ts) P := by
  cases ts with
  | nil => exact .off
  | cons t r => simp only [nameT]; split; exact .ok _ _; exact .miss _
theorem Nz.places (ts : List TK) : Nz (placesT ts) P := by
  cases ts with
  | nil => exact .off
  | cons t r =>
    simp only [placesT]; split
    · split
      · exact .ok _ _
      · exact .bad _ _ _ (by simp)
    · exact .miss _
theorem Nz.comma {p : Prop} [Decidable p] (ts : List TK) : Nz (if p then .ok () ts else wantT [44] ts) P := by
  split
  · exact .ok _ _
  · exact .want _ _
end
section
variable (M : Nat) (L : List TK)
structure AllNz (n : Nat) : Prop where
  expr : ∀ d ts, Nz (exprT M L n d ts) (d + n ≤ M)
  row : ∀ lv d ts, Nz (rowT M L n lv d ts) (d + n ≤ M)
  loop : ∀ lv d fr a ts, Nz (loopT M L n lv d fr a ts) (d + n ≤ M)
  unary : ∀ d ts, Nz (unaryT M L n d ts) (d + n ≤ M)
  atom : ∀ d ts, Nz (atomT M L n d ts) (d + n ≤ M)
  arr : ∀ d fr ts, Nz (arrT M L n d fr ts) (d + n ≤ M)
  args : ∀ c d ts, Nz (argsT M L n c d ts) (d + n ≤ M)
  arg : ∀ c d acc ts, Nz (argT M L n c d acc ts) (d + n ≤ M)
theorem allNz : ∀ n, AllNz M L n
  | 0 => ⟨fun _ _ => by unfold exprT; exact .off, fun _ _ _ => by unfold rowT; exact .off, fun _ _ _ _ _ => by unfold loopT; exact .off, fun _ _ => by unfold unaryT; exact .off, fun _ _ => by unfold atomT; exact .off, fun _ _ _ => by unfold arrT; exact .off, fun _ _ _ => by unfold argsT; exact .off, fun _ _ _ _ => by unfold argT; exact .off⟩
  | n + 1 => by
    have ih := allNz n
    have ex : ∀ d ts, Nz (exprT M L n (d + 1) ts) (d + (n + 1) ≤ M) := fun d ts => (ih.expr (d + 1) ts).mono (by omega)
    have ex0 : ∀ d ts, Nz (exprT M L n d ts) (d + (n + 1) ≤ M) := fun d ts => (ih.expr d ts).mono (by omega)
    have ro1 : ∀ lv d ts, Nz (rowT M L n lv (d + 1) ts) (d + (n + 1) ≤ M) := fun lv d ts => (ih.row lv (d + 1) ts).mono (by omega)
    have ro : ∀ lv d ts, Nz (rowT M L n lv d ts) (d + (n + 1) ≤ M) := fun lv d ts => (ih.row lv d ts).mono (by omega)
    have lo : ∀ lv d fr a ts, Nz (loopT M L n lv d fr a ts) (d + (n + 1) ≤ M) := fun lv d fr a ts => (ih.loop lv d fr a ts).mono (by omega)
    have un : ∀ d ts, Nz (unaryT M L n (d + 1) ts) (d + (n + 1) ≤ M) := fun d ts => (ih.unary (d + 1) ts).mono (by omega)
    have un0 : ∀ d ts, Nz (unaryT M L n d ts) (d + (n + 1) ≤ M) := fun d ts => (ih.unary d ts).mono (by omega)
    have atm : ∀ d ts, Nz (atomT M L n (d + 1) ts) (d + (n + 1) ≤ M) := fun d ts => (ih.atom (d + 1) ts).mono (by omega)
    have ars : ∀ c d ts, Nz (argsT M L n c d ts) (d + (n + 1) ≤ M) := fun c d ts => (ih.args c d ts).mono (by omega)
    have arg : ∀ c d acc ts, Nz (argT M L n c d acc ts) (d + (n + 1) ≤ M) := fun c d acc ts => (ih.arg c d acc ts).mono (by omega)
    have arr : ∀ d fr ts, Nz (arrT M L n d fr ts) (d + (n + 1) ≤ M) := fun d fr ts => (ih.arr d fr ts).mono (by omega)
    constructor
    · intro d ts
      unfold exprT
      split
      · exact .off
      · split
        · exact .bad _ _ _ (by omega)
        · split
          · exact (Nz.name _).bind fun nm r2 => (Nz.want _ _).bind fun _ r3 => (ex _ _).bind fun a r4 => (Nz.want _ _).bind fun _ r5 => (ex _ _).bind fun b r6 => .ok _ _
          · split
            · exact (ex _ _).bind fun a r2 => (Nz.want _ _).bind fun _ r3 => (ex _ _).bind fun b r4 => (Nz.want _ _).bind fun _ r5 => (ex _ _).bind fun c r6 => .ok _ _
            · split
              · exact (ex _ _).bind fun a r2 => (Nz.want _ _).bind fun _ r3 => (ex _ _).bind fun b r4 => .ok _ _
              · exact ro1 _ _ _
    · intro lv d ts
      unfold rowT
      split
      · exact un0 _ _
      · split
        · exact .off
        · exact (ro _ _ _).bind fun a r2 => lo _ _ _ _ _
    · intro lv d fr a ts
      unfold loopT
      split
      · exact .off
      · split
        · exact .ok _ _
        · refine (ro _ _ _).bind fun b r2 => ?_
          split
          · exact .ok _ _
          · exact lo _ _ _ _ _
    · intro d ts
      unfold unaryT
      split
      · exact .off
      · split
        · exact .bad _ _ _ (by omega)
        · split
          · exact (un _ _).bind fun a r2 => .ok _ _
          · split
            · exact (un _ _).bind fun a r2 => .ok _ _
            · exact atm _ _
    · intro d ts
      unfold atomT
      split
      · exact .off
      · split
        · split
          · exact .ok _ _
          · exact .bad _ _ _ (by simp)
        · split
          · refine Nz.need ?_
            split
            · exact (ars _ _ _).bind fun l r2 => .ok _ _
            · exact .ok _ _
          · split
            · exact .ok _ _
            · split
              · exact .ok _ _
              · split
                · exact .ok _ _
                · split
                  · exact (ex0 _ _).bind fun e r2 => (Nz.want _ _).bind fun _ r3 => .ok _ _
                  · exact arr _ _ _
    · intro d fr ts
      unfold arrT
      split
      · exact (ars _ _ _).bind fun l r2 => .ok _ _
      · split
        · exact (ars _ _ _).bind fun l r2 => .ok _ _
        · split
          · exact (ars _ _ _).bind fun l r2 => .ok _ _
          · split
            · exact (Nz.want _ _).bind fun _ r2 => (Nz.places _).bind fun k r3 => (Nz.want _ _).bind fun _ r4 => (ex0 _ _).bind fun a r5 => (Nz.want _ _).bind fun _ r6 => .ok _ _
            · exact .miss _
    · intro c d ts
      unfold argsT
      refine (Nz.want _ _).bind fun _ r1 => (arg _ _ _ _).bind fun l r2 => ?_
      split
      · exact .bad _ _ _ (by simp)
      · exact (Nz.want _ _).bind fun _ r3 => .ok _ _
    · intro c d acc ts
      unfold argT
      split
      · refine Nz.bind (x := if acc = [] then .ok () ts else wantT [44] ts) (Nz.comma _) fun _ r1 => (ex0 _ _).bind fun e r2 => ?_
        split
        · exact .bad _ _ _ (by simp)
        · exact arg _ _ _ _
      · exact .ok _ _
theorem Nz.typ (n : Nat) (ts : List TK) : Nz (typT M L n ts) (n ≤ M) := by
  cases ts with
  | nil => exact .off
  | cons t r =>
    unfold typT
    refine Nz.bind ?_ fun b r2 => Nz.need ?_
    · split
      · exact .ok _ _
      · split
        · exact .ok _ _
        · split
          · exact (Nz.places _).bind fun k r2 => .ok _ _
          · exact .miss _
    · split
      · exact (((allNz M L n).expr 0 _).mono (by omega)).bind fun e r4 => (Nz.want _ _).bind fun _ r5 => .ok _ _
      · exact .ok _ _
theorem Nz.qual {P : Prop} : ∀ (n : Nat) (acc : List Pm) (ts : List TK), Nz (qualT n acc ts) P
  | 0, acc, ts => .off
  | n + 1, acc, ts => by
    unfold qualT
    refine (Nz.name _).bind fun x r1 => ?_
    split
    · exact .bad _ _ _ (by simp)
    · refine Nz.need ?_
      split
      · exact Nz.qual n _ _
      · exact .ok _ _
theorem Nz.pars (m : Nat) : ∀ (n : Nat) (acc : List Pm) (ts : List TK), Nz (parsT M L m n acc ts) (m ≤ M)
  | 0, acc, ts => .off
  | n + 1, acc, ts => by
    unfold parsT
    split
    · exact .ok _ _
    · refine Nz.bind (x := if acc = [] then .ok () ts else wantT [44] ts) (Nz.comma _) fun _ r1 => (Nz.name _).bind fun x r2 => (Nz.want _ _).bind fun _ r3 => (Nz.typ M L m _).bind fun y r4 => ?_
      split
      · exact .bad _ _ _ (by simp)
      · exact Nz.pars m n _ _
theorem Nz.item (n : Nat) (ts : List TK) : Nz (itemT M L n ts) (n ≤ M) := by
  unfold itemT
  refine Nz.bind ?_ fun h r1 => (Nz.want _ _).bind fun _ r2 => (((allNz M L n).expr 0 _).mono (by omega)).bind fun b r3 => (Nz.want _ _).bind fun _ r4 => ?_
  · unfold headT
    split
    · exact (Nz.name _).bind fun t r2 => (Nz.want _ _).bind fun _ r3 => (Nz.qual n [] _).bind fun l r4 => (Nz.want _ _).bind fun _ r5 => .ok _ _
    · refine Nz.bind (x := match takeT [112, 117, 98] ts with | some r => Rs.ok true r | none => .ok false ts) ?_ fun p r0 => (Nz.want _ _).bind fun _ r1 => (Nz.name _).bind fun t r2 => (Nz.want _ _).bind fun _ r3 => (Nz.pars M L n n [] _).bind fun l r4 => (Nz.want _ _).bind fun _ r5 => (Nz.want _ _).bind fun _ r6 => (Nz.typ M L n _).bind fun y r7 => .ok _ _
      split
      · exact .ok _ _
      · exact .ok _ _
  · split
    · exact .off
    · split
      · exact .ok _ _
      · exact .bad _ _ _ (by simp)
end
theorem parse_err {b : List UInt8} {x y e : Nat} (h : parseF b = .err x y e) (ho : (tksF b).2.2 = 0 → itemT 60 (tksF b).1 (fuelF (tksF b).1) (tksF b).1 ≠ .off) : e ≠ 0 := by
  unfold parseF at h
  split at h
  · rename_i h0
    split at h
    · cases h
    · rename_i a b' e' r hi
      cases h
      exact (Nz.item 60 _ _ _ _ _ _ _ hi).1
    · rename_i hi
      exact absurd hi (ho h0)
  · rename_i h0; cases h; exact h0
theorem parse_on (b : List UInt8) (h0 : (tksF b).2.2 = 0) : itemT 60 (tksF b).1 (fuelF (tksF b).1) (tksF b).1 ≠ .off := by
  have he := (toks_good (K := b.length) (b.length + 1) b (by omega) h0).1
  exact (To.item 60 _ he (Nat.le_refl _)).1
theorem parse_err0 {b : List UInt8} {x y e : Nat} (h : parseF b = .err x y e) : e ≠ 0 := parse_err h (parse_on b)
end Go.Proofs.YtmkgmjdbgjiehaaDoor.Ab
namespace Go.Proofs.YtmkgmjdbgjiehaaDoor.Ab
set_option linter.unusedVariables false
def Tq : List TK → List TK → Prop
  | [], [] => True
  | a :: as0, b :: bs => (a.kind = b.kind ∧ a.txt = b.txt) ∧ Tq as0 bs
  | _, _ => False
def Rq {α : Type} (R : α → α → Prop) : Rs α → Rs α → Prop
  | .off, .off => True
  | .bad _ _ e _, .bad _ _ e' _ => e = e'
  | .ok a r, .ok b r' => R a b ∧ Tq r r'
  | _, _ => False
section
variable {α β : Type} {R : α → α → Prop} {R' : β → β → Prop} {ts ts' : List TK}
theorem Rq.bind {x y : Rs α} {f g : α → List TK → Rs β} (h : Rq R x y) (k : ∀ a b r r', R a b → Tq r r' → Rq R' (f a r) (g b r')) : Rq R' (x.bind f) (y.bind g) := by
  cases x <;> cases y <;> first | exact h.elim | exact k _ _ _ _ h.1 h.2 | exact h
theorem isT_q (h : Tq ts ts') (s : List UInt8) : isT s ts = isT s ts' := by
  cases ts <;> cases ts' <;> first | exact h.elim | rfl | (obtain ⟨⟨h1, h2⟩, _⟩ := h; simp [isT, h1, h2])
theorem takeT_q (h : Tq ts ts') (s : List UInt8) : (takeT s ts = none ∧ takeT s ts' = none) ∨ ∃ r r', takeT s ts = some r ∧ takeT s ts' = some r' ∧ Tq r r' := by
  have hi := isT_q h s
  cases ts <;> cases ts'
  · exact .inl ⟨rfl, rfl⟩
  · exact h.elim
  · exact h.elim
  · rename_i t r t' r'
    show ((if isT s (t :: r) = true then some r else none) = none ∧ (if isT s (t' :: r') = true then some r' else none) = none) ∨ ∃ u u', (if isT s (t :: r) = true then some r else none) = some u ∧ (if isT s (t' :: r') = true then some r' else none) = some u' ∧ Tq u u'
    rw [← hi]
    by_cases hs : isT s (t :: r) = true
    · rw [if_pos hs, if_pos hs]; exact .inr ⟨r, r', rfl, rfl, h.2⟩
    · rw [if_neg hs, if_neg hs]; exact .inl ⟨rfl, rfl⟩
theorem Rq.off : Rq R (.off : Rs α) .off := trivial
theorem Rq.ok {a b : α} {r r' : List TK} (h : R a b) (k : Tq r r') : Rq R (.ok a r) (.ok b r') := ⟨h, k⟩
theorem Rq.bad (a b a' b' : Nat) {e : Nat} (r r' : List TK) : Rq R (.bad a b e r) (.bad a' b' e r') := rfl
theorem Rq.miss (h : Tq ts ts') : Rq R (missT ts) (missT ts') := by
  cases ts <;> cases ts' <;> first | exact h.elim | trivial | (obtain ⟨⟨h1, h2⟩, _⟩ := h; simp [missT, Rq, h1])
theorem Rq.need (h : Tq ts ts') {x y : Rs α} (k : Rq R x y) : Rq R (needT ts x) (needT ts' y) := by
  cases ts <;> cases ts' <;> first | exact h.elim | trivial | exact k
theorem Rq.take {s : List UInt8} (h : Tq ts ts') {f g : List TK → Rs α} {x y : Rs α} (k : ∀ r r', Tq r r' → Rq R (f r) (g r')) (k2 : Rq R x y) : Rq R (match takeT s ts with | some r => f r | none => x) (match takeT s ts' with | some r => g r | none => y) := by
  rcases takeT_q h s with ⟨h1, h2⟩ | ⟨r, r', h1, h2, hq⟩
  · rw [h1, h2]; exact k2
  · rw [h1, h2]; exact k r r' hq
theorem Rq.want (h : Tq ts ts') (s : List UInt8) : Rq (fun _ _ => True) (wantT s ts) (wantT s ts') := by
  unfold wantT
  exact .take h (fun r r' hq => ⟨trivial, hq⟩) (.miss h)
theorem Rq.name (h : Tq ts ts') : Rq (fun a b : TK => a.txt = b.txt) (nameT ts) (nameT ts') := by
  cases ts <;> cases ts'
  · trivial
  · exact h.elim
  · exact h.elim
  · have h' := h
    obtain ⟨⟨h1, h2⟩, h3⟩ := h
    simp only [nameT, ← h1]
    split
    · exact ⟨h2, h3⟩
    · exact .miss h'
theorem Rq.places (h : Tq ts ts') : Rq (fun a b : Nat => a = b) (placesT ts) (placesT ts') := by
  cases ts <;> cases ts'
  · trivial
  · exact h.elim
  · exact h.elim
  · have h' := h
    obtain ⟨⟨h1, h2⟩, h3⟩ := h
    simp only [placesT, ← h1, ← h2]
    split
    · split
      · exact ⟨rfl, h3⟩
      · rfl
    · exact .miss h'
theorem Rq.mono {R2 : α → α → Prop} {x y : Rs α} (h : Rq R x y) (k : ∀ a b, R a b → R2 a b) : Rq R2 x y := by
  cases x <;> cases y <;> first | exact h.elim | exact ⟨k _ _ h.1, h.2⟩ | exact h
end
def Eq2 (a b : Ex) : Prop := er a = er b
def Eq2s (a b : List Ex) : Prop := a.map er = b.map er
theorem er_q {k m : Nat} {nm nm' : List UInt8} {l l' : List Ex} {a b a' b' : Nat} (hn : nm = nm') (h : Eq2s l l') : Eq2 (.mk k nm m l a b) (.mk k nm' m l' a' b') := by
  subst hn; unfold Eq2; rw [er_mk, er_mk, h]
theorem e1 {a a' : Ex} (h : Eq2 a a') : Eq2s [a] [a'] := by unfold Eq2s; simp only [List.map_cons, List.map_nil]; rw [h]
theorem e2 {a a' b b' : Ex} (h : Eq2 a a') (h2 : Eq2 b b') : Eq2s [a, b] [a', b'] := by unfold Eq2s; simp only [List.map_cons, List.map_nil]; rw [h, h2]
theorem e3 {a a' b b' c c' : Ex} (h : Eq2 a a') (h2 : Eq2 b b') (h3 : Eq2 c c') : Eq2s [a, b, c] [a', b', c'] := by unfold Eq2s; simp only [List.map_cons, List.map_nil]; rw [h, h2, h3]
theorem Eq2s.len {a b : List Ex} (h : Eq2s a b) : a.length = b.length := by have := congrArg List.length h; simpa using this
section
variable (M : Nat) (L L' : List TK)
structure AllRq (n : Nat) : Prop where
  expr : ∀ d ts ts', Tq ts ts' → Rq Eq2 (exprT M L n d ts) (exprT M L' n d ts')
  row : ∀ lv d ts ts', Tq ts ts' → Rq Eq2 (rowT M L n lv d ts) (rowT M L' n lv d ts')
  loop : ∀ lv d fr fr' a a' ts ts', Tq ts ts' → Eq2 a a' → Rq Eq2 (loopT M L n lv d fr a ts) (loopT M L' n lv d fr' a' ts')
  unary : ∀ d ts ts', Tq ts ts' → Rq Eq2 (unaryT M L n d ts) (unaryT M L' n d ts')
  atom : ∀ d ts ts', Tq ts ts' → Rq Eq2 (atomT M L n d ts) (atomT M L' n d ts')
  arr : ∀ d fr fr' ts ts', Tq ts ts' → Rq Eq2 (arrT M L n d fr ts) (arrT M L' n d fr' ts')
  args : ∀ c d ts ts', Tq ts ts' → Rq Eq2s (argsT M L n c d ts) (argsT M L' n c d ts')
  arg : ∀ c d acc acc' ts ts', Tq ts ts' → Eq2s acc acc' → Rq Eq2s (argT M L n c d acc ts) (argT M L' n c d acc' ts')
theorem allRq : ∀ n, AllRq M L L' n
  | 0 => ⟨fun _ _ _ _ => by unfold exprT; trivial, fun _ _ _ _ _ => by unfold rowT; trivial, fun _ _ _ _ _ _ _ _ _ _ => by unfold loopT; trivial, fun _ _ _ _ => by unfold unaryT; trivial, fun _ _ _ _ => by unfold atomT; trivial, fun _ _ _ _ _ _ => by unfold arrT; trivial, fun _ _ _ _ _ => by unfold argsT; trivial, fun _ _ _ _ _ _ _ _ => by unfold argT; trivial⟩
  | n + 1 => by
    have ih := allRq n
    constructor
    · intro d ts ts' h
      unfold exprT
      cases ts <;> cases ts'
      · trivial
      · exact h.elim
      · exact h.elim
      · simp only
        split
        · rfl
        · refine .take h (fun r r' hq => ?_) (.take h (fun r r' hq => ?_) (.take h (fun r r' hq => ?_) (ih.row _ _ _ _ h)))
          · exact (Rq.name hq).bind fun nm nm' r2 r2' hn q2 => (Rq.want q2 _).bind fun _ _ r3 r3' _ q3 => (ih.expr _ _ _ q3).bind fun a a' r4 r4' ha q4 => (Rq.want q4 _).bind fun _ _ r5 r5' _ q5 => (ih.expr _ _ _ q5).bind fun b b' r6 r6' hb q6 => .ok (er_q hn (e2 ha hb)) q6
          · exact (ih.expr _ _ _ hq).bind fun a a' r4 r4' ha q4 => (Rq.want q4 _).bind fun _ _ r5 r5' _ q5 => (ih.expr _ _ _ q5).bind fun b b' r6 r6' hb q6 => (Rq.want q6 _).bind fun _ _ r7 r7' _ q7 => (ih.expr _ _ _ q7).bind fun c c' r8 r8' hc q8 => .ok (er_q rfl (e3 ha hb hc)) q8
          · exact (ih.expr _ _ _ hq).bind fun a a' r4 r4' ha q4 => (Rq.want q4 _).bind fun _ _ r5 r5' _ q5 => (ih.expr _ _ _ q5).bind fun b b' r6 r6' hb q6 => .ok (er_q rfl (e2 ha hb)) q6
    · intro lv d ts ts' h
      unfold rowT
      split
      · exact ih.unary _ _ _ h
      · cases ts <;> cases ts'
        · trivial
        · exact h.elim
        · exact h.elim
        · exact (ih.row _ _ _ _ h).bind fun a a' r r' ha hq => ih.loop _ _ _ _ _ _ _ _ hq ha
    · intro lv d fr fr' a a' ts ts' h ha
      unfold loopT
      cases ts <;> cases ts'
      · trivial
      · exact h.elim
      · exact h.elim
      · rename_i t r t' r'
        have hl : levelT lv t' = levelT lv t := by unfold levelT; rw [← h.1.1, ← h.1.2]
        simp only [hl]
        split
        · exact .ok ha h
        · refine (ih.row _ _ _ _ h.2).bind fun b b' r2 r2' hb q2 => ?_
          split
          · exact .ok (er_q rfl (e2 ha hb)) q2
          · exact ih.loop _ _ _ _ _ _ _ _ q2 (er_q rfl (e2 ha hb))
    · intro d ts ts' h
      unfold unaryT
      cases ts <;> cases ts'
      · trivial
      · exact h.elim
      · exact h.elim
      · simp only
        split
        · rfl
        · refine .take h (fun r r' hq => ?_) (.take h (fun r r' hq => ?_) (ih.atom _ _ _ h))
          · exact (ih.unary _ _ _ hq).bind fun a a' r4 r4' ha q4 => .ok (er_q rfl (e1 ha)) q4
          · exact (ih.unary _ _ _ hq).bind fun a a' r4 r4' ha q4 => .ok (er_q rfl (e1 ha)) q4
    · intro d ts ts' h
      unfold atomT
      cases ts <;> cases ts'
      · trivial
      · exact h.elim
      · exact h.elim
      · rename_i t r t' r'
        simp only [← h.1.1, ← h.1.2, ← isT_q h.2]
        split
        · split
          · exact .ok (er_q rfl rfl) h.2
          · rfl
        · split
          · refine Rq.need h.2 ?_
            split
            · exact (ih.args _ _ _ _ h.2).bind fun l l' r2 r2' hl q2 => .ok (er_q rfl hl) q2
            · exact .ok (er_q rfl rfl) h.2
          · refine .take h (fun r r' hq => .ok (er_q rfl rfl) hq) (.take h (fun r r' hq => .ok (er_q rfl rfl) hq) (.take h (fun r r' hq => .ok (er_q rfl rfl) hq) (.take h (fun r r' hq => ?_) (ih.arr _ _ _ _ _ h))))
            exact (ih.expr _ _ _ hq).bind fun a a' r4 r4' ha q4 => (Rq.want q4 _).bind fun _ _ r5 r5' _ q5 => .ok ha q5
    · intro d fr fr' ts ts' h
      unfold arrT
      refine .take h (fun r r' hq => ?_) (.take h (fun r r' hq => ?_) (.take h (fun r r' hq => ?_) (.take h (fun r r' hq => ?_) (.miss h))))
      · exact (ih.args _ _ _ _ hq).bind fun l l' r2 r2' hl q2 => .ok (er_q rfl hl) q2
      · exact (ih.args _ _ _ _ hq).bind fun l l' r2 r2' hl q2 => .ok (er_q rfl hl) q2
      · exact (ih.args _ _ _ _ hq).bind fun l l' r2 r2' hl q2 => .ok (er_q rfl hl) q2
      · exact (Rq.want hq _).bind fun _ _ r2 r2' _ q2 => (Rq.places q2).bind fun k k' r3 r3' hk q3 => (Rq.want q3 _).bind fun _ _ r4 r4' _ q4 => (ih.expr _ _ _ q4).bind fun a a' r5 r5' ha q5 => (Rq.want q5 _).bind fun _ _ r6 r6' _ q6 => .ok (by subst hk; exact er_q rfl (e1 ha)) q6
    · intro c d ts ts' h
      unfold argsT
      refine (Rq.want h _).bind fun _ _ r1 r1' _ q1 => (ih.arg _ _ _ _ _ _ q1 rfl).bind fun l l' r2 r2' hl q2 => ?_
      have hlen := Eq2s.len hl
      have hmm : (manyT c l = none ↔ manyT c l' = none) := by
        cases c with
        | none => simp [manyT]
        | some k => simp only [manyT, List.getElem?_eq_none_iff]; omega
      cases h1 : manyT c l <;> cases h2 : manyT c l'
      · exact (Rq.want q2 _).bind fun _ _ r3 r3' _ q3 => .ok hl q3
      · rw [h1, h2] at hmm; simp at hmm
      · rw [h1, h2] at hmm; simp at hmm
      · rfl
    · intro c d acc acc' ts ts' h ha
      have hlen := Eq2s.len ha
      unfold argT
      rw [isT_q h, hlen]
      split
      · refine Rq.bind (R := fun _ _ => True) (x := if acc = [] then .ok () ts else wantT [44] ts) (y := if acc' = [] then .ok () ts' else wantT [44] ts') ?_ fun _ _ r1 r1' _ q1 => (ih.expr _ _ _ q1).bind fun e e' r2 r2' he q2 => ?_
        · have : acc = [] ↔ acc' = [] := by rw [← List.length_eq_zero_iff, ← List.length_eq_zero_iff, hlen]
          by_cases h0 : acc = []
          · rw [if_pos h0, if_pos (this.1 h0)]; exact .ok trivial h
          · rw [if_neg h0, if_neg fun k => h0 (this.2 k)]; exact .want h _
        · split
          · rfl
          · exact ih.arg _ _ _ _ _ _ q2 (by unfold Eq2s at ha ⊢; rw [List.map_append, List.map_append, ha]; simp only [List.map_cons, List.map_nil]; rw [he])
      · exact .ok ha h
theorem Rq.typ {n : Nat} {ts ts' : List TK} (h : Tq ts ts') : Rq (fun a b => erT a = erT b) (typT M L n ts) (typT M L' n ts') := by
  cases ts <;> cases ts'
  · trivial
  · exact h.elim
  · exact h.elim
  · unfold typT
    refine Rq.bind (R := fun a b => a = b) ?_ fun b b' r2 r2' hb q2 => Rq.need q2 (.take q2 (fun r r' hq => ?_) ?_)
    · refine .take h (fun r r' hq => .ok rfl hq) (.take h (fun r r' hq => .ok rfl hq) (.take h (fun r r' hq => ?_) (.miss h)))
      exact (Rq.places hq).bind fun k k' r3 r3' hk q3 => .ok (by rw [hk]) q3
    · subst hb
      exact ((allRq M L L' n).expr _ _ _ hq).bind fun e e' r4 r4' he q4 => (Rq.want q4 _).bind fun _ _ r5 r5' _ q5 => .ok (by simp only [erT, Option.map_some]; rw [he]) q5
    · subst hb; exact .ok rfl q2
def EqPs (a b : List Pm) : Prop := a.map erP = b.map erP
theorem EqPs.len {a b : List Pm} (h : EqPs a b) : a.length = b.length := by have := congrArg List.length h; simpa using this
theorem EqPs.add {a b : List Pm} {m m' : Pm} (h : EqPs a b) (hm : erP m = erP m') : EqPs (a ++ [m]) (b ++ [m']) := by unfold EqPs at h ⊢; rw [List.map_append, List.map_append, h]; simp only [List.map_cons, List.map_nil]; rw [hm]
theorem Rq.qual : ∀ (n : Nat) (acc acc' : List Pm) (ts ts' : List TK), Tq ts ts' → EqPs acc acc' → Rq EqPs (qualT n acc ts) (qualT n acc' ts')
  | 0, acc, acc', ts, ts', h, ha => trivial
  | n + 1, acc, acc', ts, ts', h, ha => by
    unfold qualT
    refine (Rq.name h).bind fun x x' r1 r1' hx q1 => ?_
    rw [ha.len]
    split
    · rfl
    · have hm : EqPs (acc ++ [⟨x.txt, ⟨1, 0, none, x.fr, x.to⟩, x.fr, x.to⟩]) (acc' ++ [⟨x'.txt, ⟨1, 0, none, x'.fr, x'.to⟩, x'.fr, x'.to⟩]) := ha.add (by simp only [erP, erT]; rw [hx])
      exact Rq.need q1 (.take q1 (fun r r' hq => Rq.qual n _ _ _ _ hq hm) (.ok hm q1))
theorem Rq.pars (m : Nat) : ∀ (n : Nat) (acc acc' : List Pm) (ts ts' : List TK), Tq ts ts' → EqPs acc acc' → Rq EqPs (parsT M L m n acc ts) (parsT M L' m n acc' ts')
  | 0, acc, acc', ts, ts', h, ha => trivial
  | n + 1, acc, acc', ts, ts', h, ha => by
    have hlen := ha.len
    unfold parsT
    rw [isT_q h]
    split
    · exact .ok ha h
    · refine Rq.bind (R := fun _ _ => True) (x := if acc = [] then .ok () ts else wantT [44] ts) (y := if acc' = [] then .ok () ts' else wantT [44] ts') ?_ fun _ _ r1 r1' _ q1 => (Rq.name q1).bind fun x x' r2 r2' hx q2 => (Rq.want q2 _).bind fun _ _ r3 r3' _ q3 => (Rq.typ M L L' q3).bind fun y y' r4 r4' hy q4 => ?_
      · have : acc = [] ↔ acc' = [] := by rw [← List.length_eq_zero_iff, ← List.length_eq_zero_iff, hlen]
        by_cases h0 : acc = []
        · rw [if_pos h0, if_pos (this.1 h0)]; exact .ok trivial h
        · rw [if_neg h0, if_neg fun k => h0 (this.2 k)]; exact .want h _
      · rw [hlen]
        split
        · rfl
        · exact Rq.pars m n _ _ _ _ q4 (ha.add (by simp only [erP]; rw [hx, hy]))
theorem Rq.item {n : Nat} {ts ts' : List TK} (h : Tq ts ts') : Rq (fun a b => erI a = erI b) (itemT M L n ts) (itemT M L' n ts') := by
  unfold itemT
  refine Rq.bind (R := fun a b : Hd => a.kind = b.kind ∧ a.pub = b.pub ∧ a.nm.txt = b.nm.txt ∧ EqPs a.params b.params ∧ erT a.result = erT b.result) ?_ fun hd hd' r1 r1' hh q1 => (Rq.want q1 _).bind fun _ _ r2 r2' _ q2 => ((allRq M L L' n).expr _ _ _ q2).bind fun b b' r3 r3' hb q3 => (Rq.want q3 _).bind fun _ _ r4 r4' _ q4 => ?_
  · unfold headT
    refine .take h (fun r r' hq => ?_) ?_
    · exact (Rq.name hq).bind fun t t' r2 r2' ht q2 => (Rq.want q2 _).bind fun _ _ r3 r3' _ q3 => (Rq.qual n [] [] _ _ q3 rfl).bind fun l l' r4 r4' hl q4 => (Rq.want q4 _).bind fun _ _ r5 r5' _ q5 => .ok ⟨rfl, rfl, ht, hl, rfl⟩ q5
    · refine Rq.bind (R := fun a b : Bool => a = b) (.take h (fun r r' hq => .ok rfl hq) (.ok rfl h)) fun p p' r0 r0' hp q0 => (Rq.want q0 _).bind fun _ _ r1 r1' _ q1 => (Rq.name q1).bind fun t t' r2 r2' ht q2 => (Rq.want q2 _).bind fun _ _ r3 r3' _ q3 => (Rq.pars M L L' n n [] [] _ _ q3 rfl).bind fun l l' r4 r4' hl q4 => (Rq.want q4 _).bind fun _ _ r5 r5' _ q5 => (Rq.want q5 _).bind fun _ _ r6 r6' _ q6 => (Rq.typ M L L' q6).bind fun y y' r7 r7' hy q7 => .ok ⟨rfl, hp, ht, hl, hy⟩ q7
  · cases r4 <;> cases r4'
    · trivial
    · exact q4.elim
    · exact q4.elim
    · simp only [← q4.1.1]
      split
      · obtain ⟨h1, h2, h3, h4, h5⟩ := hh
        exact .ok (by simp only [erI]; rw [h1, h2, h3, h5, show List.map erP hd.params = List.map erP hd'.params from h4, show er b = er b' from hb]) q4
      · rfl
end
theorem tkG_tq (K K' : Nat) : ∀ (ps : List Pc) (gs gs' : List (List UInt8)), Fill ps gs → Fill ps gs' → Tq (tkG K ps gs) (tkG K' ps gs')
  | [], gs, gs', _, _ => by
    have e : ∀ K gs, tkG K [] gs = [⟨0, [], K⟩] := fun K gs => by cases gs <;> rfl
    rw [e, e]; exact ⟨⟨rfl, rfl⟩, trivial⟩
  | p :: ps, [], _, h, _ => h.elim
  | p :: ps, _ :: _, [], _, h => h.elim
  | p :: ps, g :: gs, g' :: gs', h, h' => ⟨⟨rfl, rfl⟩, tkG_tq K K' ps gs gs' h.2 h'.2⟩
theorem tq_len : ∀ {a b : List TK}, Tq a b → a.length = b.length
  | [], [], _ => rfl
  | [], _ :: _, h => h.elim
  | _ :: _, [], h => h.elim
  | a :: as0, b :: bs, h => by simp [tq_len h.2]
theorem parse_like {it : It} (h : okI it) {gs gs' : List (List UInt8)} (hf : Fill (itP it) gs) (hf' : Fill (itP it) gs') :
    (∃ x y, parseF (txtG (itP it) gs) = .good x ∧ parseF (txtG (itP it) gs') = .good y ∧ erI x = erI y) ∨ ∃ a b a' b' e, parseF (txtG (itP it) gs) = .err a b e ∧ parseF (txtG (itP it) gs') = .err a' b' e := by
  have hch := ch_item h (rest := []) trivial
  rw [List.append_nil] at hch
  have ht : ∀ gs, Fill (itP it) gs → tksF (txtG (itP it) gs) = (tkG (txtG (itP it) gs).length (itP it) gs, 0, 0) := fun gs hf => by
    unfold tksF; exact toks_g _ _ _ _ hf ⟨_, hch⟩ (by omega)
  have t1 := ht gs hf
  have t2 := ht gs' hf'
  have tq := tkG_tq (txtG (itP it) gs).length (txtG (itP it) gs').length (itP it) gs gs' hf hf'
  have hlen := tq_len tq
  have o1 := parse_on (txtG (itP it) gs) (by rw [t1])
  have o2 := parse_on (txtG (itP it) gs') (by rw [t2])
  unfold parseF
  rw [t1, if_pos rfl, t2, if_pos rfl]
  rw [t1] at o1
  rw [t2] at o2
  simp only at o1 o2 ⊢
  have hfu : fuelF (tkG (txtG (itP it) gs').length (itP it) gs') = fuelF (tkG (txtG (itP it) gs).length (itP it) gs) := by unfold fuelF; rw [hlen]
  rw [hfu] at o2 ⊢
  have hr := Rq.item 60 (tkG (txtG (itP it) gs).length (itP it) gs) (tkG (txtG (itP it) gs').length (itP it) gs') (n := fuelF (tkG (txtG (itP it) gs).length (itP it) gs)) tq
  cases h1 : itemT 60 (tkG (txtG (itP it) gs).length (itP it) gs) (fuelF (tkG (txtG (itP it) gs).length (itP it) gs)) (tkG (txtG (itP it) gs).length (itP it) gs) <;> cases h2 : itemT 60 (tkG (txtG (itP it) gs').length (itP it) gs') (fuelF (tkG (txtG (itP it) gs).length (itP it) gs)) (tkG (txtG (itP it) gs').length (itP it) gs') <;> rw [h1, h2] at hr
  all_goals first | exact hr.elim | exact absurd h1 o1 | exact absurd h2 o2 | exact .inl ⟨_, _, rfl, rfl, hr.1⟩ | (simp only [Rq] at hr; subst hr; exact .inr ⟨_, _, _, _, _, rfl, rfl⟩)
end Go.Proofs.YtmkgmjdbgjiehaaDoor.Ab
namespace Go.Proofs.YtmkgmjdbgjiehaaDoor.Ab
set_option linter.unusedVariables false
set_option linter.unusedSimpArgs false
def Ns (s : List UInt8) : Prop := (59 : UInt8) ∉ s
theorem Ns.app {a b : List UInt8} (h : Ns a) (k : Ns b) : Ns (a ++ b) := by unfold Ns at *; simp [h, k]
theorem Ns.cons {c : UInt8} {b : List UInt8} (h : c ≠ 59) (k : Ns b) : Ns (c :: b) := by unfold Ns at *; simp [k]; exact fun e => h e.symm
theorem Ns.num (n : Nat) : Ns (numT n) := by
  intro h
  have := List.all_eq_true.1 (numT_ok n).2.2.1 _ h
  simp [digD] at this
theorem Ns.name {s : List UInt8} (h : nameOK s) : Ns s := by
  have hne : s ≠ [] := by rintro rfl; have := h.1; simp [tokF] at this
  obtain ⟨a, t, rfl, hh⟩ := piece_cases h.1 hne
  rcases hh with ⟨_, hw, _⟩ | ⟨_, _, _, _, hk⟩ | ⟨_, _, hk, _⟩
  · intro h
    have := takeWhile_all hw _ h
    simp [goesB, smallB, digitB] at this
  · omega
  · omega
theorem Ns.joinTail {sep : List UInt8} (hs : Ns sep) : ∀ {l : List (List UInt8)}, (∀ s ∈ l, Ns s) → Ns (Lib.joinTail sep l)
  | [], _ => by simp [Ns, Lib.joinTail]
  | x :: l, h => by
    have ih := Ns.joinTail hs (l := l) fun s hs => h s (by simp [hs])
    simp only [Lib.joinTail, List.map_cons, List.flatten_cons] at ih ⊢
    exact (hs.app (h x (by simp))).app ih
theorem Ns.join {sep : List UInt8} (hs : Ns sep) {l : List (List UInt8)} (h : ∀ s ∈ l, Ns s) : Ns (Lib.join l sep) := by
  cases l with
  | nil => rw [Lib.join_nil]; simp [Ns]
  | cons x l => rw [Lib.join_cons]; exact (h x (by simp)).app (Ns.joinTail hs fun s hs => h s (by simp [hs]))
theorem Ns.sh {e : Ex} (h : Ns (ba e)) (least : Nat) : Ns (sh e least) := by
  rw [sh_eq]; split
  · exact .cons (by decide) (h.app (by unfold Ns; decide))
  · exact h
theorem Ns.sep : Ns ([44, 32] : List UInt8) := by unfold Ns; decide
theorem ba_ns : ∀ e : Ex, Okx e → Ns (ba e)
  | .mk k nm m l fr to, he => by
    rw [Okx] at he
    obtain ⟨hk, hl⟩ := he
    have hok := Okxs_mem hl
    have is : ∀ a ∈ l, ∀ least, Ns (sh a least) := fun a ha least => (ba_ns a (hok a ha)).sh least
    have hj : Ns (Lib.join (l.map (sh · 0)) [44, 32]) := .join .sep fun s hs => by
      obtain ⟨x, hx, rfl⟩ := List.mem_map.1 hs
      exact is x hx 0
    have hone : (k = 6 ∨ k = 7 ∨ k = 27) → ∃ x, l = [x] := fun h => List.length_eq_one_iff.1 (by unfold wfK at hk; omega)
    have htwo : (8 ≤ k ∧ k ≤ 20 ∨ k = 21 ∨ k = 23) → ∃ x y, l = [x, y] := fun h => len_two (by unfold wfK at hk; omega)
    have hthree : k = 22 → ∃ x y z, l = [x, y, z] := fun h => len_three (by unfold wfK at hk; omega)
    have hnm : (k = 5 ∨ k = 21) → Ns nm := fun h => .name (by unfold wfK at hk; rcases hk with h' | h' | h' | h' | h' | h' | h' | h' | h' <;> first | exact h'.2.1 | omega)
    by_cases hk2 : 8 ≤ k ∧ k ≤ 20
    · obtain ⟨x, y, rfl⟩ := htwo (.inl hk2)
      have hsg : Ns (signW k) := by
        have : k = 8 ∨ k = 9 ∨ k = 10 ∨ k = 11 ∨ k = 12 ∨ k = 13 ∨ k = 14 ∨ k = 15 ∨ k = 16 ∨ k = 17 ∨ k = 18 ∨ k = 19 ∨ k = 20 := by omega
        rcases this with rfl | rfl | rfl | rfl | rfl | rfl | rfl | rfl | rfl | rfl | rfl | rfl | rfl <;> (unfold Ns; decide)
      rw [ba_2n hk2 (hok x (by simp)) (hok y (by simp))]
      exact ((((is x (by simp) _).app (by unfold Ns; decide)).app hsg).app (by unfold Ns; decide)).app (is y (by simp) _)
    · have hks : k = 1 ∨ k = 2 ∨ k = 3 ∨ k = 4 ∨ k = 5 ∨ k = 6 ∨ k = 7 ∨ k = 21 ∨ k = 22 ∨ k = 23 ∨ k = 24 ∨ k = 25 ∨ k = 26 ∨ k = 27 := by unfold wfK at hk; omega
      rcases hks with rfl | rfl | rfl | rfl | rfl | rfl | rfl | rfl | rfl | rfl | rfl | rfl | rfl | rfl
      · rw [ba_1]; exact .num m
      · rw [ba_2]; unfold Ns; decide
      · rw [ba_3]; unfold Ns; decide
      · rw [ba_4]
        have hn : nm = [118] ∨ nameOK nm := by unfold wfK at hk; rcases hk with h | h | h | h | h | h | h | h | h <;> first | exact h.2.1 | omega
        rcases hn with rfl | hn
        · unfold Ns; decide
        · exact .name hn
      · rw [ba_5 hl]; exact (hnm (by simp)).app (.cons (by decide) (hj.app (by unfold Ns; decide)))
      · obtain ⟨x, rfl⟩ := hone (by simp)
        rw [ba_6 (hok x (by simp))]; exact .cons (by decide) (is x (by simp) _)
      · obtain ⟨x, rfl⟩ := hone (by simp)
        rw [ba_7 (hok x (by simp))]; exact Ns.app (by unfold Ns; decide) (is x (by simp) _)
      · obtain ⟨x, y, rfl⟩ := htwo (by simp)
        rw [ba_21 (hok x (by simp)) (hok y (by simp))]
        exact ((((Ns.app (by unfold Ns; decide) (hnm (by simp))).app (by unfold Ns; decide)).app (is x (by simp) _)).app (by unfold Ns; decide)).app (is y (by simp) _)
      · obtain ⟨x, y, z, rfl⟩ := hthree rfl
        rw [ba_22 (hok x (by simp)) (hok y (by simp)) (hok z (by simp))]
        exact ((((Ns.app (by unfold Ns; decide) (is x (by simp) _)).app (by unfold Ns; decide)).app (is y (by simp) _)).app (by unfold Ns; decide)).app (is z (by simp) _)
      · obtain ⟨x, y, rfl⟩ := htwo (by simp)
        rw [ba_23 (hok x (by simp)) (hok y (by simp))]
        exact ((Ns.app (by unfold Ns; decide) (is x (by simp) _)).app (by unfold Ns; decide)).app (is y (by simp) _)
      · rw [ba_24 hl]; exact Ns.app (by unfold Ns; decide) (hj.app (by unfold Ns; decide))
      · rw [ba_25 hl]; exact Ns.app (by unfold Ns; decide) (hj.app (by unfold Ns; decide))
      · rw [ba_26 hl]; exact Ns.app (by unfold Ns; decide) (hj.app (by unfold Ns; decide))
      · obtain ⟨x, rfl⟩ := hone (by simp)
        rw [ba_27 (hok x (by simp))]
        exact (((Ns.app (by unfold Ns; decide) (.num m)).app (by unfold Ns; decide)).app (is x (by simp) _)).app (by unfold Ns; decide)
theorem tyS_ns {t : Ty} (h : okT t) : Ns (tyS t) := by
  obtain ⟨base, len, pred, fr, to⟩ := t
  obtain ⟨hb, hp⟩ := h
  simp only at hb hp
  have hbs : base = 1 ∨ base = 2 ∨ base = 3 := by omega
  have h1 : Ns (baS ⟨base, len, pred, fr, to⟩) := by
    unfold baS
    rcases hbs with rfl | rfl | rfl
    · show Ns [105, 110, 116]; unfold Ns; decide
    · show Ns [98, 111, 111, 108]; unfold Ns; decide
    · exact Ns.app (by unfold Ns; decide) (.num len)
  have h2 : Ns (prS pred) := by
    cases pred with
    | none => show Ns []; unfold Ns; decide
    | some e => exact .cons (by decide) (((ba_ns e (hp e rfl)).sh 0).app (by unfold Ns; decide))
  exact h1.app h2
theorem pmS_ns {kind : Nat} {m : Pm} (hn : nameOK m.name) (h : kind ≠ 2 → okT m.ty) : Ns (pmS kind m) := by
  unfold pmS
  split
  · exact .name hn
  · rename_i k; exact ((Ns.name hn).app (by unfold Ns; decide)).app (tyS_ns (h k))
def itF (it : It) : List UInt8 := heS it ++ [32, 61, 32] ++ sh it.body 0
theorem itS_f (it : It) : itS it = itF it ++ [59] := rfl
theorem itF_ns {it : It} (h : okI it) : Ns (itF it) := by
  obtain ⟨h1, h2, h3⟩ := h
  refine Ns.app (Ns.app ?_ (by unfold Ns; decide)) ((ba_ns _ h2).sh 0)
  have n1 := Ns.name h1
  unfold heS
  rcases h3 with ⟨k, _, h5, h6⟩ | ⟨k, _, _, _, h5, h6⟩
  · rw [if_pos k]
    have e1 : Ns (Lib.join (it.params.map (pmS 1)) [44, 32]) := .join .sep fun s hs => by
      obtain ⟨m, hm, rfl⟩ := List.mem_map.1 hs
      exact pmS_ns (h5 m hm).1 fun _ => (h5 m hm).2
    have e2 := tyS_ns h6
    have e3 : Ns (if it.pub = true then [112, 117, 98, 32] else []) := by split <;> (unfold Ns; decide)
    exact e3.app (((((Ns.app (by unfold Ns; decide) n1).app (by unfold Ns; decide)).app e1).app (by unfold Ns; decide)).app e2)
  · rw [if_neg (by omega)]
    have e1 : Ns (Lib.join (it.params.map (pmS 2)) [44, 32]) := .join .sep fun s hs => by
      obtain ⟨m, hm, rfl⟩ := List.mem_map.1 hs
      exact pmS_ns (h5 m hm).1 fun k => absurd rfl k
    exact (((Ns.app (by unfold Ns; decide) n1).app (by unfold Ns; decide)).app e1).app (by unfold Ns; decide)
theorem toks_bytes (K : Nat) : ∀ (n : Nat) (s : List UInt8), ∀ t ∈ (toksF K n s).1, ∀ c ∈ t.txt, c ∈ s
  | 0, s, t, ht => by simp [toksF] at ht
  | n + 1, s, t, ht => by
    unfold toksF at ht
    have hsuf := skip_suf s false
    split at ht
    · simp at ht; subst ht; simp
    · rename_i c u hk
      rw [hk] at hsuf
      split at ht
      · rename_i h1
        obtain ⟨l1, l2, l3⟩ := tok_len h1
        split at ht
        · rcases List.mem_cons.1 ht with rfl | ht
          · intro x hx
            simp only at hx
            rw [l2] at hx
            exact hsuf.subset (List.mem_of_mem_take hx)
          · intro x hx
            exact hsuf.subset (List.mem_of_mem_drop (toks_bytes K n _ t ht x hx))
        · simp at ht
      · simp at ht
theorem bind_inv {α β : Type} {x : Rs α} {f : α → List TK → Rs β} {b : β} {r : List TK} (h : x.bind f = .ok b r) : ∃ a r', x = .ok a r' ∧ f a r' = .ok b r := by
  cases x with
  | ok a r' => exact ⟨a, r', rfl, h⟩
  | bad => simp at h
  | off => simp at h
section
variable (M : Nat) (L : List TK)
theorem Wk.head (n : Nat) (ts : List TK) : Wk ts (headT M L n ts) := by
  unfold headT
  split
  · rename_i h
    exact (Sh.take h ((Sh.name _).wk.bind fun _ _ _ => (Sh.want _ _).wk.bind fun _ _ _ => (Sh.qual n _ _).wk.bind fun _ _ _ => (Sh.want _ _).wk.bind fun _ _ _ => Wk.ok _ _)).wk
  · refine Wk.bind (x := match takeT [112, 117, 98] ts with | some r => Rs.ok true r | none => .ok false ts) ?_ fun _ _ _ => (Sh.want _ _).wk.bind fun _ _ _ => (Sh.name _).wk.bind fun _ _ _ => (Sh.want _ _).wk.bind fun _ _ _ => (Wk.pars M L _ _ _ _).bind fun _ _ _ => (Sh.want _ _).wk.bind fun _ _ _ => (Sh.want _ _).wk.bind fun _ _ _ => (Sh.typ M L _ _).wk.bind fun _ _ _ => Wk.ok _ _
    split
    · rename_i h; exact (Sh.take h (Wk.ok _ _)).wk
    · exact .ok _ _
theorem item_semi {n : Nat} {ts r : List TK} {it : It} (h : itemT M L n ts = .ok it r) : ∃ t ∈ ts, t.txt = [59] := by
  unfold itemT at h
  obtain ⟨hd, r1, h1, h⟩ := bind_inv h
  obtain ⟨_, r2, h2, h⟩ := bind_inv h
  obtain ⟨b, r3, h3, h⟩ := bind_inv h
  obtain ⟨_, r4, h4, h⟩ := bind_inv h
  have s1 := Wk.head M L n ts _ _ h1
  have s2 := (Sh.want _ _ _ _ h2).1
  have s3 := ((allSh M L n).expr _ _ _ _ h3).1
  have hs := (s3.trans s2).trans s1
  cases r3 with
  | nil => simp [wantT, takeT, missT] at h4
  | cons t u =>
    refine ⟨t, hs.subset (by simp), ?_⟩
    have h5 : (match (if isT [59] (t :: u) = true then some u else none) with | some r => Rs.ok () r | none => missT (t :: u)) = Rs.ok () r4 := h4
    by_cases hi : isT [59] (t :: u) = true
    · simp only [isT, Bool.and_eq_true, beq_iff_eq] at hi; exact hi.2
    · rw [if_neg hi] at h5; simp [missT] at h5
end
theorem parse_front {it : It} (h : okI it) {n : Nat} (hn : n < (itS it).length) : ∃ a b e, parseF ((itS it).take n) = .err a b e ∧ e ≠ 0 := by
  cases hp : parseF ((itS it).take n) with
  | err a b e => exact ⟨a, b, e, rfl, parse_err0 hp⟩
  | good x =>
    exfalso
    unfold parseF at hp
    split at hp
    · split at hp
      · rename_i it' r hi
        obtain ⟨t, ht, h59⟩ := item_semi _ _ hi
        have hb := toks_bytes _ _ _ t ht 59 (by rw [h59]; simp)
        have hns := itF_ns h
        rw [itS_f, List.length_append] at hn
        rw [itS_f, List.take_append_of_le_length (by simp at hn; omega)] at hb
        exact hns (List.mem_of_mem_take hb)
      · simp at hp
      · simp at hp
    · simp at hp
theorem tkG_last (K : Nat) (x : Pc) (g : List UInt8) : ∀ (ps : List Pc) (gs : List (List UInt8)), Fill ps gs → ∃ us, tkG K (ps ++ [x]) (gs ++ [g]) = us ++ [⟨x.k, x.s, K - x.s.length⟩, ⟨0, [], K⟩] ∧ Mt ps us
  | [], [], _ => ⟨[], by simp [tkG, txtG], trivial⟩
  | [], _ :: _, h => h.elim
  | p :: ps, [], h => h.elim
  | p :: ps, g' :: gs, h => by
    obtain ⟨us, h1, h2⟩ := tkG_last K x g ps gs h.2
    exact ⟨_ :: us, by rw [List.cons_append, List.cons_append, tkG, h1]; rfl, ⟨rfl, rfl⟩, h2⟩
theorem fill_app : ∀ {ps : List Pc} {gs : List (List UInt8)} {x : Pc} {g : List UInt8}, Fill ps gs → (if x.b = true then Gap g else g = []) → Fill (ps ++ [x]) (gs ++ [g])
  | [], [], x, g, _, h => ⟨h, trivial⟩
  | [], _ :: _, _, _, h, _ => h.elim
  | _ :: _, [], _, _, h, _ => h.elim
  | p :: ps, g' :: gs, x, g, h, k => ⟨h.1, fill_app h.2 k⟩
theorem txtG_app : ∀ {ps : List Pc} {gs : List (List UInt8)} {x : Pc} {g : List UInt8}, Fill ps gs → txtG (ps ++ [x]) (gs ++ [g]) = txtG ps gs ++ (g ++ x.s)
  | [], [], x, g, _ => by simp [txtG]
  | [], _ :: _, _, _, h => h.elim
  | _ :: _, [], _, _, h => h.elim
  | p :: ps, g' :: gs, x, g, h => by
    have := txtG_app (x := x) (g := g) h.2
    simp only [List.cons_append, txtG, this, List.append_assoc]
theorem parse_more {it : It} (h : okI it) : parseF (itS it ++ [32, 120]) = .err ((itS it).length + 1) ((itS it).length + 2) 12 ∨ ∃ a b, parseF (itS it ++ [32, 120]) = .err a b 13 := by
  have hx : pieceOK ⟨1, [120], true⟩ := pcok (by decide)
  have hch := ch_item h (rest := [⟨1, [120], true⟩]) (.cons (.blank rfl) hx trivial)
  have hf : Fill (itP it ++ [⟨1, [120], true⟩]) (onesG (itP it) ++ [[32]]) := fill_app (ones_fill _) (by rw [if_pos rfl]; exact gap_one)
  have htx : txtG (itP it ++ [⟨1, [120], true⟩]) (onesG (itP it) ++ [[32]]) = itS it ++ [32, 120] := by rw [txtG_app (ones_fill _), ones_txt, itP_txt h]; rfl
  obtain ⟨b, hb⟩ : ∃ b, b = itS it ++ [32, 120] := ⟨_, rfl⟩
  rw [← hb] at htx ⊢
  have hlen : b.length = (itS it).length + 2 := by rw [hb]; simp
  have ht : tksF b = (tkG b.length (itP it ++ [⟨1, [120], true⟩]) (onesG (itP it) ++ [[32]]), 0, 0) := by
    have := toks_g b.length _ _ (b.length + 1) hf ⟨_, hch⟩ (by rw [htx]; omega)
    rw [htx] at this
    exact this
  obtain ⟨us, hu, hm⟩ := tkG_last b.length ⟨1, [120], true⟩ [32] (itP it) (onesG (itP it)) (ones_fill _)
  have ho := parse_on b (by rw [ht])
  unfold parseF
  rw [ht] at ho ⊢
  rw [if_pos rfl]
  simp only at ho ⊢
  rw [hu] at ho ⊢
  generalize fuelF (us ++ [⟨1, [120], b.length - 1⟩, ⟨0, [], b.length⟩]) = n at ho ⊢
  rcases item_ok (M := 60) (L := us ++ [⟨1, [120], b.length - 1⟩, ⟨0, [], b.length⟩]) (n := n) h (rest := [⟨1, [120], b.length - 1⟩, ⟨0, [], b.length⟩]) hm with hi | ⟨x, y, r, hi⟩ | ⟨it', he, hi⟩
  · exact absurd hi ho
  · right; exact ⟨x, y, by simp only [List.length_cons, List.length_nil] at hi ⊢; rw [hi]⟩
  · left
    simp only [List.length_cons, List.length_nil] at hi ⊢
    rw [hi]
    simp [tailR, TK.to, hlen]
end Go.Proofs.YtmkgmjdbgjiehaaDoor.Ab
namespace Go.Proofs.YtmkgmjdbgjiehaaDoor.Ab
set_option linter.unusedVariables false
def tx1 : List UInt8 := [102, 110, 32, 102, 40, 120, 58, 32, 105, 110, 116, 123, 118, 32, 62, 32, 48, 125, 41, 32, 45, 62, 32, 105, 110, 116, 32, 61, 32, 120, 43, 49, 42, 50, 59]
def tx2 : List UInt8 := [102, 110, 32, 102, 40, 41, 32, 45, 62, 32, 105, 110, 116, 32, 61, 32, 49]
def tx3 : List UInt8 := [102, 110, 32, 102, 40, 120, 58, 32, 105, 110, 116, 123, 118, 32, 62, 32, 48, 125, 41, 32, 45, 62, 32, 105, 110, 116, 32, 61, 32, 120, 32, 43, 32, 49, 32, 42, 32, 50, 59]
def it1 : It := ⟨1, false, [102], 3, 4, [⟨[120], ⟨1, 0, some (.mk 17 [] 0 [.mk 4 [118] 0 [] 12 13, .mk 1 [] 0 [] 16 17] 12 17), 8, 18⟩, 5, 6⟩], ⟨1, 0, none, 23, 26⟩, .mk 8 [] 0 [.mk 4 [120] 0 [] 29 30, .mk 10 [] 0 [.mk 1 [] 1 [] 31 32, .mk 1 [] 2 [] 33 34] 31 34] 29 34⟩
theorem parse1 : parseF tx1 = .good it1 := by kernel_rfl
theorem parse2 : parseF tx2 = .err 17 17 11 := by kernel_rfl
theorem print1 : itS it1 = tx3 := by kernel_rfl
theorem toks_gs (K : Nat) : ∀ (n : Nat) (s : List UInt8), s.length < n → Gs (toksF K n s).1
  | 0, s, h => by omega
  | n + 1, s, h => by
    unfold toksF
    have hsuf := (skip_suf s false).length_le
    split
    · intro t ht; simp at ht; subst ht; exact ⟨fun k => by simp at k, fun k => by simp at k⟩
    · rename_i c u hk
      rw [hk] at hsuf
      split
      · rename_i h1
        obtain ⟨l1, l2, l3⟩ := tok_len h1
        have hlen : ((c :: u).drop (tokF (c :: u)).2.1.length).length = (c :: u).length - (tokF (c :: u)).2.1.length := List.length_drop
        split
        · intro t ht
          rcases List.mem_cons.1 ht with rfl | ht
          · refine ⟨fun k => ?_, fun k => ?_⟩
            · simp only at k ⊢
              cases g : smallB c with
              | true =>
                have e := tokF_name (t := u) g
                rw [e] at k h1 ⊢
                split at k
                · simp at k
                · rename_i hl
                  rw [if_neg hl]
                  simp only at k ⊢
                  split at k
                  · simp at k
                  · rename_i hw
                    have hg : goesB c = true := by simp [goesB, g]
                    have hcs : (c :: u).takeWhile goesB = c :: u.takeWhile goesB := List.takeWhile_cons_of_pos hg
                    have htw : ((c :: u).takeWhile goesB).takeWhile goesB = (c :: u).takeWhile goesB := by
                      have : ∀ l : List UInt8, (∀ x ∈ l, goesB x = true) → l.takeWhile goesB = l := fun l hl => by
                        induction l with
                        | nil => rfl
                        | cons a l ih => rw [List.takeWhile_cons_of_pos (hl a (by simp)), ih fun x hx => hl x (by simp [hx])]
                      refine this _ fun x hx => ?_
                      have h' : ∀ (l : List UInt8), ∀ x ∈ l.takeWhile goesB, goesB x = true := fun l => by
                        induction l with
                        | nil => intro x hx; simp at hx
                        | cons a l ih =>
                          intro x hx
                          by_cases ha : goesB a = true
                          · rw [List.takeWhile_cons_of_pos ha] at hx
                            rcases List.mem_cons.1 hx with rfl | hx
                            · exact ha
                            · exact ih x hx
                          · rw [List.takeWhile_cons_of_neg ha] at hx; simp at hx
                      exact h' _ x hx
                    refine ⟨?_, fun e118 => hw (by rw [e118]; decide)⟩
                    rw [hcs] at htw hl hw ⊢
                    rw [tokF_name g, htw, if_neg hl, if_neg hw]
              | false =>
                exfalso
                cases g2 : digitB c with
                | true => rw [tokF_dig g g2] at k; split at k <;> simp at k
                | false => rw [tokF_sign g g2] at k; split at k <;> simp at k
            · simp only at k ⊢
              obtain ⟨m1, m2⟩ := tokF_num h1 k
              have : ∀ (l : List UInt8) (n0 : Nat), l.all digD = true → l.foldl (fun n c => n * 10 + (c.toNat - 48)) n0 < (n0 + 1) * 10 ^ l.length := fun l => by
                induction l with
                | nil => intro n0 _; simp
                | cons a l ih =>
                  intro n0 ha
                  simp only [List.all_cons, Bool.and_eq_true, digD, decide_eq_true_eq] at ha
                  have := ih (n0 * 10 + (a.toNat - 48)) ha.2
                  simp only [List.foldl_cons, List.length_cons]
                  refine Nat.lt_of_lt_of_le this ?_
                  rw [Nat.pow_succ, ← Nat.mul_assoc, Nat.mul_right_comm]
                  exact Nat.mul_le_mul_right _ (by omega)
              have h2 := this (tokF (c :: u)).2.1 0 m1
              simp only [Nat.zero_add, Nat.one_mul] at h2
              exact Nat.lt_of_lt_of_le h2 (Nat.pow_le_pow_right (by decide) m2)
          · exact toks_gs K n _ (by omega) t ht
        · intro t ht; simp at ht
      · intro t ht; simp at ht
theorem parse_ok {b : List UInt8} {it : It} (h : parseF b = .good it) : okI it ∧ ndI it ≤ 2 * b.length + 2 := by
  unfold parseF at h
  split at h
  · rename_i h0
    split at h
    · rename_i it' r hi
      cases h
      have hg : Gs (tksF b).1 := toks_gs b.length (b.length + 1) b (by omega)
      have hl := (toks_good (K := b.length) (b.length + 1) b (by omega) h0).2.2
      have h1 := Wx.item (M := 60) (L := (tksF b).1) hg _ _ hi
      have h2 := Wn.item 60 (tksF b).1 _ _ _ _ hi
      refine ⟨h1, ?_⟩
      have : (tksF b).1.length ≤ b.length + 1 := hl
      omega
    · cases h
    · cases h
  · cases h
end Go.Proofs.YtmkgmjdbgjiehaaDoor.Ab
namespace Go.Proofs.YtmkgmjdbgjiehaaDoor
open Go.Proofs.YtmkgmjdbgjiehaaDoor.Ab
set_option linter.unusedVariables false
set_option linter.unusedSimpArgs false
attribute [local simp] Gr.refl Gr.new Gr.set Gr.kill Nat.add_assoc r_ckk chk_x chk_n
abbrev BB : Int := 4294967296
def lit1 : List (List V) := [[.int .u8 102], [.int .u8 110], [.int .u8 32], [.int .u8 102], [.int .u8 40], [.int .u8 120], [.int .u8 58], [.int .u8 32], [.int .u8 105], [.int .u8 110], [.int .u8 116], [.int .u8 123], [.int .u8 118], [.int .u8 32], [.int .u8 62], [.int .u8 32], [.int .u8 48], [.int .u8 125], [.int .u8 41], [.int .u8 32], [.int .u8 45], [.int .u8 62], [.int .u8 32], [.int .u8 105], [.int .u8 110], [.int .u8 116], [.int .u8 32], [.int .u8 61], [.int .u8 32], [.int .u8 120], [.int .u8 43], [.int .u8 49], [.int .u8 42], [.int .u8 50], [.int .u8 59]]
def lit2 : List (List V) := [[.int .u8 102], [.int .u8 110], [.int .u8 32], [.int .u8 102], [.int .u8 40], [.int .u8 41], [.int .u8 32], [.int .u8 45], [.int .u8 62], [.int .u8 32], [.int .u8 105], [.int .u8 110], [.int .u8 116], [.int .u8 32], [.int .u8 61], [.int .u8 32], [.int .u8 49]]
theorem lit1_is : lit1 = tx1.map byteE := rfl
theorem lit2_is : lit2 = tx2.map byteE := rfl
theorem new_bs {σ : St} {es : List (List V)} {s : List UInt8} (h : es = s.map byteE) {k : Nat} (hk : k = s.length) : Bs (σ.new (.row 1 es)) (.slc σ.n 0 k) s := by
  subst h; subst hk; simp [Bs, Rd, cont, List.take_of_length_le]
theorem new_old {σ : St} {b : Blk} {k : Nat} : (V.slc σ.n 0 k).old (σ.new b) := fun l off len e => by simp at e; simp [← e.1]
theorem parse_new {σ : St} {es : List (List V)} {s : List UInt8} (h : es = s.map byteE) {k : Nat} (hk : k = s.length) (hs : s.length < 2 ^ 38) : ev ET 9 [.slc σ.n 0 k] (σ.new (.row 1 es)) = some (.ret (parseV BB (parseF s)), σ.new (.row 1 es)) :=
  parse_ev (E := ET) rfl rfl (new_bs h hk) new_old hs
theorem it1_ok : okI it1 ∧ ndI it1 ≤ 2 * tx1.length + 2 := parse_ok parse1
set_option maxRecDepth 10000 in
set_option maxHeartbeats 2000000 in
theorem parsed_ev {σ : St} (ht : Tab σ) : ev ET 8 [] σ = some (.ret (.bool true), σ) := by
  suffices h : ∃ τ, run ET false f8.res [.d f8.body] ⟨envOf [], []⟩ σ = some (.ret (.bool true), τ) ∧ Gr σ τ by
    obtain ⟨τ, h, g⟩ := h
    exact ev_pure (fd := f8) rfl (by simp [f8]) rfl h g.H g.W (by simp)
  obtain ⟨s1, hs1⟩ : ∃ s1, s1 = σ.new (.row 1 lit1) := ⟨_, rfl⟩
  have g1 : Gr σ s1 := by rw [hs1]; simp
  have p1 := parse_new (σ := σ) lit1_is (k := 35) rfl (by decide)
  rw [parse1, ← hs1] at p1
  obtain ⟨i1, i2, i3⟩ := itE_ok BB it1
  have hpr := fun (s : St) (h : Tab s) => print_ev (B := BB) rfl it1_ok.1 (by have := it1_ok.2; have e : tx1.length = 35 := rfl; omega) (σ := s) h
  rw [print1] at hpr
  have hit : itV BB it1 = .agg (itE BB it1) := rfl
  have q1 : s1.H σ.n = some (.row 1 lit1) := by rw [hs1]; simp
  obtain ⟨ie, hie⟩ : ∃ ie, ie = itE BB it1 := ⟨_, rfl⟩
  simp only [parseV, hit, ← hie] at p1 hpr i1 i2
  obtain ⟨s2, hs2⟩ : ∃ s2, s2 = (((s1.new (.row 18 [z18])).new (.row 2 [[.int .i64 0, .int .i64 0]])).set s1.n (.row 18 [ie])).set (s1.n + 1) (.row 2 [[.int .i64 0, .int .i64 0]]) := ⟨_, rfl⟩
  have g2 : Gr s1 s2 := by rw [hs2]; exact ((((Gr.refl s1).new _).new _).set (Nat.le_refl _) _).set (by omega) _
  have m2 : s2.H s1.n = some (.row 18 [ie]) := by rw [hs2]; simp
  obtain ⟨s3, hs3⟩ : ∃ s3, s3 = s2.new (.row 1 lit2) := ⟨_, rfl⟩
  have g3 : Gr s2 s3 := by rw [hs3]; simp
  have p2 := parse_new (σ := s2) lit2_is (k := 17) rfl (by decide)
  rw [parse2, ← hs3] at p2
  simp only [parseV] at p2
  have q3 : s3.H s2.n = some (.row 1 lit2) := by rw [hs3]; simp
  obtain ⟨s4, hs4⟩ : ∃ s4, s4 = (((s3.new (.row 18 [z18])).new (.row 2 [[.int .i64 0, .int .i64 0]])).set s3.n (.row 18 [z18])).set (s3.n + 1) (.row 2 [[.int .i64 17, .int .i64 17]]) := ⟨_, rfl⟩
  have g4 : Gr s3 s4 := by rw [hs4]; exact ((((Gr.refl s3).new _).new _).set (Nat.le_refl _) _).set (by omega) _
  have m4 : s4.H (s3.n + 1) = some (.row 2 [[.int .i64 17, .int .i64 17]]) := by rw [hs4]; simp
  have n1 : s1.n < s2.n := by rw [hs2]; simp
  have n2 : s2.n < s3.n := by rw [hs3]; simp
  have m3 : s4.H s1.n = some (.row 18 [ie]) := by rw [g4.H _ (by omega), g3.H _ n1]; exact m2
  have hpr4 := hpr s4 ((((ht.gr g1).gr g2).gr g3).gr g4)
  have htk : ie.take 18 = ie := List.take_of_length_le (by omega)
  have hdr : ie.drop 18 = [] := List.drop_eq_nil_of_le (by omega)
  refine ⟨s4, ?_, ((g1.trans g2).trans g3).trans g4⟩
  have e1 : ∀ s : St, s.new (.row 1 lit1) = s.new (.row 1 [[.int .u8 102], [.int .u8 110], [.int .u8 32], [.int .u8 102], [.int .u8 40], [.int .u8 120], [.int .u8 58], [.int .u8 32], [.int .u8 105], [.int .u8 110], [.int .u8 116], [.int .u8 123], [.int .u8 118], [.int .u8 32], [.int .u8 62], [.int .u8 32], [.int .u8 48], [.int .u8 125], [.int .u8 41], [.int .u8 32], [.int .u8 45], [.int .u8 62], [.int .u8 32], [.int .u8 105], [.int .u8 110], [.int .u8 116], [.int .u8 32], [.int .u8 61], [.int .u8 32], [.int .u8 120], [.int .u8 43], [.int .u8 49], [.int .u8 42], [.int .u8 50], [.int .u8 59]]) := fun _ => rfl
  have e2 : ∀ s : St, s.new (.row 1 lit2) = s.new (.row 1 [[.int .u8 102], [.int .u8 110], [.int .u8 32], [.int .u8 102], [.int .u8 40], [.int .u8 41], [.int .u8 32], [.int .u8 45], [.int .u8 62], [.int .u8 32], [.int .u8 105], [.int .u8 110], [.int .u8 116], [.int .u8 32], [.int .u8 61], [.int .u8 32], [.int .u8 49]]) := fun _ => rfl
  rw [e1] at hs1
  rw [e2] at hs3
  simp only [z18] at hs2 hs4 p2
  simp only [tx3] at hpr4
  simp [f8, d8, ← hs1, q1, p1, i1, eq_true i2, hdr, htk, ← hs2, ← hs3, q3, p2, ← hs4, m3, m4, hpr4, lit1, lit2]
end Go.Proofs.YtmkgmjdbgjiehaaDoor
namespace Go.Proofs.YtmkgmjdbgjiehaaDoor
open Go.Proofs.YtmkgmjdbgjiehaaDoor.Ab
set_option linter.unusedVariables false
set_option linter.unusedSimpArgs false
attribute [local simp] Gr.refl Gr.new Gr.set Gr.kill Nat.add_assoc r_ckk chk_x chk_n
theorem parse_str {σ : St} {s : List UInt8} (hs : s.length < 2 ^ 38) : ev ET 9 [.slc σ.n 0 s.length] (σ.new (.row 1 (s.map byteE))) = some (.ret (parseV BB (parseF s)), σ.new (.row 1 (s.map byteE))) := parse_new rfl rfl hs
theorem print_ok {b : List UInt8} {it : It} (h : parseF b = .good it) (hb : b.length ≤ 1000) {s : St} (ht : Tab s) : ev ET 10 [.agg (itE BB it)] s = some (.ret (.str (itS it)), s) := by
  obtain ⟨h1, h2⟩ := parse_ok h
  exact print_ev rfl h1 (by omega) ht
theorem itS_small {b : List UInt8} {it : It} (h : parseF b = .good it) (hb : b.length ≤ 1000) : (itS it).length ≤ 200000 := by
  obtain ⟨h1, h2⟩ := parse_ok h
  have := itS_len h1
  omega
theorem itS_pos (it : It) : 0 < (itS it).length := by simp only [itS, List.length_append, List.length_cons]; omega
def zz : List V := [.int .i64 0, .int .i64 0]
def st2 (s : St) (a b : List V) : St := (((s.new (.row 18 [z18])).new (.row 2 [zz])).set s.n (.row 18 [a])).set (s.n + 1) (.row 2 [b])
theorem st2_gr (s : St) (a b : List V) : Gr s (st2 s a b) := ((((Gr.refl s).new _).new _).set (Nat.le_refl _) _).set (by omega) _
theorem st2_a (s : St) (a b : List V) : (st2 s a b).H s.n = some (.row 18 [a]) := by simp [st2]
theorem st2_b (s : St) (a b : List V) : (st2 s a b).H (s.n + 1) = some (.row 2 [b]) := by simp [st2]
theorem st2_n (s : St) (a b : List V) : (st2 s a b).n = s.n + 2 := by simp [st2]
theorem errV {x y e : Nat} : parseV BB (.err x y e) = .tup [.agg z18, .agg [.int .i64 x, .int .i64 y], .int .i64 e] := rfl
theorem goodV {it : It} : parseV BB (.good it) = .tup [.agg (itE BB it), .agg zz, .int .i64 0] := rfl
set_option maxHeartbeats 4000000 in
theorem cuts_ev {σ : St} {v : V} {b : List UInt8} {n : Int} (hv : Bs σ v b) (ho : v.old σ) (ht : Tab σ) : ev ET 3 [v, .int .i64 n] σ = some (.ret (.bool true), σ) := by
  have hp := fun (s : St) (g : Gr σ s) => parsed_ev (σ := s) (ht.gr g)
  have hlen := hv.len
  suffices h : ∃ τ, run ET false f3.res [.d f3.body] ⟨envOf [v, .int .i64 n], []⟩ σ = some (.ret (.bool true), τ) ∧ Gr σ τ by
    obtain ⟨τ, h, g⟩ := h
    exact ev_pure (fd := f3) rfl (by simp [f3]) rfl h g.H g.W (by simp)
  have hp0 := hp σ (Gr.refl σ)
  by_cases hl : 1000 < b.length
  · have hl' : (1000 : Int) < (b.length : Int) := by omega
    exact ⟨σ, by simp [f3, d3, hp0, hlen, hl, hl'], Gr.refl σ⟩
  have hl' : ¬ (1000 : Int) < (b.length : Int) := by omega
  have p1 := parse_ev (E := ET) (B := BB) rfl rfl hv ho (by omega)
  cases h1 : parseF b with
  | err x y e =>
    rw [h1, errV] at p1
    have he : ¬ (e : Int) = 0 := by have := parse_err0 h1; omega
    have he' := parse_err0 h1
    obtain ⟨s2, hs2⟩ : ∃ s2, s2 = st2 σ z18 [.int .i64 x, .int .i64 y] := ⟨_, rfl⟩
    refine ⟨s2, ?_, by rw [hs2]; exact st2_gr _ _ _⟩
    have hs2' := hs2
    simp only [st2, z18, zz] at hs2'
    simp only [z18] at p1
    simp [f3, d3, hp0, hlen, hl, hl', p1, ← hs2', he, he']
  | good it =>
    rw [h1, goodV] at p1
    have hpr := fun (s : St) (g : Gr σ s) => print_ok h1 (by omega) (ht.gr g)
    have hsm := itS_small h1 (by omega)
    have hpos := itS_pos it
    obtain ⟨i1, i2, i3⟩ := itE_ok BB it
    have hk := (parse_ok h1).1
    have hmore := parse_more hk
    have hfront := fun n (h : n < (itS it).length) => parse_front hk h
    obtain ⟨S, hS⟩ : ∃ S, S = itS it := ⟨_, rfl⟩
    simp only [← hS] at hpr hsm hpos hmore hfront
    obtain ⟨ie, hie⟩ : ∃ ie, ie = itE BB it := ⟨_, rfl⟩
    simp only [← hie] at p1 hpr i1 i2
    have htk : ie.take 18 = ie := List.take_of_length_le (by omega)
    have hdr : ie.drop 18 = [] := List.drop_eq_nil_of_le (by omega)
    -- the cut
    obtain ⟨u, hu⟩ : ∃ u : Nat, IntKind.u64.wrap n = (u : Int) := ⟨(IntKind.u64.wrap n).toNat, by rw [wrap_u64]; omega⟩
    obtain ⟨c, hc⟩ : ∃ c, c = u % S.length := ⟨_, rfl⟩
    have hcl : c < S.length := by rw [hc]; exact Nat.mod_lt _ hpos
    have w1 : IntKind.u64.wrap (S.length : Int) = (S.length : Int) := by rw [wrap_u64]; omega
    have w2 : (u : Int).tmod (S.length : Int) = (c : Int) := by rw [Int.tmod_eq_emod_of_nonneg (by omega), hc]; omega
    have w3 : IntKind.i64.wrap (c : Int) = (c : Int) := IntWalk.i64_in _ (by omega)
    have w4 : ¬ (S.length : Int) = 0 := by omega
    have w4' : ¬ S.length = 0 := by omega
    have w4'' : ¬ S = [] := fun e => by rw [e] at hpos; simp at hpos
    obtain ⟨T, hT⟩ : ∃ T, T = S.take c := ⟨_, rfl⟩
    obtain ⟨U, hU⟩ : ∃ U, U = S ++ [32, 120] := ⟨_, rfl⟩
    have hTl : T.length ≤ 200000 := by rw [hT, List.length_take]; omega
    have hUl : U.length ≤ 200002 := by rw [hU]; simp; omega
    obtain ⟨x1, y1, e1, hf1, hf0⟩ := hfront c hcl
    rw [← hT] at hf1
    rw [← hU] at hmore
    obtain ⟨s2, hs2⟩ : ∃ s2, s2 = st2 σ ie zz := ⟨_, rfl⟩
    have g2 : Gr σ s2 := by rw [hs2]; exact st2_gr _ _ _
    have m2 : s2.H σ.n = some (.row 18 [ie]) := by rw [hs2]; exact st2_a _ _ _
    have hpr2 := hpr s2 g2
    obtain ⟨s3, hs3⟩ : ∃ s3, s3 = s2.new (.row 1 (T.map byteE)) := ⟨_, rfl⟩
    have g3 : Gr σ s3 := by rw [hs3]; exact g2.new _
    have p3 := parse_str (σ := s2) (s := T) (by omega)
    rw [hf1, errV, ← hs3] at p3
    obtain ⟨s4, hs4⟩ : ∃ s4, s4 = st2 s3 z18 [.int .i64 x1, .int .i64 y1] := ⟨_, rfl⟩
    have g4 : Gr σ s4 := by rw [hs4]; exact g3.trans (st2_gr _ _ _)
    obtain ⟨s5, hs5⟩ : ∃ s5, s5 = s4.new (.row 1 (U.map byteE)) := ⟨_, rfl⟩
    have g5 : Gr σ s5 := by rw [hs5]; exact g4.new _
    have p5 := parse_str (σ := s4) (s := U) (by omega)
    have fin : ∀ (x y e : Nat), parseF U = .err x y e → (e = 12 ∧ x = S.length + 1 ∧ y = S.length + 2 ∨ e = 13) → ∃ τ, run ET false f3.res [.d f3.body] ⟨envOf [v, .int .i64 n], []⟩ σ = some (.ret (.bool true), τ) ∧ Gr σ τ := by
      intro x y e hpe he
      rw [hpe, errV, ← hs5] at p5
      obtain ⟨s6, hs6⟩ : ∃ s6, s6 = st2 s5 z18 [.int .i64 x, .int .i64 y] := ⟨_, rfl⟩
      have g6 : Gr σ s6 := by rw [hs6]; exact g5.trans (st2_gr _ _ _)
      have m6 : s6.H (s5.n + 1) = some (.row 2 [[.int .i64 x, .int .i64 y]]) := by rw [hs6]; exact st2_b _ _ _
      refine ⟨s6, ?_, g6⟩
      simp only [st2, z18, zz] at hs2 hs4 hs6
      simp only [z18, zz] at p1 p3 p5
      have hf0' : ¬ (e1 : Int) = 0 := by omega
      have l0 : c ≤ S.length := by omega
      have l1 : S.length + 2 ≤ 9223372036854775807 := by omega
      rcases he with ⟨rfl, hx, hy⟩ | rfl
      · have v1 : IntKind.i64.wrap ((S.length : Int) + 1) = (x : Int) := by rw [IntWalk.i64_in _ (by omega)]; omega
        have v2 : IntKind.i64.wrap ((S.length : Int) + 2) = (y : Int) := by rw [IntWalk.i64_in _ (by omega)]; omega
        simp [f3, d3, hp0, hlen, hl, hl', p1, ← hs2, i1, eq_true i2, hdr, htk, m2, hpr2, hu, w1, w2, w3, w4, w4', w4'', ← hT, ← hs3, p3, ← hs4, l0, l1, ← hU, ← hs5, p5, ← hs6, hf0, hf0', m6, v1, v2]
      · simp [f3, d3, hp0, hlen, hl, hl', p1, ← hs2, i1, eq_true i2, hdr, htk, m2, hpr2, hu, w1, w2, w3, w4, w4', w4'', ← hT, ← hs3, p3, ← hs4, l0, l1, ← hU, ← hs5, p5, ← hs6, hf0, hf0', m6]
    rcases hmore with hm | ⟨a, b', hm⟩
    · exact fin _ _ _ hm (.inl ⟨rfl, rfl, rfl⟩)
    · exact fin _ _ _ hm (.inr rfl)
end Go.Proofs.YtmkgmjdbgjiehaaDoor
