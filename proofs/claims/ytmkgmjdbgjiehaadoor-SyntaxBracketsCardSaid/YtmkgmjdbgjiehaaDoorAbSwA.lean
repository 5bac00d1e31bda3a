/-
The walk over the program's texts, told with what its values say: a part of it. No further condition.
-/
import Derived.Test.YtmkgmjdbgjiehaaDoorAbPk
import Derived.Lib.Join
import Derived.Test.YtmkgmjdbgjiehaaDoorAbPe
namespace Go.Proofs.YtmkgmjdbgjiehaaDoor.Ab
set_option linter.unusedVariables false
def Gt (t : TK) : Prop := (t.kind = 1 → nameOK t.txt) ∧ (t.kind = 3 → numD t.txt < 10 ^ 40)
def Gs (ts : List TK) : Prop := ∀ t ∈ ts, Gt t
theorem Gs.suf {a b : List TK} (h : Gs b) (s : a <:+ b) : Gs a := fun t ht => h t (s.subset ht)
def Wx {α : Type} (x : Rs α) (P : α → Prop) : Prop := ∀ a r, x = .ok a r → P a
theorem Wx.bind {α β : Type} {x : Rs α} {f : α → List TK → Rs β} {P : α → Prop} {R : β → Prop} (h : Wx x P) (k : ∀ a r, x = .ok a r → P a → Wx (f a r) R) : Wx (x.bind f) R := fun b r e => by
  cases hx : x with
  | ok a r' => rw [hx] at e; exact k a r' hx (h a r' hx) b r e
  | bad => rw [hx] at e; simp at e
  | off => rw [hx] at e; simp at e
theorem Wx.ok {α : Type} {a : α} {r : List TK} {P : α → Prop} (h : P a) : Wx (.ok a r) P := fun _ _ e => by cases e; exact h
theorem Wx.bad {α : Type} (a b e : Nat) (r : List TK) (P : α → Prop) : Wx (.bad a b e r) P := fun _ _ e => by cases e
theorem Wx.off {α : Type} (P : α → Prop) : Wx (.off : Rs α) P := fun _ _ e => by cases e
theorem Wx.miss {α : Type} (ts : List TK) (P : α → Prop) : Wx (missT ts : Rs α) P := by cases ts <;> intro _ _ e <;> cases e
theorem Wx.need {α : Type} {ts : List TK} {x : Rs α} {P : α → Prop} (h : Wx x P) : Wx (needT ts x) P := by cases ts; exact .off _; exact h
theorem Wx.any {α : Type} (x : Rs α) : Wx x fun _ => True := fun _ _ _ => trivial
theorem Wx.name {ts : List TK} (g : Gs ts) : Wx (nameT ts) fun t => nameOK t.txt := by
  cases ts with
  | nil => exact .off _
  | cons t r =>
    simp only [nameT]; split
    · rename_i h; exact .ok ((g t (by simp)).1 h)
    · exact .miss _ _
theorem Wx.places {ts : List TK} : Wx (placesT ts) fun k => k ≤ 1000000 := by
  cases ts with
  | nil => exact .off _
  | cons t r =>
    simp only [placesT]; split
    · split
      · rename_i h; exact .ok h.2
      · exact .bad _ _ _ _ _
    · exact .miss _ _
theorem okx_mk {k : Nat} {nm : List UInt8} {m : Nat} {l : List Ex} {a b : Nat} (h : wfK k nm m l.length) (hl : ∀ e ∈ l, Okx e) : Okx (.mk k nm m l a b) := by
  rw [Okx]
  refine ⟨h, ?_⟩
  clear h
  induction l with
  | nil => trivial
  | cons e l ih => rw [Okxs]; exact ⟨hl e (by simp), ih fun x hx => hl x (by simp [hx])⟩
theorem signK_val (v : Nat) (s : List UInt8) : signK v s = 0 ∨ (8 ≤ signK v s ∧ signK v s ≤ 20) := by
  match v with
  | 0 => unfold signK; (repeat' split) <;> omega
  | 1 => unfold signK; (repeat' split) <;> omega
  | 2 => unfold signK; (repeat' split) <;> omega
  | 3 => unfold signK; (repeat' split) <;> omega
  | 4 => unfold signK; (repeat' split) <;> omega
  | v + 5 => exact .inl rfl
theorem levelT_val (v : Nat) (t : TK) : levelT v t = 0 ∨ (8 ≤ levelT v t ∧ levelT v t ≤ 20) := by
  unfold levelT; split
  · exact signK_val _ _
  · exact .inl rfl
section
variable (M : Nat) (L : List TK)
structure AllWx (n : Nat) : Prop where
  expr : ∀ d ts, Gs ts → Wx (exprT M L n d ts) Okx
  row : ∀ lv d ts, Gs ts → Wx (rowT M L n lv d ts) Okx
  loop : ∀ lv d fr a ts, Gs ts → Okx a → Wx (loopT M L n lv d fr a ts) Okx
  unary : ∀ d ts, Gs ts → Wx (unaryT M L n d ts) Okx
  atom : ∀ d ts, Gs ts → Wx (atomT M L n d ts) Okx
  arr : ∀ d fr ts, Gs ts → Wx (arrT M L n d fr ts) Okx
  args : ∀ c d ts, Gs ts → (∀ k, c = some k → k ≤ 6) → Wx (argsT M L n c d ts) fun l => (∀ e ∈ l, Okx e) ∧ l.length ≤ 6 ∧ ∀ k, c = some k → l.length = k
  arg : ∀ c d acc ts, Gs ts → (∀ e ∈ acc, Okx e) → acc.length ≤ 6 → Wx (argT M L n c d acc ts) fun l => (∀ e ∈ l, Okx e) ∧ l.length ≤ 6 ∧ ∀ k, c = some k → k ≤ l.length
theorem allWx : ∀ n, AllWx M L n
  | 0 => ⟨fun _ _ _ => by unfold exprT; exact .off _, fun _ _ _ _ => by unfold rowT; exact .off _, fun _ _ _ _ _ _ _ => by unfold loopT; exact .off _, fun _ _ _ => by unfold unaryT; exact .off _, fun _ _ _ => by unfold atomT; exact .off _, fun _ _ _ _ => by unfold arrT; exact .off _, fun _ _ _ _ _ => by unfold argsT; exact .off _, fun _ _ _ _ _ _ _ => by unfold argT; exact .off _⟩
  | n + 1 => by
    have ih := allWx n
    have sh := allSh M L n
    constructor
    · intro d ts g
      unfold exprT
      split
      · exact .off _
      · split
        · exact .bad _ _ _ _ _
        · split
          · rename_i h
            have g1 := g.suf (takeT_some h).1
            refine (Wx.name g1).bind fun nm r2 e2 hn => (Wx.any _).bind fun _ r3 e3 _ => ?_
            have g2 := g1.suf (Sh.name _ _ _ e2).1
            have g3 := g2.suf (Sh.want _ _ _ _ e3).1
            refine (ih.expr _ _ g3).bind fun a r4 e4 ha => (Wx.any _).bind fun _ r5 e5 _ => ?_
            have g4 := g3.suf (sh.expr _ _ _ _ e4).1
            have g5 := g4.suf (Sh.want _ _ _ _ e5).1
            exact (ih.expr _ _ g5).bind fun b r6 _ hb => .ok (okx_mk (by simp only [List.length_cons, List.length_nil]; unfold wfK; simp [hn]) (by simp [ha, hb]))
          · split
            · rename_i h
              have g1 := g.suf (takeT_some h).1
              refine (ih.expr _ _ g1).bind fun a r4 e4 ha => (Wx.any _).bind fun _ r5 e5 _ => ?_
              have g4 := g1.suf (sh.expr _ _ _ _ e4).1
              have g5 := g4.suf (Sh.want _ _ _ _ e5).1
              refine (ih.expr _ _ g5).bind fun b r6 e6 hb => (Wx.any _).bind fun _ r7 e7 _ => ?_
              have g6 := g5.suf (sh.expr _ _ _ _ e6).1
              have g7 := g6.suf (Sh.want _ _ _ _ e7).1
              exact (ih.expr _ _ g7).bind fun c r8 _ hc => .ok (okx_mk (by simp only [List.length_cons, List.length_nil]; unfold wfK; simp) (by simp [ha, hb, hc]))
            · split
              · rename_i h
                have g1 := g.suf (takeT_some h).1
                refine (ih.expr _ _ g1).bind fun a r4 e4 ha => (Wx.any _).bind fun _ r5 e5 _ => ?_
                have g4 := g1.suf (sh.expr _ _ _ _ e4).1
                have g5 := g4.suf (Sh.want _ _ _ _ e5).1
                exact (ih.expr _ _ g5).bind fun b r6 e6 hb => .ok (okx_mk (by simp only [List.length_cons, List.length_nil]; unfold wfK; simp) (by simp [ha, hb]))
              · exact ih.row _ _ _ g
    · intro lv d ts g
      unfold rowT
      split
      · exact ih.unary _ _ g
      · split
        · exact .off _
        · exact (ih.row _ _ _ g).bind fun a r2 e2 ha => ih.loop _ _ _ _ _ (g.suf (sh.row _ _ _ _ _ e2).1) ha
    · intro lv d fr a ts g ha
      unfold loopT
      split
      · exact .off _
      · rename_i t r
        split
        · exact .ok ha
        · rename_i hk
          have g1 : Gs r := g.suf (List.suffix_cons _ _)
          refine (ih.row _ _ _ g1).bind fun b r2 e2 hb => ?_
          have hx : ∀ to, Okx (.mk (levelT lv t) [] 0 [a, b] fr to) := fun to => okx_mk (by
            have := levelT_val lv t
            simp only [List.length_cons, List.length_nil]; unfold wfK
            refine .inr (.inr (.inr (.inr (.inr (.inl ⟨by omega, rfl, rfl, rfl⟩)))))) (by simp [ha, hb])
          split
          · exact .ok (hx _)
          · exact ih.loop _ _ _ _ _ (g1.suf (sh.row _ _ _ _ _ e2).1) (hx _)
    · intro d ts g
      unfold unaryT
      split
      · exact .off _
      · split
        · exact .bad _ _ _ _ _
        · split
          · rename_i h
            exact (ih.unary _ _ (g.suf (takeT_some h).1)).bind fun a r2 _ ha => .ok (okx_mk (by simp only [List.length_cons, List.length_nil]; unfold wfK; simp) (by simp [ha]))
          · split
            · rename_i h
              exact (ih.unary _ _ (g.suf (takeT_some h).1)).bind fun a r2 _ ha => .ok (okx_mk (by simp only [List.length_cons, List.length_nil]; unfold wfK; simp) (by simp [ha]))
            · exact ih.atom _ _ g
    · intro d ts g
      unfold atomT
      split
      · exact .off _
      · rename_i t r
        split
        · rename_i hk
          split
          · exact .ok (okx_mk (by simp only [List.length_nil]; unfold wfK; exact .inl ⟨rfl, rfl, (g t (by simp)).2 hk, rfl⟩) (by simp))
          · exact .bad _ _ _ _ _
        · split
          · rename_i hk
            have hn := (g t (by simp)).1 hk
            have g1 : Gs r := g.suf (List.suffix_cons _ _)
            refine Wx.need ?_
            split
            · exact (ih.args _ _ _ g1 (by simp)).bind fun l r2 _ hl => .ok (okx_mk (by unfold wfK; exact .inr (.inr (.inr (.inl ⟨rfl, hn, rfl, hl.2.1⟩)))) hl.1)
            · exact .ok (okx_mk (by simp only [List.length_nil]; unfold wfK; exact .inr (.inr (.inl ⟨rfl, .inr hn, rfl, rfl⟩))) (by simp))
          · split
            · exact .ok (okx_mk (by simp only [List.length_nil]; unfold wfK; exact .inr (.inr (.inl ⟨rfl, .inl rfl, rfl, rfl⟩))) (by simp))
            · split
              · exact .ok (okx_mk (by simp only [List.length_nil]; unfold wfK; simp) (by simp))
              · split
                · exact .ok (okx_mk (by simp only [List.length_nil]; unfold wfK; simp) (by simp))
                · split
                  · rename_i h; exact (ih.expr _ _ (g.suf (takeT_some h).1)).bind fun e r2 _ he => (Wx.any _).bind fun _ _ _ _ => .ok he
                  · exact ih.arr _ _ _ g
    · intro d fr ts g
      unfold arrT
      split
      · rename_i h
        exact (ih.args _ _ _ (g.suf (takeT_some h).1) (by simp)).bind fun l r2 _ hl => .ok (okx_mk (by have := hl.2.2 2 rfl; unfold wfK; simp [this]) hl.1)
      · split
        · rename_i h
          exact (ih.args _ _ _ (g.suf (takeT_some h).1) (by simp)).bind fun l r2 _ hl => .ok (okx_mk (by have := hl.2.2 3 rfl; unfold wfK; simp [this]) hl.1)
        · split
          · rename_i h
            exact (ih.args _ _ _ (g.suf (takeT_some h).1) (by simp)).bind fun l r2 _ hl => .ok (okx_mk (by have := hl.2.2 1 rfl; unfold wfK; simp [this]) hl.1)
          · split
            · rename_i h
              have g1 := g.suf (takeT_some h).1
              refine (Wx.any _).bind fun _ r2 e2 _ => Wx.places.bind fun k r3 e3 hk => (Wx.any _).bind fun _ r4 e4 _ => ?_
              have g4 := ((g1.suf (Sh.want _ _ _ _ e2).1).suf (Sh.places _ _ _ e3).1).suf (Sh.want _ _ _ _ e4).1
              exact (ih.expr _ _ g4).bind fun a r5 _ ha => (Wx.any _).bind fun _ _ _ _ => .ok (okx_mk (by simp only [List.length_cons, List.length_nil]; unfold wfK; simp [hk]) (by simp [ha]))
            · exact .miss _ _
    · intro c d ts g hc
      unfold argsT
      refine (Wx.any _).bind fun _ r1 e1 _ => (ih.arg _ _ _ _ (g.suf (Sh.want _ _ _ _ e1).1) (by simp) (by simp)).bind fun l r2 _ hl => ?_
      split
      · exact .bad _ _ _ _ _
      · rename_i hm
        refine (Wx.any _).bind fun _ _ _ _ => .ok ⟨hl.1, hl.2.1, fun k hk => ?_⟩
        subst hk
        have h1 := hl.2.2 k rfl
        simp only [manyT] at hm
        have := List.getElem?_eq_none_iff.1 hm
        omega
    · intro c d acc ts g ha hal
      unfold argT
      split
      · refine Wx.bind (x := if acc = [] then .ok () ts else wantT [44] ts) (Wx.any _) fun _ r1 e1 _ => ?_
        have g1 : Gs r1 := by
          split at e1
          · cases e1; exact g
          · exact g.suf (Sh.want _ _ _ _ e1).1
        refine (ih.expr _ _ g1).bind fun e r2 e2 he => ?_
        split
        · exact .bad _ _ _ _ _
        · exact ih.arg _ _ _ _ (g1.suf (sh.expr _ _ _ _ e2).1) (by simp only [List.mem_append, List.mem_singleton]; rintro x (hx | rfl); exact ha x hx; exact he) (by simp; omega)
      · rename_i hcd
        refine .ok ⟨ha, hal, fun k hk => ?_⟩
        subst hk
        simp only [fewT, Bool.or_eq_true, decide_eq_true_eq, not_or] at hcd
        omega
theorem Wx.typ {n : Nat} {ts : List TK} (g : Gs ts) : Wx (typT M L n ts) okT := by
  cases ts with
  | nil => exact .off _
  | cons t r =>
    unfold typT
    refine Wx.bind (P := fun b => (b.1 = 1 ∨ b.1 = 2) ∧ b.2 = 0 ∨ b.1 = 3 ∧ b.2 ≤ 1000000) ?_ fun b r2 e2 hb => Wx.need ?_
    · split
      · exact .ok (.inl ⟨.inl rfl, rfl⟩)
      · split
        · exact .ok (.inl ⟨.inr rfl, rfl⟩)
        · split
          · exact Wx.places.bind fun k r2 _ hk => .ok (.inr ⟨rfl, hk⟩)
          · exact .miss _ _
    · have g2 : Gs r2 := by
        split at e2
        · rename_i h; cases e2; exact g.suf (takeT_some h).1
        · split at e2
          · rename_i h; cases e2; exact g.suf (takeT_some h).1
          · split at e2
            · rename_i h
              exact (g.suf (takeT_some h).1).suf (((Sh.places _).wk.bind fun a r _ => Wk.ok (α := Nat × Nat) _ _) _ _ e2)
            · simp [missT] at e2
      split
      · rename_i h
        exact ((allWx M L n).expr _ _ (g2.suf (takeT_some h).1)).bind fun e r4 _ he => (Wx.any _).bind fun _ _ _ _ => .ok ⟨hb, fun x hx => by cases hx; exact he⟩
      · exact .ok ⟨hb, fun x hx => by cases hx⟩
theorem Wx.qual : ∀ (n : Nat) (acc : List Pm) (ts : List TK), Gs ts → (∀ m ∈ acc, nameOK m.name ∧ erT m.ty = ⟨1, 0, none, 0, 0⟩) → acc.length ≤ 12 → Wx (qualT n acc ts) fun l => (∀ m ∈ l, nameOK m.name ∧ erT m.ty = ⟨1, 0, none, 0, 0⟩) ∧ l.length ≤ 12 ∧ 1 ≤ l.length
  | 0, acc, ts, g, ha, hl => .off _
  | n + 1, acc, ts, g, ha, hl => by
    unfold qualT
    refine (Wx.name g).bind fun x r1 e1 hn => ?_
    split
    · exact .bad _ _ _ _ _
    · rename_i hlen
      have hb : ∀ m ∈ acc ++ [(⟨x.txt, ⟨1, 0, none, x.fr, x.to⟩, x.fr, x.to⟩ : Pm)], nameOK m.name ∧ erT m.ty = ⟨1, 0, none, 0, 0⟩ := by
        simp only [List.mem_append, List.mem_singleton]; rintro m (hm | rfl)
        · exact ha m hm
        · exact ⟨hn, rfl⟩
      refine Wx.need ?_
      split
      · rename_i h
        exact Wx.qual n _ _ ((g.suf (Sh.name _ _ _ e1).1).suf (takeT_some h).1) hb (by simp; omega)
      · exact .ok ⟨hb, by simp; omega, by simp⟩
theorem Wx.pars (m : Nat) : ∀ (n : Nat) (acc : List Pm) (ts : List TK), Gs ts → (∀ m ∈ acc, nameOK m.name ∧ okT m.ty) → acc.length ≤ 6 → Wx (parsT M L m n acc ts) fun l => (∀ m ∈ l, nameOK m.name ∧ okT m.ty) ∧ l.length ≤ 6
  | 0, acc, ts, g, ha, hl => .off _
  | n + 1, acc, ts, g, ha, hl => by
    unfold parsT
    split
    · exact .ok ⟨ha, hl⟩
    · refine Wx.bind (x := if acc = [] then .ok () ts else wantT [44] ts) (Wx.any _) fun _ r1 e1 _ => ?_
      have g1 : Gs r1 := by
        split at e1
        · cases e1; exact g
        · exact g.suf (Sh.want _ _ _ _ e1).1
      refine (Wx.name g1).bind fun x r2 e2 hn => (Wx.any _).bind fun _ r3 e3 _ => ?_
      have g3 := (g1.suf (Sh.name _ _ _ e2).1).suf (Sh.want _ _ _ _ e3).1
      refine (Wx.typ M L g3).bind fun y r4 e4 hy => ?_
      split
      · exact .bad _ _ _ _ _
      · rename_i hlen
        exact Wx.pars m n _ _ (g3.suf (Sh.typ M L _ _ _ _ e4).1) (by simp only [List.mem_append, List.mem_singleton]; rintro m (hm | rfl); exact ha m hm; exact ⟨hn, hy⟩) (by simp; omega)
theorem Wx.item {n : Nat} {ts : List TK} (g : Gs ts) : Wx (itemT M L n ts) okI := by
  unfold itemT
  have hhead : Wx (headT M L n ts) (fun h => nameOK h.nm.txt ∧ ((h.kind = 1 ∧ h.params.length ≤ 6 ∧ (∀ m ∈ h.params, nameOK m.name ∧ okT m.ty) ∧ okT h.result) ∨
      (h.kind = 2 ∧ h.pub = false ∧ 1 ≤ h.params.length ∧ h.params.length ≤ 12 ∧ (∀ m ∈ h.params, nameOK m.name ∧ erT m.ty = ⟨1, 0, none, 0, 0⟩) ∧ h.result = ⟨2, 0, none, 0, 0⟩))) ∧ Wk ts (headT M L n ts) := by
    unfold headT
    split
    · rename_i h
      have g1 := g.suf (takeT_some h).1
      constructor
      · refine (Wx.name g1).bind fun t r2 e2 hn => (Wx.any _).bind fun _ r3 e3 _ => ?_
        have g3 := (g1.suf (Sh.name _ _ _ e2).1).suf (Sh.want _ _ _ _ e3).1
        exact (Wx.qual n [] _ g3 (by simp) (by simp)).bind fun l r4 _ hl => (Wx.any _).bind fun _ r5 _ _ => .ok ⟨hn, .inr ⟨rfl, rfl, hl.2.2, hl.2.1, hl.1, rfl⟩⟩
      · exact (Sh.take h ((Sh.name _).wk.bind fun _ _ _ => (Sh.want _ _).wk.bind fun _ _ _ => (Sh.qual n _ _).wk.bind fun _ _ _ => (Sh.want _ _).wk.bind fun _ _ _ => Wk.ok _ _)).wk
    · constructor
      · refine Wx.bind (x := match takeT [112, 117, 98] ts with | some r => Rs.ok true r | none => .ok false ts) (Wx.any _) fun pb r0 e0 _ => ?_
        have g0 : Gs r0 := by
          split at e0
          · rename_i h; cases e0; exact g.suf (takeT_some h).1
          · cases e0; exact g
        refine (Wx.any _).bind fun _ r1 e1 _ => ?_
        have g1 := g0.suf (Sh.want _ _ _ _ e1).1
        refine (Wx.name g1).bind fun t r2 e2 hn => (Wx.any _).bind fun _ r3 e3 _ => ?_
        have g3 := (g1.suf (Sh.name _ _ _ e2).1).suf (Sh.want _ _ _ _ e3).1
        refine (Wx.pars M L n n [] _ g3 (by simp) (by simp)).bind fun l r4 e4 hl => (Wx.any _).bind fun _ r5 e5 _ => (Wx.any _).bind fun _ r6 e6 _ => ?_
        have g6 := ((g3.suf (Wk.pars M L _ _ _ _ _ _ e4)).suf (Sh.want _ _ _ _ e5).1).suf (Sh.want _ _ _ _ e6).1
        exact (Wx.typ M L g6).bind fun y r7 _ hy => .ok ⟨hn, .inl ⟨rfl, hl.2, hl.1, hy⟩⟩
      · refine Wk.bind (x := match takeT [112, 117, 98] ts with | some r => Rs.ok true r | none => .ok false ts) ?_ fun _ _ _ => (Sh.want _ _).wk.bind fun _ _ _ => (Sh.name _).wk.bind fun _ _ _ => (Sh.want _ _).wk.bind fun _ _ _ => (Wk.pars M L _ _ _ _).bind fun _ _ _ => (Sh.want _ _).wk.bind fun _ _ _ => (Sh.want _ _).wk.bind fun _ _ _ => (Sh.typ M L _ _).wk.bind fun _ _ _ => Wk.ok _ _
        split
        · rename_i h; exact (Sh.take h (Wk.ok _ _)).wk
        · exact .ok _ _
  refine hhead.1.bind fun hd r1 e1 hh => (Wx.any _).bind fun _ r2 e2 _ => ?_
  have g2 := (g.suf (hhead.2 _ _ e1)).suf (Sh.want _ _ _ _ e2).1
  refine ((allWx M L n).expr _ _ g2).bind fun b r3 _ hb => (Wx.any _).bind fun _ r4 _ _ => ?_
  split
  · exact .off _
  · split
    · exact .ok ⟨hh.1, hb, hh.2⟩
    · exact .bad _ _ _ _ _
end
end Go.Proofs.YtmkgmjdbgjiehaaDoor.Ab
namespace Go.Proofs.YtmkgmjdbgjiehaaDoor.Ab
set_option linter.unusedVariables false
def okNext (p : Pc) (c : UInt8) : Bool :=
  if p.k = 4 then (match p.s with
    | [a] => !twoB a c && !(a.toNat == 47 && c.toNat == 47)
    | _ => true) else if p.k = 3 then !digitB c else !goesB c
def pieceOK (p : Pc) : Prop := tokF p.s = (p.k, p.s, 0) ∧ p.s ≠ []
def Gap (g : List UInt8) : Prop := (∀ rest, skipF false (g ++ rest) = skipF false rest) ∧ ∃ c t, g = c :: t ∧ (c = 32 ∨ c = 13)
def Fill : List Pc → List (List UInt8) → Prop
  | [], [] => True
  | p :: ps, g :: gs => (if p.b = true then Gap g else g = []) ∧ Fill ps gs
  | _, _ => False
def txtG : List Pc → List (List UInt8) → List UInt8
  | p :: ps, g :: gs => g ++ (p.s ++ txtG ps gs)
  | _, _ => []
def tkG (K : Nat) : List Pc → List (List UInt8) → List TK
  | p :: ps, g :: gs => ⟨p.k, p.s, K - (p.s ++ txtG ps gs).length⟩ :: tkG K ps gs
  | _, _ => [⟨0, [], K⟩]
def Ch : Pc → List Pc → Prop
  | _, [] => True
  | p, q :: ps => (q.b = false → ∃ c t, q.s = c :: t ∧ okNext p c = true) ∧ pieceOK q ∧ Ch q ps
theorem takeWhile_all {α : Type} {p : α → Bool} : ∀ {l : List α}, l.takeWhile p = l → ∀ x ∈ l, p x = true
  | [], _, x, hx => by simp at hx
  | a :: l, h, x, hx => by
    by_cases ha : p a = true
    · rw [List.takeWhile_cons_of_pos ha] at h
      rcases List.mem_cons.1 hx with rfl | hx
      · exact ha
      · exact takeWhile_all (List.cons.inj h).2 x hx
    · rw [List.takeWhile_cons_of_neg ha] at h; simp at h
theorem takeWhile_stop {α : Type} {p : α → Bool} {c : α} {r : List α} (hc : p c = false) : ∀ {l : List α}, (∀ x ∈ l, p x = true) → (l ++ c :: r).takeWhile p = l
  | [], _ => by rw [List.nil_append, List.takeWhile_cons_of_neg (by simp [hc])]
  | a :: l, h => by rw [List.cons_append, List.takeWhile_cons_of_pos (h a (by simp)), takeWhile_stop hc fun x hx => h x (by simp [hx])]
theorem piece_cases {k : Nat} {s : List UInt8} (h : tokF s = (k, s, 0)) (hs : s ≠ []) : ∃ a t, s = a :: t ∧ ((smallB a = true ∧ s.takeWhile goesB = s ∧ s.length ≤ 24 ∧ k = (if wordB s then 2 else 1)) ∨ (smallB a = false ∧ digitB a = true ∧ s.takeWhile digitB = s ∧ s.length ≤ 40 ∧ k = 3) ∨ (smallB a = false ∧ digitB a = false ∧ k = 4 ∧ signF s = s.length)) := by
  cases s with
  | nil => exact absurd rfl hs
  | cons a t =>
    refine ⟨a, t, rfl, ?_⟩
    cases g : smallB a with
    | true =>
      rw [tokF_name g] at h
      split at h
      · simp at h
      · rename_i l
        simp only [Prod.mk.injEq, and_true] at h
        obtain ⟨h1, h2⟩ := h
        rw [h2] at h1 l
        exact .inl ⟨rfl, h2, by omega, h1.symm⟩
    | false =>
      cases g2 : digitB a with
      | true =>
        rw [tokF_dig g g2] at h
        split at h
        · simp at h
        · rename_i l
          simp only [Prod.mk.injEq, and_true] at h
          obtain ⟨h1, h2⟩ := h
          rw [h2] at l
          exact .inr (.inl ⟨rfl, rfl, h2, by omega, h1.symm⟩)
      | false =>
        rw [tokF_sign g g2] at h
        split at h
        · simp at h
        · simp only [Prod.mk.injEq, and_true] at h
          obtain ⟨h1, h2⟩ := h
          have := congrArg List.length h2
          rw [List.length_take] at this
          have hle := (sign_le a t).1
          exact .inr (.inr ⟨rfl, rfl, h1.symm, by omega⟩)
theorem tok_ext {p : Pc} (h : pieceOK p) {c : UInt8} {r : List UInt8} (hc : okNext p c = true) : tokF (p.s ++ c :: r) = (p.k, p.s, 0) := by
  obtain ⟨k, s, b⟩ := p
  obtain ⟨h1, h2⟩ := h
  simp only at h1 h2 ⊢
  obtain ⟨a, t, rfl, hh⟩ := piece_cases h1 h2
  rcases hh with ⟨g, hw, hl, hk⟩ | ⟨g, g2, hw, hl, hk⟩ | ⟨g, g2, hk, hsg⟩
  · have hk' : k = 1 ∨ k = 2 := by rw [hk]; split <;> omega
    have hg : goesB c = false := by simpa [okNext, show ¬ k = 4 by omega, show ¬ k = 3 by omega] using hc
    have := takeWhile_stop (r := r) hg (takeWhile_all hw)
    rw [List.cons_append] at this ⊢
    rw [tokF_name g, this, if_neg (by omega), hk]
  · subst hk
    have hg : digitB c = false := by simpa [okNext] using hc
    have := takeWhile_stop (r := r) hg (takeWhile_all hw)
    rw [List.cons_append] at this ⊢
    rw [tokF_dig g g2, this, if_neg (by omega)]
  · subst hk
    rw [List.cons_append, tokF_sign g g2]
    have hsf : signF (a :: (t ++ c :: r)) = signF (a :: t) := by
      rw [sign_cons, sign_cons] at *
      cases t with
      | nil =>
        have h1 : twoB a c = false := by
          simp only [okNext, if_true, Bool.and_eq_true, Bool.not_eq_true'] at hc
          exact hc.1
        simp [twoS, h1]
      | cons d u => rfl
    have hne : (a :: t).length ≠ 0 := by simp
    rw [hsf, hsg, if_neg hne, ← List.cons_append, List.take_left']
    rfl
theorem skip_piece {p : Pc} (h : pieceOK p) {r : List UInt8} (hc : ∀ c t, r = c :: t → okNext p c = true) : skipF false (p.s ++ r) = p.s ++ r := by
  obtain ⟨k, s, b⟩ := p
  obtain ⟨h1, h2⟩ := h
  simp only at h1 h2 hc ⊢
  obtain ⟨a, t, rfl, hh⟩ := piece_cases h1 h2
  have hb : blankB a = false := by
    rcases hh with ⟨g, _⟩ | ⟨g, g2, _⟩ | ⟨g, g2, hk, hsg⟩
    · simp [smallB, blankB] at g ⊢; omega
    · simp [digitB, blankB] at g2 ⊢; omega
    · by_cases hbl : blankB a = true
      · exfalso
        rw [sign_cons] at hsg
        have : twoS a t = false := by
          cases t with
          | nil => rfl
          | cons d u => simp [blankB] at hbl; simp [twoS, twoB]; omega
        have h2 : oneL.contains a.toNat = false := by
          simp [blankB] at hbl
          simp [oneL]; omega
        rw [this, h2] at hsg
        simp at hsg
      · simpa using hbl
  have ho : offB false a (t ++ r) = false := by
    by_cases h47 : a.toNat = 47
    · have hs1 : t = [] ∧ k = 4 := by
        rcases hh with ⟨g, _⟩ | ⟨g, g2, _⟩ | ⟨g, g2, hk, hsg⟩
        · simp [smallB] at g; omega
        · simp [digitB] at g2; omega
        · refine ⟨?_, hk⟩
          rw [sign_cons] at hsg
          have : twoS a t = false := by
            cases t with
            | nil => rfl
            | cons d u => simp [twoS, twoB]; omega
          rw [this] at hsg
          have h2 : oneL.contains a.toNat = true := by rw [h47]; rfl
          rw [h2] at hsg
          simp at hsg
          exact hsg
      obtain ⟨rfl, rfl⟩ := hs1
      cases r with
      | nil => simp [offB, slashB]
      | cons c u =>
        have := hc c u rfl
        simp [okNext, h47] at this
        simp [offB, slashB, h47]
        exact this.2
    · simp [offB, h47]
  rw [List.cons_append, skipF, ho, hb]; rfl
theorem okNext_gap {p : Pc} (h : pieceOK p) {c : UInt8} (hc : c = 32 ∨ c = 13) : okNext p c = true := by
  unfold okNext
  split
  · split
    · rename_i a _
      rcases hc with rfl | rfl <;> simp [twoB]
    · rfl
  · split <;> rcases hc with rfl | rfl <;> decide
theorem toks_g (K : Nat) : ∀ (ps : List Pc) (gs : List (List UInt8)) (n : Nat), Fill ps gs → (∃ p0, Ch p0 ps) → (txtG ps gs).length < n → toksF K n (txtG ps gs) = (tkG K ps gs, 0, 0)
  | [], gs, n, hf, _, hn => by
    cases n with
    | zero => omega
    | succ n => cases gs <;> simp [txtG, tkG, toksF, skipF]
  | p :: ps, [], n, hf, _, hn => hf.elim
  | p :: ps, g :: gs, n, hf, ⟨p0, hch⟩, hn => by
    obtain ⟨hg, hf⟩ := hf
    obtain ⟨_, hp, hch⟩ := hch
    cases n with
    | zero => omega
    | succ n =>
      -- what comes next
      have hnext : ∀ c t, txtG ps gs = c :: t → okNext p c = true := by
        intro c t hct
        cases ps with
        | nil => simp [txtG] at hct
        | cons q ps =>
          cases gs with
          | nil => exact hf.elim
          | cons g2 gs =>
            obtain ⟨hg2, _⟩ := hf
            obtain ⟨hq, _, _⟩ := hch
            simp only [txtG] at hct
            by_cases hb : q.b = true
            · rw [if_pos hb] at hg2
              obtain ⟨_, c2, t2, rfl, hc2⟩ := hg2
              simp at hct
              exact okNext_gap hp (by rw [← hct.1]; exact hc2)
            · rw [if_neg hb] at hg2
              subst hg2
              obtain ⟨c2, t2, hs, hok⟩ := hq (by simpa using hb)
              rw [hs] at hct
              simp at hct
              rw [← hct.1]; exact hok
      have hskip : skipF false (txtG (p :: ps) (g :: gs)) = p.s ++ txtG ps gs := by
        simp only [txtG]
        by_cases hb : p.b = true
        · rw [if_pos hb] at hg; rw [hg.1]; exact skip_piece hp hnext
        · rw [if_neg hb] at hg; subst hg; exact skip_piece hp hnext
      have htok : tokF (p.s ++ txtG ps gs) = (p.k, p.s, 0) := by
        cases hr : txtG ps gs with
        | nil => rw [List.append_nil]; exact hp.1
        | cons c t => exact tok_ext hp (hnext c t hr)
      have hlen : (txtG (p :: ps) (g :: gs)).length = g.length + (p.s.length + (txtG ps gs).length) := by simp [txtG]
      have hpos : 0 < p.s.length := List.length_pos_iff.2 hp.2
      have ih := toks_g K ps gs n hf ⟨p, hch⟩ (by omega)
      cases hs : p.s ++ txtG ps gs with
      | nil => have := congrArg List.length hs; simp at this; exact absurd this.1 (by intro h; rw [h] at hpos; simp at hpos)
      | cons c t =>
        rw [hs] at htok hskip
        unfold toksF
        rw [hskip]
        simp only
        rw [htok]
        simp only [if_true]
        have hdrop : (c :: t).drop p.s.length = txtG ps gs := by rw [← hs, List.drop_left']; rfl
        rw [hdrop, ih]
        simp only [if_true, tkG, hs]
theorem tkG_mt (K : Nat) : ∀ (ps : List Pc) (gs : List (List UInt8)), Fill ps gs → ∃ us, tkG K ps gs = us ++ [⟨0, [], K⟩] ∧ Mt ps us
  | [], gs, hf => ⟨[], by cases gs <;> rfl, trivial⟩
  | p :: ps, [], hf => hf.elim
  | p :: ps, g :: gs, hf => by
    obtain ⟨us, h1, h2⟩ := tkG_mt K ps gs hf.2
    exact ⟨_ :: us, by rw [tkG, h1]; rfl, ⟨rfl, rfl⟩, h2⟩
end Go.Proofs.YtmkgmjdbgjiehaaDoor.Ab
namespace Go.Proofs.YtmkgmjdbgjiehaaDoor.Ab
set_option linter.unusedVariables false
def EndP (p : Pc) : Prop := p.k = 1 ∨ p.k = 2 ∨ p.k = 3 ∨ (p.k = 4 ∧ (p.s = [41] ∨ p.s = [125]))
def OpenP (p : Pc) : Prop := p.k = 4 ∧ (p.s = [40] ∨ p.s = [45] ∨ p.s = [123])
def closers : List UInt8 := [40, 41, 44, 58, 59, 123, 125]
theorem EndP.ok {p : Pc} (h : EndP p) {c : UInt8} (hc : c ∈ closers) : okNext p c = true := by
  simp only [closers, List.mem_cons, List.not_mem_nil, or_false] at hc
  unfold okNext
  rcases h with h | h | h | ⟨h, h2 | h2⟩
  · rw [if_neg (by omega), if_neg (by omega)]; rcases hc with rfl | rfl | rfl | rfl | rfl | rfl | rfl <;> decide
  · rw [if_neg (by omega), if_neg (by omega)]; rcases hc with rfl | rfl | rfl | rfl | rfl | rfl | rfl <;> decide
  · rw [if_neg (by omega), if_pos h]; rcases hc with rfl | rfl | rfl | rfl | rfl | rfl | rfl <;> decide
  · rw [if_pos h, h2]; rcases hc with rfl | rfl | rfl | rfl | rfl | rfl | rfl <;> decide
  · rw [if_pos h, h2]; rcases hc with rfl | rfl | rfl | rfl | rfl | rfl | rfl <;> decide
def Beg (c : UInt8) : Prop := smallB c = true ∨ digitB c = true ∨ c = 40 ∨ c = 45
theorem OpenP.ok {p : Pc} (h : OpenP p) {c : UInt8} (hc : Beg c) : okNext p c = true := by
  unfold okNext
  obtain ⟨h1, h2⟩ := h
  rw [if_pos h1]
  have hc' : c.toNat ≠ 62 ∧ c.toNat ≠ 61 := by
    rcases hc with h | h | rfl | rfl
    · simp [smallB] at h; omega
    · simp [digitB] at h; omega
    · decide
    · decide
  rcases h2 with h2 | h2 | h2 <;> rw [h2] <;> simp [twoB, hc'.1]
def Lk (p q : Pc) : Prop := q.b = false → ∃ c t, q.s = c :: t ∧ okNext p c = true
theorem Lk.blank {p q : Pc} (h : q.b = true) : Lk p q := fun h2 => by rw [h] at h2; cases h2
theorem Lk.ends {p q : Pc} (h : EndP p) {c : UInt8} {t : List UInt8} (hs : q.s = c :: t) (hc : c ∈ closers) : Lk p q := fun _ => ⟨c, t, hs, h.ok hc⟩
theorem Lk.opens {p q : Pc} (h : OpenP p) {c : UInt8} {t : List UInt8} (hs : q.s = c :: t) (hc : Beg c) : Lk p q := fun _ => ⟨c, t, hs, h.ok hc⟩
theorem Ch.cons {p q : Pc} {ps : List Pc} (h1 : Lk p q) (h2 : pieceOK q) (h3 : Ch q ps) : Ch p (q :: ps) := ⟨h1, h2, h3⟩
theorem num_ok {m : Nat} (h : m < 10 ^ 40) (b : Bool) : pieceOK ⟨3, numT m, b⟩ ∧ ∃ c t, numT m = c :: t ∧ digitB c = true := by
  obtain ⟨_, _, a3, _⟩ := numT_ok m
  have hlen := numT_len 39 m h
  cases hs : numT m with
  | nil => have := (numT_ok m).2.1; rw [hs] at this; simp [wellD] at this
  | cons c t =>
    rw [hs] at a3 hlen
    have hd : digitB c = true := by simp only [List.all_cons, Bool.and_eq_true] at a3; simpa [digD, digitB] using a3.1
    have hsm : smallB c = false := by simp [digitB] at hd; simp [smallB]; omega
    have htw : (c :: t).takeWhile digitB = c :: t := by
      have hall : ∀ x ∈ c :: t, digitB x = true := fun x hx => by have := List.all_eq_true.1 a3 x hx; simpa [digD, digitB] using this
      clear hs a3 hlen hd hsm
      generalize c :: t = l at hall
      induction l with
      | nil => rfl
      | cons a l ih => rw [List.takeWhile_cons_of_pos (hall a (by simp)), ih fun x hx => hall x (by simp [hx])]
    exact ⟨⟨by simp only; rw [tokF_dig hsm hd, htw, if_neg (by omega)], by simp⟩, c, t, rfl, hd⟩
theorem name_ok {s : List UInt8} (h : nameOK s) (b : Bool) : pieceOK ⟨1, s, b⟩ ∧ ∃ c t, s = c :: t ∧ smallB c = true := by
  have hne : s ≠ [] := by rintro rfl; have := h.1; simp [tokF] at this
  obtain ⟨a, t, rfl, hh⟩ := piece_cases h.1 hne
  refine ⟨⟨h.1, hne⟩, a, t, rfl, ?_⟩
  rcases hh with ⟨g, _⟩ | ⟨_, _, _, _, hk⟩ | ⟨_, _, hk, _⟩
  · exact g
  · omega
  · omega
theorem pcok {k : Nat} {s : List UInt8} {b : Bool} (h : (tokF s == (k, s, 0) && !s.isEmpty) = true) : pieceOK ⟨k, s, b⟩ := by
  simp only [Bool.and_eq_true, beq_iff_eq, Bool.not_eq_true', List.isEmpty_eq_false_iff] at h
  exact h
theorem word_ok {s : List UInt8} (b : Bool) (h : tokF s = (2, s, 0)) (hs : s ≠ []) : pieceOK ⟨2, s, b⟩ := ⟨h, hs⟩
theorem sign_ok {s : List UInt8} (b : Bool) (h : tokF s = (4, s, 0)) (hs : s ≠ []) : pieceOK ⟨4, s, b⟩ := ⟨h, hs⟩
def After (rest : List Pc) : Prop := ∀ p, EndP p → Ch p rest
def Well (x : Nat → Bool → List Pc) : Prop := ∀ least prev b rest, (b = true ∨ OpenP prev) → After rest → Ch prev (x least b ++ rest)
def WellB (x : Bool → List Pc) : Prop := ∀ prev b rest, (b = true ∨ OpenP prev) → After rest → Ch prev (x b ++ rest)
theorem lk_beg {prev q : Pc} (h : q.b = true ∨ OpenP prev) {c : UInt8} {t : List UInt8} (hs : q.s = c :: t) (hc : Beg c) : Lk prev q := by
  rcases h with h | h
  · exact .blank h
  · exact .opens h hs hc
theorem after_close {b : Bool} {rest : List Pc} (h : After rest) : After (⟨4, [41], b⟩ :: rest) := fun p hp =>
  .cons (fun _ => ⟨41, [], rfl, hp.ok (by decide)⟩) (sign_ok b rfl (by simp)) (h _ (.inr (.inr (.inr ⟨rfl, .inl rfl⟩))))
theorem well_par {n : Nat} {x : Bool → List Pc} (h : WellB x) : Well fun least b => parP n least b x := by
  intro least prev b rest hb ha
  unfold parP
  simp only
  by_cases hn : n < least
  · rw [if_pos hn]
    refine .cons (lk_beg (c := 40) (t := []) hb rfl (.inr (.inr (.inl rfl)))) (sign_ok b rfl (by simp)) ?_
    show Ch _ ((x false ++ [⟨4, [41], false⟩]) ++ rest)
    rw [List.append_assoc]
    exact h _ false _ (.inr ⟨rfl, .inl rfl⟩) (after_close ha)
  · rw [if_neg hn]; exact h prev b rest hb ha
theorem after_word {s : List UInt8} {rest : List Pc} (h1 : tokF s = (2, s, 0)) (hs : s ≠ []) (h : Ch ⟨2, s, true⟩ rest) : After (⟨2, s, true⟩ :: rest) := fun p _ => .cons (.blank rfl) (word_ok true h1 hs) h
theorem well_rest : ∀ {l : List Ex}, (∀ e ∈ l, Well (pcE e)) → ∀ {rest : List Pc}, After (⟨4, [41], false⟩ :: rest) → After (restP (pcA l) ++ ⟨4, [41], false⟩ :: rest)
  | [], _, rest, h => by simpa [pcA, restP] using h
  | e :: l, hl, rest, h => by
    intro p hp
    simp only [pcA, restP, List.flatMap_cons]
    rw [List.append_assoc, List.cons_append]
    refine .cons (fun _ => ⟨44, [], rfl, hp.ok (by decide)⟩) (sign_ok false rfl (by simp)) ?_
    exact hl e (by simp) 0 _ true _ (.inl rfl) (well_rest (fun x hx => hl x (by simp [hx])) h)
theorem well_call {k : Nat} {s : List UInt8} {b : Bool} {l : List Ex} {prev : Pc} {rest : List Pc} (hp : pieceOK ⟨k, s, b⟩) (hk : k = 1 ∨ k = 2) (hs : ∃ c t, s = c :: t ∧ smallB c = true) (hb : b = true ∨ OpenP prev) (hl : ∀ e ∈ l, Well (pcE e)) (ha : After rest) : Ch prev (callP k s b (pcA l) ++ rest) := by
  obtain ⟨c, t, hs, hc⟩ := hs
  unfold callP
  refine .cons (lk_beg (q := ⟨k, s, b⟩) hb hs (.inl hc)) hp ?_
  have hE : EndP ⟨k, s, b⟩ := by rcases hk with rfl | rfl; exact .inl rfl; exact .inr (.inl rfl)
  show Ch _ (((⟨4, [40], false⟩ : Pc) :: (listP (pcA l) ++ [⟨4, [41], false⟩])) ++ rest)
  rw [List.cons_append]
  refine .cons (fun _ => ⟨40, [], rfl, hE.ok (by decide)⟩) (sign_ok false rfl (by simp)) ?_
  rw [List.append_assoc]
  cases l with
  | nil =>
    simp only [pcA, listP, List.nil_append]
    exact .cons (fun _ => ⟨41, [], rfl, rfl⟩) (sign_ok false rfl (by simp)) (ha _ (.inr (.inr (.inr ⟨rfl, .inl rfl⟩))))
  | cons e l =>
    simp only [pcA, listP]
    rw [List.append_assoc]
    exact hl e (by simp) 0 _ false _ (.inr ⟨rfl, .inl rfl⟩) (well_rest (fun x hx => hl x (by simp [hx])) (after_close ha))
theorem wellB : ∀ e : Ex, Okx e → WellB (pcB e)
  | .mk k nm m l fr to, he => by
    rw [Okx] at he
    obtain ⟨hk, hl⟩ := he
    have ih : ∀ a ∈ l, Well (pcE a) := fun a ha => well_par (wellB a (Okxs_mem hl a ha))
    intro prev b rest hb ha
    rw [pcB]
    have hb' : ∀ k s, (⟨k, s, b⟩ : Pc).b = true ∨ OpenP prev := fun _ _ => hb
    have two : 8 ≤ k ∧ k ≤ 20 → Ch prev (bareP k nm m b (pcA l) ++ rest) := by
      intro hk2
      have hl2 : l.length = 2 := by unfold wfK at hk; omega
      match l, hl2, ih with
      | [x, y], _, ih =>
        rw [bin_pc hk2, List.append_assoc, List.cons_append]
        refine ih x (by simp) _ prev b _ hb fun p hp => ?_
        refine .cons (.blank rfl) ?_ (ih y (by simp) _ _ true rest (.inl rfl) ha)
        have : k = 8 ∨ k = 9 ∨ k = 10 ∨ k = 11 ∨ k = 12 ∨ k = 13 ∨ k = 14 ∨ k = 15 ∨ k = 16 ∨ k = 17 ∨ k = 18 ∨ k = 19 ∨ k = 20 := by omega
        rcases this with rfl | rfl | rfl | rfl | rfl | rfl | rfl | rfl | rfl | rfl | rfl | rfl | rfl <;> exact (pcok (by decide))
    by_cases hk2 : 8 ≤ k ∧ k ≤ 20
    · exact two hk2
    · have hks : k = 1 ∨ k = 2 ∨ k = 3 ∨ k = 4 ∨ k = 5 ∨ k = 6 ∨ k = 7 ∨ k = 21 ∨ k = 22 ∨ k = 23 ∨ k = 24 ∨ k = 25 ∨ k = 26 ∨ k = 27 := by unfold wfK at hk; omega
      rcases hks with rfl | rfl | rfl | rfl | rfl | rfl | rfl | rfl | rfl | rfl | rfl | rfl | rfl | rfl
      · have hm : m < 10 ^ 40 := by unfold wfK at hk; omega
        obtain ⟨h1, c, t, h2, h3⟩ := num_ok hm b
        exact .cons (lk_beg (q := ⟨3, numT m, b⟩) hb h2 (.inr (.inl h3))) h1 (ha _ (.inr (.inr (.inl rfl))))
      · exact .cons (lk_beg (q := ⟨2, [116, 114, 117, 101], b⟩) hb rfl (.inl (by decide))) (pcok (by decide)) (ha _ (.inr (.inl rfl)))
      · exact .cons (lk_beg (q := ⟨2, [102, 97, 108, 115, 101], b⟩) hb rfl (.inl (by decide))) (pcok (by decide)) (ha _ (.inr (.inl rfl)))
      · have hn : nm = [118] ∨ nameOK nm := by unfold wfK at hk; rcases hk with h | h | h | h | h | h | h | h | h <;> first | exact h.2.1 | omega
        by_cases hv : nm = [118]
        · subst hv
          exact .cons (lk_beg (q := ⟨2, [118], b⟩) hb rfl (.inl (by decide))) (pcok (by decide)) (ha _ (.inr (.inl rfl)))
        · obtain ⟨h1, c, t, h2, h3⟩ := name_ok (hn.resolve_left hv) b
          show Ch prev ((⟨if nm = [118] then 2 else 1, nm, b⟩ : Pc) :: rest)
          rw [if_neg hv]
          exact .cons (lk_beg (q := ⟨1, nm, b⟩) hb h2 (.inl h3)) h1 (ha _ (.inl rfl))
      · have hn : nameOK nm := by unfold wfK at hk; rcases hk with h | h | h | h | h | h | h | h | h <;> first | exact h.2.1 | omega
        obtain ⟨h1, h2⟩ := name_ok hn b
        exact well_call h1 (.inl rfl) h2 hb ih ha
      · have hl1 : l.length = 1 := by unfold wfK at hk; omega
        match l, hl1, ih with
        | [x], _, ih =>
          exact .cons (lk_beg (q := ⟨4, [45], b⟩) hb rfl (.inr (.inr (.inr rfl)))) (pcok (by decide)) (ih x (by simp) 6 _ false rest (.inr ⟨rfl, .inr (.inl rfl)⟩) ha)
      · have hl1 : l.length = 1 := by unfold wfK at hk; omega
        match l, hl1, ih with
        | [x], _, ih =>
          exact .cons (lk_beg (q := ⟨2, [110, 111, 116], b⟩) hb rfl (.inl (by decide))) (pcok (by decide)) (ih x (by simp) 6 _ true rest (.inl rfl) ha)
      · have hl1 : l.length = 2 := by unfold wfK at hk; omega
        have hn : nameOK nm := by unfold wfK at hk; rcases hk with h | h | h | h | h | h | h | h | h <;> first | exact h.2.1 | omega
        match l, hl1, ih with
        | [x, y], _, ih =>
          obtain ⟨h1, _⟩ := name_ok hn true
          refine .cons (lk_beg (q := ⟨2, [108, 101, 116], b⟩) hb rfl (.inl (by decide))) (pcok (by decide)) (.cons (.blank rfl) h1 (.cons (.blank rfl) (pcok (by decide)) ?_))
          show Ch _ ((pcE x 0 true ++ ⟨2, [105, 110], true⟩ :: pcE y 0 true) ++ rest)
          rw [List.append_assoc]
          exact ih x (by simp) 0 _ true _ (.inl rfl) (after_word (by decide) (by decide) (ih y (by simp) 0 _ true rest (.inl rfl) ha))
      · have hl1 : l.length = 3 := by unfold wfK at hk; omega
        match l, hl1, ih with
        | [x, y, z], _, ih =>
          refine .cons (lk_beg (q := ⟨2, [105, 102], b⟩) hb rfl (.inl (by decide))) (pcok (by decide)) ?_
          show Ch _ ((pcE x 0 true ++ ⟨2, [116, 104, 101, 110], true⟩ :: (pcE y 0 true ++ ⟨2, [101, 108, 115, 101], true⟩ :: pcE z 0 true)) ++ rest)
          rw [List.append_assoc]
          refine ih x (by simp) 0 _ true _ (.inl rfl) (after_word (by decide) (by decide) ?_)
          show Ch _ ((pcE y 0 true ++ ⟨2, [101, 108, 115, 101], true⟩ :: pcE z 0 true) ++ rest)
          rw [List.append_assoc]
          exact ih y (by simp) 0 _ true _ (.inl rfl) (after_word (by decide) (by decide) (ih z (by simp) 0 _ true rest (.inl rfl) ha))
      · have hl1 : l.length = 2 := by unfold wfK at hk; omega
        match l, hl1, ih with
        | [x, y], _, ih =>
          refine .cons (lk_beg (q := ⟨2, [97, 115, 115, 101, 114, 116], b⟩) hb rfl (.inl (by decide))) (pcok (by decide)) ?_
          show Ch _ ((pcE x 0 true ++ ⟨2, [105, 110], true⟩ :: pcE y 0 true) ++ rest)
          rw [List.append_assoc]
          exact ih x (by simp) 0 _ true _ (.inl rfl) (after_word (by decide) (by decide) (ih y (by simp) 0 _ true rest (.inl rfl) ha))
      · exact well_call (pcok (by decide)) (.inr rfl) ⟨_, _, rfl, by decide⟩ hb ih ha
      · exact well_call (pcok (by decide)) (.inr rfl) ⟨_, _, rfl, by decide⟩ hb ih ha
      · exact well_call (pcok (by decide)) (.inr rfl) ⟨_, _, rfl, by decide⟩ hb ih ha
      · have hl1 : l.length = 1 ∧ m ≤ 1000000 := by unfold wfK at hk; omega
        match l, hl1.1, ih with
        | [x], _, ih =>
          obtain ⟨h1, c, t, h2, h3⟩ := num_ok (m := m) (by have := hl1.2; omega) false
          refine .cons (lk_beg (q := ⟨2, [102, 105, 108, 108], b⟩) hb rfl (.inl (by decide))) (pcok (by decide)) (.cons (fun _ => ⟨40, [], rfl, (EndP.ok (.inr (.inl rfl)) (by decide))⟩) (pcok (by decide)) (.cons (.opens ⟨rfl, .inl rfl⟩ h2 (.inr (.inl h3))) h1 (.cons (fun _ => ⟨44, [], rfl, (EndP.ok (.inr (.inr (.inl rfl))) (by decide))⟩) (pcok (by decide)) ?_)))
          show Ch _ ((pcE x 0 true ++ [⟨4, [41], false⟩]) ++ rest)
          rw [List.append_assoc]
          exact ih x (by simp) 0 _ true _ (.inl rfl) (after_close ha)
theorem wellE {e : Ex} (h : Okx e) : Well (pcE e) := well_par (wellB e h)
end Go.Proofs.YtmkgmjdbgjiehaaDoor.Ab
namespace Go.Proofs.YtmkgmjdbgjiehaaDoor.Ab
set_option linter.unusedVariables false
mutual
def nd : Ex → Nat
  | .mk _ _ _ l _ _ => 1 + nds l
def nds : List Ex → Nat
  | [] => 0
  | e :: l => nd e + nds l
end
theorem nds_app : ∀ a b : List Ex, nds (a ++ b) = nds a + nds b
  | [], b => by simp [nds]
  | e :: a, b => by simp only [List.cons_append, nds, nds_app a b]; omega
def Wn {α : Type} (x : Rs α) (f : α → Nat) (k : Nat) : Prop := ∀ a r, x = .ok a r → f a + r.length ≤ k
section
variable {α β : Type} {f : α → Nat} {k : Nat} {ts : List TK}
theorem Wn.bind {x : Rs α} {g : α → List TK → Rs β} {f' : β → Nat} {k' : Nat} (h : Wn x f k) (c : ∀ a r, f a + r.length ≤ k → Wn (g a r) f' k') : Wn (x.bind g) f' k' := fun b r e => by
  cases hx : x with
  | ok a r' => rw [hx] at e; exact c a r' (h a r' hx) b r e
  | bad => rw [hx] at e; simp at e
  | off => rw [hx] at e; simp at e
theorem Wn.ok {a : α} {r : List TK} (h : f a + r.length ≤ k) : Wn (.ok a r) f k := fun _ _ e => by cases e; exact h
theorem Wn.bad (a b e : Nat) (r : List TK) : Wn (.bad a b e r : Rs α) f k := fun _ _ e => by cases e
theorem Wn.off : Wn (.off : Rs α) f k := fun _ _ e => by cases e
theorem Wn.miss (ts : List TK) : Wn (missT ts : Rs α) f k := by cases ts <;> intro _ _ e <;> cases e
theorem Wn.need {x : Rs α} (h : Wn x f k) : Wn (needT ts x) f k := by cases ts; exact .off; exact h
theorem Wn.le {x : Rs α} {k' : Nat} (h : Wn x f k) (l : k ≤ k') : Wn x f k' := fun a r e => by have := h a r e; omega
theorem Wn.sh {x : Rs α} (h : Sh ts x) : Wn x (fun _ => 1) ts.length := fun a r e => by have := (h a r e).2; show 1 + r.length ≤ ts.length; omega
theorem Wn.want (s : List UInt8) (ts : List TK) : Wn (wantT s ts) (fun _ => 1) ts.length := .sh (Sh.want s ts)
theorem Wn.name (ts : List TK) : Wn (nameT ts) (fun _ => 1) ts.length := .sh (Sh.name ts)
theorem Wn.places (ts : List TK) : Wn (placesT ts) (fun _ => 1) ts.length := .sh (Sh.places ts)
theorem Wn.comma (b : Bool) (ts : List TK) : Wn (if b = true then .ok () ts else wantT [44] ts) (fun _ => 0) ts.length := by
  split
  · exact .ok (by omega)
  · exact fun a r e => by have := (Sh.want _ _ a r e).2; show 0 + r.length ≤ ts.length; omega
end
section
variable (M : Nat) (L : List TK)
structure AllWn (n : Nat) : Prop where
  expr : ∀ d ts, Wn (exprT M L n d ts) nd ts.length
  row : ∀ lv d ts, Wn (rowT M L n lv d ts) nd ts.length
  loop : ∀ lv d fr a ts, Wn (loopT M L n lv d fr a ts) nd (nd a + ts.length)
  unary : ∀ d ts, Wn (unaryT M L n d ts) nd ts.length
  atom : ∀ d ts, Wn (atomT M L n d ts) nd ts.length
  arr : ∀ d fr ts, Wn (arrT M L n d fr ts) nd ts.length
  args : ∀ c d ts, Wn (argsT M L n c d ts) nds ts.length
  arg : ∀ c d acc ts, Wn (argT M L n c d acc ts) nds (nds acc + ts.length)
theorem allWn : ∀ n, AllWn M L n
  | 0 => ⟨fun _ _ => by unfold exprT; exact .off, fun _ _ _ => by unfold rowT; exact .off, fun _ _ _ _ _ => by unfold loopT; exact .off, fun _ _ => by unfold unaryT; exact .off, fun _ _ => by unfold atomT; exact .off, fun _ _ _ => by unfold arrT; exact .off, fun _ _ _ => by unfold argsT; exact .off, fun _ _ _ _ => by unfold argT; exact .off⟩
  | n + 1 => by
    have ih := allWn n
    constructor
    · intro d ts
      unfold exprT
      split
      · exact .off
      · split
        · exact .bad _ _ _ _
        · split
          · rename_i h
            have g1 := (takeT_some h).2
            exact (Wn.name _).bind fun nm r2 e2 => (Wn.want _ _).bind fun _ r3 e3 => (ih.expr _ _).bind fun a r4 e4 => (Wn.want _ _).bind fun _ r5 e5 => (ih.expr _ _).bind fun b r6 e6 => .ok (by simp only [nd, nds]; omega)
          · split
            · rename_i h
              have g1 := (takeT_some h).2
              exact (ih.expr _ _).bind fun a r2 e2 => (Wn.want _ _).bind fun _ r3 e3 => (ih.expr _ _).bind fun b r4 e4 => (Wn.want _ _).bind fun _ r5 e5 => (ih.expr _ _).bind fun c r6 e6 => .ok (by simp only [nd, nds]; omega)
            · split
              · rename_i h
                have g1 := (takeT_some h).2
                exact (ih.expr _ _).bind fun a r2 e2 => (Wn.want _ _).bind fun _ r3 e3 => (ih.expr _ _).bind fun b r4 e4 => .ok (by simp only [nd, nds]; omega)
              · exact ih.row _ _ _
    · intro lv d ts
      unfold rowT
      split
      · exact ih.unary _ _
      · split
        · exact .off
        · exact (ih.row _ _ _).bind fun a r2 e2 => (ih.loop _ _ _ _ _).le (by omega)
    · intro lv d fr a ts
      unfold loopT
      split
      · exact .off
      · rename_i t r
        split
        · exact .ok (by omega)
        · refine (ih.row _ _ _).bind fun b r2 e2 => ?_
          have hl : (t :: r).length = r.length + 1 := rfl
          split
          · exact .ok (by simp only [nd, nds]; omega)
          · exact (ih.loop _ _ _ _ _).le (by simp only [nd, nds]; omega)
    · intro d ts
      unfold unaryT
      split
      · exact .off
      · split
        · exact .bad _ _ _ _
        · split
          · rename_i h
            have g1 := (takeT_some h).2
            exact (ih.unary _ _).bind fun a r2 e2 => .ok (by simp only [nd, nds]; omega)
          · split
            · rename_i h
              have g1 := (takeT_some h).2
              exact (ih.unary _ _).bind fun a r2 e2 => .ok (by simp only [nd, nds]; omega)
            · exact ih.atom _ _
    · intro d ts
      unfold atomT
      split
      · exact .off
      · rename_i t r
        have hl : (t :: r).length = r.length + 1 := rfl
        split
        · split
          · exact .ok (by simp only [nd, nds]; omega)
          · exact .bad _ _ _ _
        · split
          · refine Wn.need ?_
            split
            · exact (ih.args _ _ _).bind fun l r2 e2 => .ok (by simp only [nd]; omega)
            · exact .ok (by simp only [nd, nds]; omega)
          · split
            · rename_i h; have g1 := (takeT_some h).2; exact .ok (by simp only [nd, nds]; omega)
            · split
              · rename_i h; have g1 := (takeT_some h).2; exact .ok (by simp only [nd, nds]; omega)
              · split
                · rename_i h; have g1 := (takeT_some h).2; exact .ok (by simp only [nd, nds]; omega)
                · split
                  · rename_i h; have g1 := (takeT_some h).2; exact (ih.expr _ _).bind fun e r2 e2 => (Wn.want _ _).bind fun _ r3 e3 => .ok (by omega)
                  · exact ih.arr _ _ _
    · intro d fr ts
      unfold arrT
      split
      · rename_i h; have g1 := (takeT_some h).2; exact (ih.args _ _ _).bind fun l r2 e2 => .ok (by simp only [nd]; omega)
      · split
        · rename_i h; have g1 := (takeT_some h).2; exact (ih.args _ _ _).bind fun l r2 e2 => .ok (by simp only [nd]; omega)
        · split
          · rename_i h; have g1 := (takeT_some h).2; exact (ih.args _ _ _).bind fun l r2 e2 => .ok (by simp only [nd]; omega)
          · split
            · rename_i h; have g1 := (takeT_some h).2
              exact (Wn.want _ _).bind fun _ r2 e2 => (Wn.places _).bind fun k r3 e3 => (Wn.want _ _).bind fun _ r4 e4 => (ih.expr _ _).bind fun a r5 e5 => (Wn.want _ _).bind fun _ r6 e6 => .ok (by simp only [nd, nds]; omega)
            · exact .miss _
    · intro c d ts
      unfold argsT
      refine (Wn.want _ _).bind fun _ r1 e1 => (ih.arg _ _ _ _).bind fun l r2 e2 => ?_
      split
      · exact .bad _ _ _ _
      · exact (Wn.want _ _).bind fun _ r3 e3 => .ok (by simp only [nds] at e2; omega)
    · intro c d acc ts
      unfold argT
      split
      · refine Wn.bind (f := fun _ => 0) (k := ts.length) (x := if acc = [] then .ok () ts else wantT [44] ts) ?_ fun _ r1 e1 => (ih.expr _ _).bind fun e r2 e2 => ?_
        · split
          · exact .ok (by omega)
          · exact fun a r e => by have := (Sh.want _ _ a r e).2; show 0 + r.length ≤ ts.length; omega
        · split
          · exact .bad _ _ _ _
          · exact (ih.arg _ _ _ _).le (by simp only [nds_app, nds]; omega)
      · exact .ok (by omega)
def ndT (t : Ty) : Nat := 1 + (match t.pred with
  | some e => nd e
  | none => 0)
def ndPs : List Pm → Nat
  | [] => 0
  | m :: l => 1 + ndT m.ty + ndPs l
theorem ndPs_app : ∀ a b : List Pm, ndPs (a ++ b) = ndPs a + ndPs b
  | [], b => by simp [ndPs]
  | e :: a, b => by simp only [List.cons_append, ndPs, ndPs_app a b]; omega
def ndI (it : It) : Nat := 1 + ndPs it.params + ndT it.result + nd it.body
theorem Wn.typ (n : Nat) (ts : List TK) : Wn (typT M L n ts) ndT ts.length := by
  cases ts with
  | nil => exact .off
  | cons t r =>
    unfold typT
    refine Wn.bind (f := fun _ => 1) (k := (t :: r).length) ?_ fun b r2 e2 => Wn.need ?_
    · split
      · rename_i h; have g1 := (takeT_some h).2; exact .ok (by omega)
      · split
        · rename_i h; have g1 := (takeT_some h).2; exact .ok (by omega)
        · split
          · rename_i h; have g1 := (takeT_some h).2; exact (Wn.places _).bind fun k r2 e2 => .ok (by omega)
          · exact .miss _
    · split
      · rename_i h; have g1 := (takeT_some h).2
        exact ((allWn M L n).expr _ _).bind fun e r4 e4 => (Wn.want _ _).bind fun _ r5 e5 => .ok (by simp only [ndT]; omega)
      · exact .ok (by simp only [ndT]; omega)
theorem Wn.qual : ∀ (n : Nat) (acc : List Pm) (ts : List TK), Wn (qualT n acc ts) ndPs (ndPs acc + 2 * ts.length)
  | 0, acc, ts => .off
  | n + 1, acc, ts => by
    unfold qualT
    refine (Wn.name _).bind fun x r1 e1 => ?_
    split
    · exact .bad _ _ _ _
    · refine Wn.need ?_
      split
      · rename_i h; have g1 := (takeT_some h).2
        exact (Wn.qual n _ _).le (by simp only [ndPs_app, ndPs, ndT]; omega)
      · exact .ok (by simp only [ndPs_app, ndPs, ndT]; omega)
theorem Wn.pars (m : Nat) : ∀ (n : Nat) (acc : List Pm) (ts : List TK), Wn (parsT M L m n acc ts) ndPs (ndPs acc + ts.length)
  | 0, acc, ts => .off
  | n + 1, acc, ts => by
    unfold parsT
    split
    · exact .ok (by omega)
    · refine Wn.bind (f := fun _ => 0) (k := ts.length) (x := if acc = [] then .ok () ts else wantT [44] ts) ?_ fun _ r1 e1 => (Wn.name _).bind fun x r2 e2 => (Wn.want _ _).bind fun _ r3 e3 => (Wn.typ M L m _).bind fun y r4 e4 => ?_
      · split
        · exact .ok (by omega)
        · exact fun a r e => by have := (Sh.want _ _ a r e).2; show 0 + r.length ≤ ts.length; omega
      · split
        · exact .bad _ _ _ _
        · exact (Wn.pars m n _ _).le (by simp only [ndPs_app, ndPs]; omega)
theorem Wn.item (n : Nat) (ts : List TK) : Wn (itemT M L n ts) ndI (2 * ts.length) := by
  unfold itemT
  refine Wn.bind (f := fun h => 1 + ndPs h.params + ndT h.result) (k := 2 * ts.length) ?_ fun h r1 e1 => (Wn.want _ _).bind fun _ r2 e2 => ((allWn M L n).expr _ _).bind fun b r3 e3 => (Wn.want _ _).bind fun _ r4 e4 => ?_
  · unfold headT
    split
    · rename_i h; have g1 := (takeT_some h).2
      exact (Wn.name _).bind fun t r2 e2 => (Wn.want _ _).bind fun _ r3 e3 => (Wn.qual n [] _).bind fun l r4 e4 => (Wn.want _ _).bind fun _ r5 e5 => .ok (by simp only [ndPs, ndT] at *; omega)
    · refine Wn.bind (f := fun _ => 0) (k := ts.length) (x := match takeT [112, 117, 98] ts with | some r => Rs.ok true r | none => .ok false ts) ?_ fun p r0 e0 => (Wn.want _ _).bind fun _ r1 e1 => (Wn.name _).bind fun t r2 e2 => (Wn.want _ _).bind fun _ r3 e3 => (Wn.pars M L n n [] _).bind fun l r4 e4 => (Wn.want _ _).bind fun _ r5 e5 => (Wn.want _ _).bind fun _ r6 e6 => (Wn.typ M L n _).bind fun y r7 e7 => .ok (by simp only [ndPs] at *; omega)
      split
      · rename_i h; have g1 := (takeT_some h).2; exact .ok (by omega)
      · exact .ok (by omega)
  · split
    · exact .off
    · split
      · exact .ok (by simp only [ndI]; omega)
      · exact .bad _ _ _ _
end
end Go.Proofs.YtmkgmjdbgjiehaaDoor.Ab
namespace Go.Proofs.YtmkgmjdbgjiehaaDoor.Ab
set_option linter.unusedVariables false
set_option linter.unusedSimpArgs false
theorem txtP_app (a b : List Pc) : txtP (a ++ b) = txtP a ++ txtP b := List.flatMap_append
theorem txtP_cons (p : Pc) (b : List Pc) : txtP (p :: b) = p.txt ++ txtP b := rfl
theorem txtP_nil : txtP [] = [] := rfl
theorem txt_t (k : Nat) (s : List UInt8) : (⟨k, s, true⟩ : Pc).txt = 32 :: s := rfl
theorem txt_f (k : Nat) (s : List UInt8) : (⟨k, s, false⟩ : Pc).txt = s := rfl
def sh (e : Ex) (least : Nat) : List UInt8 := txtP (pcE e least false)
def ba (e : Ex) : List UInt8 := txtP (pcB e false)
theorem sh_eq (e : Ex) (least : Nat) : sh e least = if bindsK e.kind < least then 40 :: (ba e ++ [41]) else ba e := by
  unfold sh pcE parP
  split
  · simp [txtP_cons, txtP_app, txt_f, txtP_nil, ba]
  · rfl
theorem pcE_hd {e : Ex} (h : txtP (pcB e true) = 32 :: ba e) (least : Nat) : txtP (pcE e least true) = 32 :: sh e least := by
  unfold sh pcE parP
  split
  · simp [txtP_cons, txtP_app, txt_f, txt_t, txtP_nil, ba]
  · exact h
theorem ba_hd : ∀ e : Ex, Okx e → txtP (pcB e true) = 32 :: ba e
  | .mk k nm m l fr to, he => by
    rw [Okx] at he
    obtain ⟨hk, hl⟩ := he
    have ih : ∀ a ∈ l, ∀ least, txtP (pcE a least true) = 32 :: sh a least := fun a ha least => pcE_hd (ba_hd a (Okxs_mem hl a ha)) least
    unfold ba
    rw [pcB]
    by_cases hk2 : 8 ≤ k ∧ k ≤ 20
    · have hl2 : l.length = 2 := by unfold wfK at hk; omega
      match l, hl2, ih with
      | [x, y], _, ih =>
        simp only []
        rw [bin_pc hk2, bin_pc hk2, txtP_app, txtP_app, ih x (by simp)]; rfl
    · have hks : k = 1 ∨ k = 2 ∨ k = 3 ∨ k = 4 ∨ k = 5 ∨ k = 6 ∨ k = 7 ∨ k = 21 ∨ k = 22 ∨ k = 23 ∨ k = 24 ∨ k = 25 ∨ k = 26 ∨ k = 27 := by unfold wfK at hk; omega
      rcases hks with rfl | rfl | rfl | rfl | rfl | rfl | rfl | rfl | rfl | rfl | rfl | rfl | rfl | rfl <;> rfl
theorem sh_hd {e : Ex} (h : Okx e) (least : Nat) : txtP (pcE e least true) = 32 :: sh e least := pcE_hd (ba_hd e h) least
theorem restT : ∀ {l : List Ex}, Okxs l → txtP (restP (pcA l)) = Lib.joinTail [44, 32] (l.map (sh · 0))
  | [], _ => rfl
  | e :: l, h => by
    rw [Okxs] at h
    have ih := restT h.2
    simp only [pcA, restP, List.flatMap_cons, Lib.joinTail, List.map_cons, List.flatten_cons] at ih ⊢
    rw [txtP_app, txtP_cons, txt_f, ih]
    have := sh_hd h.1 0
    unfold pcE at this
    rw [this]; rfl
theorem listT {l : List Ex} (h : Okxs l) : txtP (listP (pcA l)) = Lib.join (l.map (sh · 0)) [44, 32] := by
  cases l with
  | nil => rfl
  | cons e l =>
    have h' := h
    rw [Okxs] at h
    simp only [pcA, listP, List.map_cons]
    rw [txtP_app, Lib.join_cons, restT h.2]; rfl
theorem ba_1 {nm : List UInt8} {m : Nat} {l : List Ex} {fr to : Nat} : ba (.mk 1 nm m l fr to) = numT m := by unfold ba; rw [pcB]; simp [bareP, txtP_cons, txt_f, txtP_nil]
theorem ba_2 {nm : List UInt8} {m : Nat} {l : List Ex} {fr to : Nat} : ba (.mk 2 nm m l fr to) = [116, 114, 117, 101] := by unfold ba; rw [pcB]; rfl
theorem ba_3 {nm : List UInt8} {m : Nat} {l : List Ex} {fr to : Nat} : ba (.mk 3 nm m l fr to) = [102, 97, 108, 115, 101] := by unfold ba; rw [pcB]; rfl
theorem ba_4 {nm : List UInt8} {m : Nat} {l : List Ex} {fr to : Nat} : ba (.mk 4 nm m l fr to) = nm := by unfold ba; rw [pcB]; simp [bareP, txtP_cons, txt_f, txtP_nil]
section
variable {nm : List UInt8} {m : Nat} {l : List Ex} {fr to : Nat}
theorem ba_call {k : Nat} {s : List UInt8} (h : Okxs l) : txtP (callP k s false (pcA l)) = s ++ 40 :: (Lib.join (l.map (sh · 0)) [44, 32] ++ [41]) := by
  unfold callP; rw [txtP_cons, txt_f, txtP_cons, txt_f, txtP_app, listT h]; rfl
theorem ba_5 (h : Okxs l) : ba (.mk 5 nm m l fr to) = nm ++ 40 :: (Lib.join (l.map (sh · 0)) [44, 32] ++ [41]) := by unfold ba; rw [pcB]; exact ba_call h
theorem ba_24 (h : Okxs l) : ba (.mk 24 nm m l fr to) = [103, 101, 116, 40] ++ (Lib.join (l.map (sh · 0)) [44, 32] ++ [41]) := by unfold ba; rw [pcB]; exact ba_call h
theorem ba_25 (h : Okxs l) : ba (.mk 25 nm m l fr to) = [115, 101, 116, 40] ++ (Lib.join (l.map (sh · 0)) [44, 32] ++ [41]) := by unfold ba; rw [pcB]; exact ba_call h
theorem ba_26 (h : Okxs l) : ba (.mk 26 nm m l fr to) = [108, 101, 110, 40] ++ (Lib.join (l.map (sh · 0)) [44, 32] ++ [41]) := by unfold ba; rw [pcB]; exact ba_call h
theorem ba_6 {a : Ex} (h : Okx a) : ba (.mk 6 nm m [a] fr to) = 45 :: sh a 6 := by unfold ba; rw [pcB]; rfl
theorem ba_7 {a : Ex} (h : Okx a) : ba (.mk 7 nm m [a] fr to) = [110, 111, 116, 32] ++ sh a 6 := by
  unfold ba; rw [pcB]; show txtP (⟨2, [110, 111, 116], false⟩ :: pcE a 6 true) = _
  rw [txtP_cons, sh_hd h]; rfl
theorem ba_21 {a b : Ex} (ha : Okx a) (hb : Okx b) : ba (.mk 21 nm m [a, b] fr to) = [108, 101, 116, 32] ++ nm ++ [32, 61, 32] ++ sh a 0 ++ [32, 105, 110, 32] ++ sh b 0 := by
  unfold ba; rw [pcB]
  show txtP (⟨2, [108, 101, 116], false⟩ :: ⟨1, nm, true⟩ :: ⟨4, [61], true⟩ :: (pcE a 0 true ++ ⟨2, [105, 110], true⟩ :: pcE b 0 true)) = _
  simp [txtP_cons, txtP_app, sh_hd ha, sh_hd hb, txt_f, txt_t]
theorem ba_22 {a b c : Ex} (ha : Okx a) (hb : Okx b) (hc : Okx c) : ba (.mk 22 nm m [a, b, c] fr to) = [105, 102, 32] ++ sh a 0 ++ [32, 116, 104, 101, 110, 32] ++ sh b 0 ++ [32, 101, 108, 115, 101, 32] ++ sh c 0 := by
  unfold ba; rw [pcB]
  show txtP (⟨2, [105, 102], false⟩ :: (pcE a 0 true ++ ⟨2, [116, 104, 101, 110], true⟩ :: (pcE b 0 true ++ ⟨2, [101, 108, 115, 101], true⟩ :: pcE c 0 true))) = _
  simp [txtP_cons, txtP_app, sh_hd ha, sh_hd hb, sh_hd hc, txt_f, txt_t]
theorem ba_23 {a b : Ex} (ha : Okx a) (hb : Okx b) : ba (.mk 23 nm m [a, b] fr to) = [97, 115, 115, 101, 114, 116, 32] ++ sh a 0 ++ [32, 105, 110, 32] ++ sh b 0 := by
  unfold ba; rw [pcB]
  show txtP (⟨2, [97, 115, 115, 101, 114, 116], false⟩ :: (pcE a 0 true ++ ⟨2, [105, 110], true⟩ :: pcE b 0 true)) = _
  simp [txtP_cons, txtP_app, sh_hd ha, sh_hd hb, txt_f, txt_t]
theorem ba_27 {a : Ex} (ha : Okx a) : ba (.mk 27 nm m [a] fr to) = [102, 105, 108, 108, 40] ++ numT m ++ [44, 32] ++ sh a 0 ++ [41] := by
  unfold ba; rw [pcB]
  show txtP (⟨2, [102, 105, 108, 108], false⟩ :: ⟨4, [40], false⟩ :: ⟨3, numT m, false⟩ :: ⟨4, [44], false⟩ :: (pcE a 0 true ++ [⟨4, [41], false⟩])) = _
  simp [txtP_cons, txtP_app, sh_hd ha, txt_f, txt_t, txtP_nil]
theorem ba_2n {k : Nat} {a b : Ex} (hk : 8 ≤ k ∧ k ≤ 20) (ha : Okx a) (hb : Okx b) : ba (.mk k nm m [a, b] fr to) = sh a (leftK k) ++ [32] ++ signW k ++ [32] ++ sh b (bindsK k + 1) := by
  unfold ba; rw [pcB]; simp only []; rw [bin_pc hk]
  simp [txtP_cons, txtP_app, sh_hd ha, sh_hd hb, txt_f, txt_t, sh]
end
theorem len_two {α : Type} {l : List α} (h : l.length = 2) : ∃ x y, l = [x, y] := match l, h with | [x, y], _ => ⟨x, y, rfl⟩
theorem len_three {α : Type} {l : List α} (h : l.length = 3) : ∃ x y z, l = [x, y, z] := match l, h with | [x, y, z], _ => ⟨x, y, z, rfl⟩
theorem nameOK_len {s : List UInt8} (h : nameOK s) : s.length ≤ 24 := by
  have hne : s ≠ [] := by rintro rfl; have := h.1; simp [tokF] at this
  obtain ⟨a, t, rfl, hh⟩ := piece_cases h.1 hne
  rcases hh with ⟨_, _, g, _⟩ | ⟨_, _, _, _, hk⟩ | ⟨_, _, hk, _⟩
  · exact g
  · omega
  · omega
theorem sh_len {e : Ex} {n : Nat} (h : (ba e).length ≤ n) (least : Nat) : (sh e least).length ≤ n + 2 := by
  rw [sh_eq]; split
  · simp; omega
  · omega
theorem joinTail_len (sep : List UInt8) : ∀ l : List (List UInt8), (Lib.joinTail sep l).length = (l.map fun x => sep.length + x.length).sum
  | [] => rfl
  | x :: l => by simp only [Lib.joinTail, List.map_cons, List.flatten_cons, List.length_append, List.sum_cons]; have := joinTail_len sep l; simp only [Lib.joinTail] at this; rw [this]
theorem join_len (sep : List UInt8) (l : List (List UInt8)) : (Lib.join l sep).length ≤ (l.map fun x => sep.length + x.length).sum := by
  cases l with
  | nil => simp [Lib.join_nil]
  | cons x l => rw [Lib.join_cons]; simp only [List.length_append, joinTail_len, List.map_cons, List.sum_cons]; omega
theorem sum_nds : ∀ {l : List Ex}, (∀ e ∈ l, (ba e).length + 4 ≤ 80 * nd e) → ((l.map (sh · 0)).map fun x => ([44, 32] : List UInt8).length + x.length).sum ≤ 80 * nds l
  | [], _ => by simp [nds]
  | e :: l, h => by
    have h1 := h e (by simp)
    have h2 := sum_nds fun x hx => h x (List.mem_cons_of_mem _ hx)
    have h3 := sh_len (e := e) (Nat.le_refl _) 0
    simp only [List.map_cons, List.sum_cons, nds, List.length_cons, List.length_nil] at h2 ⊢
    omega
theorem ba_len : ∀ e : Ex, Okx e → (ba e).length + 4 ≤ 80 * nd e
  | .mk k nm m l fr to, he => by
    rw [Okx] at he
    obtain ⟨hk, hl⟩ := he
    have ih : ∀ a ∈ l, (ba a).length + 4 ≤ 80 * nd a := fun a ha => ba_len a (Okxs_mem hl a ha)
    have is : ∀ a ∈ l, ∀ least, (sh a least).length + 2 ≤ 80 * nd a := fun a ha least => by have := ih a ha; have := sh_len (Nat.le_refl (ba a).length) least; omega
    have hj := join_len [44, 32] (l.map (sh · 0))
    have hs := sum_nds ih
    have hok := Okxs_mem hl
    simp only [nd]
    by_cases hk2 : 8 ≤ k ∧ k ≤ 20
    · have hl2 : l.length = 2 := by unfold wfK at hk; omega
      have hsg : (signW k).length ≤ 3 := by
        have : k = 8 ∨ k = 9 ∨ k = 10 ∨ k = 11 ∨ k = 12 ∨ k = 13 ∨ k = 14 ∨ k = 15 ∨ k = 16 ∨ k = 17 ∨ k = 18 ∨ k = 19 ∨ k = 20 := by omega
        rcases this with rfl | rfl | rfl | rfl | rfl | rfl | rfl | rfl | rfl | rfl | rfl | rfl | rfl <;> decide
      match l, hl2, is, hok with
      | [x, y], _, is, hok =>
        have := is x (by simp) (leftK k)
        have := is y (by simp) (bindsK k + 1)
        rw [ba_2n hk2 (hok x (by simp)) (hok y (by simp))]
        simp [nds]; omega
    · have hks : k = 1 ∨ k = 2 ∨ k = 3 ∨ k = 4 ∨ k = 5 ∨ k = 6 ∨ k = 7 ∨ k = 21 ∨ k = 22 ∨ k = 23 ∨ k = 24 ∨ k = 25 ∨ k = 26 ∨ k = 27 := by unfold wfK at hk; omega
      have hone : (k = 6 ∨ k = 7 ∨ k = 27) → ∃ x, l = [x] := fun h => List.length_eq_one_iff.1 (by unfold wfK at hk; omega)
      have htwo : (k = 21 ∨ k = 23) → ∃ x y, l = [x, y] := fun h => len_two (by unfold wfK at hk; omega)
      have hthree : k = 22 → ∃ x y z, l = [x, y, z] := fun h => len_three (by unfold wfK at hk; omega)
      have hnm : (k = 5 ∨ k = 21) → nm.length ≤ 24 := fun h => nameOK_len (by unfold wfK at hk; rcases hk with h' | h' | h' | h' | h' | h' | h' | h' | h' <;> first | exact h'.2.1 | omega)
      have hnum : (k = 1 ∨ k = 27) → (numT m).length ≤ 40 := fun h => numT_len 39 m (by unfold wfK at hk; omega)
      rcases hks with rfl | rfl | rfl | rfl | rfl | rfl | rfl | rfl | rfl | rfl | rfl | rfl | rfl | rfl
      · have := hnum (by simp); rw [ba_1]; omega
      · rw [ba_2]; simp; omega
      · rw [ba_3]; simp; omega
      · have : nm.length ≤ 24 := by
          have hn : nm = [118] ∨ nameOK nm := by unfold wfK at hk; rcases hk with h | h | h | h | h | h | h | h | h <;> first | exact h.2.1 | omega
          rcases hn with rfl | hn
          · decide
          · exact nameOK_len hn
        rw [ba_4]; omega
      · have := hnm (by simp); rw [ba_5 hl]; simp only [List.length_append, List.length_cons, List.length_nil]; omega
      · obtain ⟨x, rfl⟩ := hone (by simp)
        have := is x (by simp) 6
        rw [ba_6 (hok x (by simp))]; simp [nds]; omega
      · obtain ⟨x, rfl⟩ := hone (by simp)
        have := is x (by simp) 6
        rw [ba_7 (hok x (by simp))]; simp [nds]; omega
      · obtain ⟨x, y, rfl⟩ := htwo (by simp)
        have := is x (by simp) 0
        have := is y (by simp) 0
        have := hnm (by simp)
        rw [ba_21 (hok x (by simp)) (hok y (by simp))]; simp [nds]; omega
      · obtain ⟨x, y, z, rfl⟩ := hthree rfl
        have := is x (by simp) 0
        have := is y (by simp) 0
        have := is z (by simp) 0
        rw [ba_22 (hok x (by simp)) (hok y (by simp)) (hok z (by simp))]; simp [nds]; omega
      · obtain ⟨x, y, rfl⟩ := htwo (by simp)
        have := is x (by simp) 0
        have := is y (by simp) 0
        rw [ba_23 (hok x (by simp)) (hok y (by simp))]; simp [nds]; omega
      · rw [ba_24 hl]; simp only [List.length_append, List.length_cons, List.length_nil]; omega
      · rw [ba_25 hl]; simp only [List.length_append, List.length_cons, List.length_nil]; omega
      · rw [ba_26 hl]; simp only [List.length_append, List.length_cons, List.length_nil]; omega
      · obtain ⟨x, rfl⟩ := hone (by simp)
        have := is x (by simp) 0
        have := hnum (by simp)
        rw [ba_27 (hok x (by simp))]; simp [nds]; omega
end Go.Proofs.YtmkgmjdbgjiehaaDoor.Ab
namespace Go.Proofs.YtmkgmjdbgjiehaaDoor
open Go.Proofs.YtmkgmjdbgjiehaaDoor.Ab
set_option linter.unusedVariables false
set_option linter.unusedSimpArgs false
attribute [local simp] Gr.refl Gr.new Gr.set Gr.kill Nat.add_assoc r_ckk chk_x chk_n
variable {E : En Tryd.prog} {B : Int}
theorem dgs_num : ∀ (n : Nat), 0 < n → (dgs (n : Int)).reverse = numT n := by
  intro n
  induction n using Nat.strongRecOn with
  | _ n ih =>
    intro h
    rw [numT]
    unfold dgs at ih ⊢
    rw [cn_cons (by decide) (by omega), List.map_cons, List.reverse_cons]
    have e1 : (n : Int) % 10 = ((n % 10 : Nat) : Int) := by omega
    have e2 : (n : Int) / 10 = ((n / 10 : Nat) : Int) := by omega
    rw [e1, e2]
    by_cases h10 : n < 10
    · rw [dif_pos h10, show n / 10 = 0 by omega, cn_zero (by omega)]
      simp only [List.map_nil, List.reverse_nil, List.nil_append, dgt]
      rw [show (((n % 10 : Nat) : Int)).toNat = n from by omega]
    · rw [dif_neg h10, ih _ (by omega) (by omega)]; simp only [dgt, Int.toNat_natCast]
theorem textF_num (n : Nat) : textF (n : Int) = numT n := by
  unfold textF
  by_cases h : n = 0
  · subst h; rw [if_pos (by omega), numT]; rfl
  · rw [if_neg (by omega), dgs_num n (by omega)]
theorem num_ev (hB : B = 4294967296) {σ : St} {n : Nat} (h : n < 10 ^ 40) : ev ET 23 [.agg [.bool false, magV B n]] σ = some (.ret (.str (numT n)), σ) := by
  have h2 : (2 : Int) ≤ B := by omega
  have hl : (cn B (n : Int)).length ≤ 5 := cn_length h2 (by subst hB; omega)
  have := btext_ev hB (σ := σ) n (by omega)
  rw [textF_num] at this
  exact this
theorem sgn_ev (hT : E.T = T) {σ : St} {k : Nat} (hk : 8 ≤ k ∧ k ≤ 20) : ev E 66 [.int .i64 k] σ = some (.ret (.str (signW k)), σ) := by
  refine ev_same (fd := f66) (o := .ret (.str (signW k))) (by rw [hT]; rfl) (by simp [f66]) rfl ?_ (by simp)
  have : k = 8 ∨ k = 9 ∨ k = 10 ∨ k = 11 ∨ k = 12 ∨ k = 13 ∨ k = 14 ∨ k = 15 ∨ k = 16 ∨ k = 17 ∨ k = 18 ∨ k = 19 ∨ k = 20 := by omega
  rcases this with rfl | rfl | rfl | rfl | rfl | rfl | rfl | rfl | rfl | rfl | rfl | rfl | rfl <;> simp [f66, d66, signW]
theorem binds_ev (hT : E.T = T) {σ : St} {k : Nat} (hk : k ≤ 27) : ev E 41 [.int .i64 k] σ = some (.ret (.int .i64 (bindsK k)), σ) := by
  refine ev_same (fd := f41) (o := .ret (.int .i64 (bindsK k))) (by rw [hT]; rfl) (by simp [f41]) rfl ?_ (by simp)
  have : (k ≤ 5 ∨ 24 ≤ k) ∨ k = 6 ∨ k = 7 ∨ k = 8 ∨ k = 9 ∨ k = 10 ∨ k = 11 ∨ k = 12 ∨ k = 13 ∨ k = 14 ∨ k = 15 ∨ k = 16 ∨ k = 17 ∨ k = 18 ∨ k = 19 ∨ k = 20 ∨ k = 21 ∨ k = 22 ∨ k = 23 := by omega
  rcases this with h | rfl | rfl | rfl | rfl | rfl | rfl | rfl | rfl | rfl | rfl | rfl | rfl | rfl | rfl | rfl | rfl | rfl | rfl
  · have e : bindsK k = 7 := by unfold bindsK; repeat rw [if_neg (by omega)]
    rw [e]
    have hn : ∀ j : Nat, 6 ≤ j → j ≤ 23 → ¬ (k : Int) = j := fun j _ _ => by omega
    have a6 := hn 6 (by omega) (by omega); have a7 := hn 7 (by omega) (by omega); have a8 := hn 8 (by omega) (by omega); have a9 := hn 9 (by omega) (by omega)
    have a10 := hn 10 (by omega) (by omega); have a11 := hn 11 (by omega) (by omega); have a12 := hn 12 (by omega) (by omega); have a13 := hn 13 (by omega) (by omega)
    have a14 := hn 14 (by omega) (by omega); have a15 := hn 15 (by omega) (by omega); have a16 := hn 16 (by omega) (by omega); have a17 := hn 17 (by omega) (by omega)
    have a18 := hn 18 (by omega) (by omega); have a19 := hn 19 (by omega) (by omega); have a20 := hn 20 (by omega) (by omega); have a21 := hn 21 (by omega) (by omega)
    have a22 := hn 22 (by omega) (by omega); have a23 := hn 23 (by omega) (by omega)
    simp only [Int.ofNat_eq_natCast, Int.cast_ofNat_Int] at a6 a7 a8 a9 a10 a11 a12 a13 a14 a15 a16 a17 a18 a19 a20 a21 a22 a23
    simp [f41, d41, a6, a7, a8, a9, a10, a11, a12, a13, a14, a15, a16, a17, a18, a19, a20, a21, a22, a23]
  all_goals simp [f41, d41, bindsK]
theorem strs_of : ∀ l : List (List UInt8), (l.map fun s => [V.str s]).mapM strOf = some l
  | [] => rfl
  | s :: l => by rw [List.map_cons, List.mapM_cons, strs_of l]; rfl
theorem strL_rd {σ : St} {v : V} {l : List (List UInt8)} (h : Rd σ 1 v (l.map fun s => [V.str s])) : strL σ v = some l := by
  rcases h.inv with ⟨rfl, h0⟩ | rfl | ⟨k, off, rows, rfl, h1, h2, h3⟩
  · have : l = [] := by simpa using h0
    subst this; rfl
  · show ((l.map fun s => [V.str s]).mapM strOf) = some l
    exact strs_of l
  · have hlen : (l.map fun s => [V.str s]).length = l.length := by simp
    unfold strL
    simp only [h1]
    rw [if_pos h2, Option.bind_some, ← h3]
    exact strs_of l
theorem join_ev {σ : St} {v : V} {l : List (List UInt8)} {sep : List UInt8} (h : strL σ v = some l) (h1 : l.length ≤ 140737488355328) (h2 : (Lib.join l sep).length ≤ 140737488355328) : ev ET 20 [v, .str sep] σ = some (.ret (.str (Lib.join l sep)), σ) := by
  refine ev_bt rfl ?_
  show BtF 20 [v, .str sep] σ = _
  unfold BtF
  rw [if_pos rfl]
  simp only [h, Option.bind_some]
  rw [if_pos ⟨h1, h2⟩]
theorem argV_tl (B : Int) (l : List Ex) : Tl 7 (argV (exsE B l)) (l.map (exE B)) := by
  cases l with
  | nil => exact .inl ⟨by simp [exsE, argV], rfl⟩
  | cons e l => exact .inr (by rw [exsE_map]; rfl)
theorem arg_ev (hT : E.T = T) {σ : St} {k : Nat} {nm : List UInt8} {m : Nat} {l : List Ex} {fr to i : Nat} {x : Ex} (h : l[i]? = some x) (hi : l.length < 2 ^ 60) : ev E 65 [exV B (.mk k nm m l fr to), .int .i64 i] σ = some (.ret (exV B x), σ) := by
  have hlt := (List.getElem?_eq_some_iff.1 h).1
  have hR := fun σ' : St => (argV_tl B l).rd (σ := σ')
  have hlen := (hR σ).len
  have hat := fun σ' => (hR σ').at (k := .i64) (i := i) (by simpa using hlt)
  have hget : (l.map (exE B))[i]? = some (exE B x) := by rw [List.getElem?_map, h]; rfl
  have hlda := fun σ' => (hR σ').lda hget (m := 7) (exE_len B x).symm
  have hx := exE_len B x
  have hxs := exE_sc B x
  have hsc : (magV B (m : Int)).scal = true := magV_scal
  have hsc2 := argV_scal (exsE B l)
  obtain ⟨v, hv⟩ : ∃ v, v = argV (exsE B l) := ⟨_, rfl⟩
  rw [← hv] at hat hlda hsc2
  simp only [← hv] at hlen
  refine ev_pure (fd := f65) (o := .ret (exV B x)) (σ' := ((σ.new (.row 7 [exE B (.mk k nm m l fr to)])).new (.row 7 [z7])).set (σ.n + 1) (.row 7 [exE B x])) (by rw [hT]; rfl) (by simp [f65]) rfl ?_ (fun j hj => by simp [show j ≠ σ.n by omega, show j ≠ σ.n + 1 by omega]) rfl (by simp [exV_frz])
  have hlt' : (i : Int) < (l.length : Int) := by omega
  simp [f65, d65, exV, exE, ← hv, hsc, hsc2, hlen, hlt, hat, hlda, z7, exE_take, hx, eq_true hxs]
end Go.Proofs.YtmkgmjdbgjiehaaDoor
