/-
The walk over the program's texts, told with what its values say: a part of it. No further condition.
-/
import Derived.Test.YtmjbnfldehbmcaaDoorAbO
namespace Go.Proofs.YtmjbnfldehbmcaaDoor.Ab
set_option linter.unusedVariables false
/-- A region's operations, in the text's order: 'K' goes on behind them, 'KP' where a call panics. -/
def Rw (P : Program) (KP : V → Fr → St → Prop) (K : Fr → St → Prop) : List RI → Fr → St → Prop
  | [], f, σ => K f σ
  | r :: rs, f, σ => rwp1 P (fun x f σ => match x with | .panic v => KP v f σ | _ => False) (Rw P KP K rs) r f σ
theorem rwp1_mono {P : Program} {Q Q' : AX → Fr → St → Prop} {K K' : Fr → St → Prop} {r : RI} {f : Fr} {σ : St} (h : rwp1 P Q K r f σ) (hq : ∀ v f σ, Q (.panic v) f σ → Q' (.panic v) f σ) (hk : ∀ f σ, K f σ → K' f σ) : rwp1 P Q' K' r f σ := by
  unfold rwp1 at h ⊢
  split
  · rename_i hw; rw [hw] at h; exact h
  · rename_i hw; rw [hw] at h; exact hk _ _ h
  · rename_i hw
    rw [hw] at h
    simp only at h
    split
    · rename_i hi
      rw [hi] at h
      refine CCalls.mono h fun o σ' ho => ?_
      cases o with
      | ret v => exact hk _ _ ho
      | panic v => exact hq _ _ _ ho
    · rename_i hi
      rw [hi] at h
      simp only at h
      split
      · rename_i hg
        rw [hg] at h
        refine ⟨h.1, CCalls.mono h.2 fun o σ' ho => ?_⟩
        cases o with
        | ret v => exact hk _ _ ho
        | panic v => exact hq _ _ _ ho
      · rename_i hg
        split at h
        · rename_i hg2; exact absurd hg2 (hg _ _ _)
        · exact h
    · rename_i hi
      rw [hi] at h
      simp only at h
      split
      · rename_i hg; rw [hg] at h; exact hk _ _ h
      · rename_i hg
        split at h
        · rename_i hg2; exact absurd hg2 (hg _ _ _)
        · exact h
    · rename_i hi
      rw [hi] at h
      simp only at h
      split
      · rename_i hg; rw [hg] at h; exact hq _ _ _ h
      · rename_i hg
        split at h
        · rename_i hg2; exact absurd hg2 (hg _ _)
        · exact h
    · rename_i hi; rw [hi] at h; exact h
    · rename_i h1 h2 h3 h4 h5
      split at h
      · rename_i hi; exact absurd hi (h1 _ _)
      · rename_i hi; exact absurd hi (h2 _ _)
      · rename_i hi; exact absurd hi (h3 _ _)
      · rename_i hi; exact absurd hi (h4 _)
      · rename_i hi; exact absurd hi h5
      · split
        · rename_i he; rw [he] at h; exact hk _ _ h
        · rename_i he; rw [he] at h; exact h
theorem Rw_mono {P : Program} {KP KP' : V → Fr → St → Prop} {K K' : Fr → St → Prop} (hq : ∀ v f σ, KP v f σ → KP' v f σ) (hk : ∀ f σ, K f σ → K' f σ) : ∀ (rs : List RI) (f : Fr) (σ : St), Rw P KP K rs f σ → Rw P KP' K' rs f σ
  | [], f, σ, h => hk f σ h
  | r :: rs, f, σ, h => rwp1_mono h (fun v f σ => hq v f σ) (fun f σ => Rw_mono hq hk rs f σ)
theorem rwp_of_Rw {P : Program} {Q : AX → Fr → St → Prop} {KP : V → Fr → St → Prop} {K : Fr → St → Prop} (hq : ∀ v f σ, KP v f σ → Q (.panic v) f σ) (hk : ∀ f σ, K f σ → Q .normal f σ) : ∀ (rs : List RI) (f : Fr) (σ : St), Rw P KP K rs f σ → rwp P Q rs f σ
  | [], f, σ, h => hk f σ h
  | r :: rs, f, σ, h => rwp1_mono h (fun v f σ => hq v f σ) (fun f σ => rwp_of_Rw hq hk rs f σ)
/-- The same for a region that draws its order. -/
def Pw (P : Program) (KP : V → Fr → St → Prop) (K : Fr → St → Prop) : Plan → Fr → St → Prop
  | .done, f, σ => K f σ
  | .q r p, f, σ => rwp1 P (fun _ _ _ => False) (Pw P KP K p) r f σ
  | .alt r again p more, f, σ => rwp1 P (fun x f σ => match x with | .panic v => KP v f σ | _ => False) (fun f σ => (∀ q ∈ again, chk q f σ) ∧ Pw P KP K p f σ) r f σ ∧ Pw P KP K more f σ
  | .stop, f, σ => True
theorem Pw_mono {P : Program} {KP KP' : V → Fr → St → Prop} {K K' : Fr → St → Prop} (hq : ∀ v f σ, KP v f σ → KP' v f σ) (hk : ∀ f σ, K f σ → K' f σ) : ∀ (p : Plan) (f : Fr) (σ : St), Pw P KP K p f σ → Pw P KP' K' p f σ
  | .done, f, σ, h => hk f σ h
  | .q r p, f, σ, h => rwp1_mono h (fun v f σ h => h) (fun f σ => Pw_mono hq hk p f σ)
  | .alt r again p more, f, σ, h => ⟨rwp1_mono h.1 (fun v f σ => hq v f σ) (fun f σ h => ⟨h.1, Pw_mono hq hk p f σ h.2⟩), Pw_mono hq hk more f σ h.2⟩
  | .stop, f, σ, h => trivial
theorem pwp_of_Pw {P : Program} {Q : AX → Fr → St → Prop} {KP : V → Fr → St → Prop} {K : Fr → St → Prop} (hq : ∀ v f σ, KP v f σ → ∀ env, Q (.panic v) ⟨env, f.ds⟩ σ) (hk : ∀ f σ, K f σ → Q .normal f σ) : ∀ (p : Plan) (f : Fr) (σ : St), Pw P KP K p f σ → pwp P Q p f σ
  | .done, f, σ, h => hk f σ h
  | .q r p, f, σ, h => rwp1_mono h (fun v f σ h => h) (fun f σ => pwp_of_Pw hq hk p f σ)
  | .alt r again p more, f, σ, h => ⟨rwp1_mono h.1 (fun v f σ => hq v f σ) (fun f σ h => ⟨h.1, pwp_of_Pw hq hk p f σ h.2⟩), pwp_of_Pw hq hk more f σ h.2⟩
  | .stop, f, σ, h => trivial
/-- Pieces of code, one behind the other. -/
def CS (pl : Program → Nat → Array Oper → Option Plan) (P : Program) (nt : Nat) : List C → Fr → St → (AX → Fr → St → Prop) → Prop
  | [], f, σ, Q => Q .normal f σ
  | c :: cs, f, σ, Q => CWof pl P nt c f σ fun x f' σ' => match x with
    | .normal => CS pl P nt cs f' σ' Q
    | x => Q x f' σ'
section
variable {pl : Program → Nat → Array Oper → Option Plan} {P : Program} {nt : Nat} {f : Fr} {σ : St} {Q : AX → Fr → St → Prop} {cs : List C}
/-! The steps of a walk. -/
theorem w_go {c : C} (h : CS pl P nt [c] f σ Q) : CWof pl P nt c f σ Q := CWof.mono h fun x f σ hq => by cases x <;> exact hq
theorem CS.mono {Q' : AX → Fr → St → Prop} (hq : ∀ x f σ, Q x f σ → Q' x f σ) : ∀ {cs : List C} {f : Fr} {σ : St}, CS pl P nt cs f σ Q → CS pl P nt cs f σ Q'
  | [], _, _, h => hq _ _ _ h
  | c :: cs, _, _, h => CWof.mono h fun x f σ h' => by
    cases x with
    | normal => exact CS.mono hq h'
    | exit id => exact hq _ _ _ h'
    | ret => exact hq _ _ _ h'
    | panic v => exact hq _ _ _ h'
theorem w_end (h : Q .normal f σ) : CS pl P nt [] f σ Q := h
theorem w_reg {rs : List RI} (h : ∀ (K : Fr → St → Prop) (KP : V → Fr → St → Prop), (∀ f σ, CS pl P nt cs f σ Q → K f σ) → (∀ v f σ, Q (.panic v) f σ → KP v f σ) → Rw P KP K rs f σ) : CS pl P nt (.reg rs :: cs) f σ Q :=
  cw_reg (rwp_of_Rw (fun v f σ h => h) (fun f σ h => h) rs f σ (h _ (fun v f σ => Q (.panic v) f σ) (fun f σ h => h) (fun v f σ h => h)))
theorem w_drw {p : Plan} (h : ∀ (K : Fr → St → Prop) (KP : V → Fr → St → Prop), (∀ f σ, CS planOf P nt cs f σ Q → K f σ) → (∀ v f σ, (∀ env, Q (.panic v) ⟨env, f.ds⟩ σ) → KP v f σ) → Pw P KP K p f σ) : CS planOf P nt (.drw p :: cs) f σ Q :=
  cw_drw (pwp_of_Pw (fun v f σ h env => h env) (fun f σ h => h) p f σ (h _ (fun v f σ => ∀ env, Q (.panic v) ⟨env, f.ds⟩ σ) (fun f σ h => h) (fun v f σ h => h)))
theorem w_seq {a b : C} (h : CS pl P nt (a :: b :: cs) f σ Q) : CS pl P nt (.seq a b :: cs) f σ Q :=
  cw_seq (CWof.mono h fun x f σ hq => by cases x <;> exact hq)
theorem w_skip (h : CS pl P nt cs f σ Q) : CS pl P nt (.skip :: cs) f σ Q := cw_skip h
theorem w_ret (h : Q .ret f σ) : CS pl P nt (.ret :: cs) f σ Q := cw_ret h
theorem w_exit {id : Nat} (h : Q (.exit id) f σ) : CS pl P nt (.exit id :: cs) f σ Q := cw_exit h
theorem w_cond {c : Opd} {a b : C} {t : Bool} (hc : c.ev f.env = .bool t) (h : CS pl P nt ((if t = true then a else b) :: cs) f σ Q) : CS pl P nt (.cond c a b :: cs) f σ Q := cw_cond hc h
theorem w_yes {c : Opd} {a b : C} (hc : c.ev f.env = .bool true) (h : CS pl P nt (a :: cs) f σ Q) : CS pl P nt (.cond c a b :: cs) f σ Q := w_cond hc h
theorem w_no {c : Opd} {a b : C} (hc : c.ev f.env = .bool false) (h : CS pl P nt (b :: cs) f σ Q) : CS pl P nt (.cond c a b :: cs) f σ Q := w_cond hc h
theorem w_block {id : Nat} {b : C} (h : ∀ Q' : AX → Fr → St → Prop, (∀ f σ, CS pl P nt cs f σ Q → Q' .normal f σ) → (∀ f σ, CS pl P nt cs f σ Q → Q' (.exit id) f σ) → (∀ id' f σ, id' ≠ id → Q (.exit id') f σ → Q' (.exit id') f σ) → (∀ f σ, Q .ret f σ → Q' .ret f σ) →
    (∀ v f σ, Q (.panic v) f σ → Q' (.panic v) f σ) → CS pl P nt [b] f σ Q') : CS pl P nt (.block id b :: cs) f σ Q :=
  cw_block (CWof.mono (w_go (h (fun x f σ => match x with
    | .normal => CS pl P nt cs f σ Q
    | .exit id' => if id' = id then CS pl P nt cs f σ Q else Q (.exit id') f σ
    | x => Q x f σ) (fun f σ h => h) (fun f σ h => by simpa using h) (fun id' f σ hne h => by simpa [hne] using h) (fun f σ h => h) (fun v f σ h => h))) fun x f σ hq => by cases x <;> exact hq)
theorem w_loop {b : C} (J : Nat → Fr → St → Prop) (n : Nat) (h0 : J n f σ)
    (step : ∀ n f σ, J n f σ → ∀ Q' : AX → Fr → St → Prop, (∀ m f σ, m < n → J m f σ → Q' .normal f σ) → (∀ id f σ, Q (.exit id) f σ → Q' (.exit id) f σ) → (∀ f σ, Q .ret f σ → Q' .ret f σ) → (∀ v f σ, Q (.panic v) f σ → Q' (.panic v) f σ) → CS pl P nt [b] f σ Q') :
    CS pl P nt (.loop b :: cs) f σ Q :=
  cw_loop J n h0 fun n f σ hj => CWof.mono (w_go (step n f σ hj (fun x f σ => match x with
    | .normal => ∃ m, m < n ∧ J m f σ
    | x => Q x f σ) (fun m f σ hm hj => ⟨m, hm, hj⟩) (fun id f σ h => h) (fun f σ h => h) (fun v f σ h => h))) fun x f σ hq => by cases x <;> exact hq
theorem w_fn {k : FuncId} {cf : CF} {vs : List V} {R : CO → St → Prop} (hcf : compF pl P k = some cf) (hl : vs.length ≤ cf.nt) (h : ∀ Q : AX → Fr → St → Prop, (∀ f σ, Post cf.res R .normal f σ → Q .normal f σ) → (∀ f σ, Post cf.res R .ret f σ → Q .ret f σ) →
    (∀ v f σ, Post cf.res R (.panic v) f σ → Q (.panic v) f σ) → CS pl P cf.nt [cf.body] ⟨envOf vs, []⟩ σ Q) : CCalls P k vs σ R :=
  ccalls_of hcf hl (w_go (h _ (fun f σ h => h) (fun f σ h => h) (fun v f σ h => h)))
end
/-! Frames that hold no more than what is still read. -/
def lk : List Nat → List V → Env
  | t :: ts, v :: vs => fun n => if n = t then v else lk ts vs n
  | _, _ => fun _ => .any
def kp (ts : List Nat) (f : Fr) : Fr := ⟨lk ts (ts.map f.env), f.ds⟩
theorem lk_map (ts : List Nat) (env : Env) (n : Nat) : lk ts (ts.map env) n = env n ∨ lk ts (ts.map env) n = .any := by
  induction ts with
  | nil => exact .inr rfl
  | cons t ts ih =>
    simp only [List.map_cons, lk]
    split
    · rename_i h; rw [h]; exact .inl rfl
    · exact ih
section
variable {pl : Program → Nat → Array Oper → Option Plan} {P : Program} {nt : Nat} {f : Fr} {σ : St} {Q : AX → Fr → St → Prop} {cs : List C} {c : C}
theorem CWof.keep (ts : List Nat) (h : CWof pl P nt c (kp ts f) σ Q) : CWof pl P nt c f σ Q := fun code hc φ I w a hs hf =>
  h code hc φ I w a hs ⟨hf.size, fun t ht => by
    rcases lk_map ts f.env t with h | h
    · show Rel _ _ _ (lk ts (ts.map f.env) t) _; rw [h]; exact hf.env t ht
    · show Rel _ _ _ (lk ts (ts.map f.env) t) _; rw [h]; exact .any _, hf.ds⟩
theorem w_keep (ts : List Nat) (h : CS pl P nt (c :: cs) (kp ts f) σ Q) : CS pl P nt (c :: cs) f σ Q := CWof.keep ts h
theorem w_regk {rs : List RI} (ts : List Nat) (h : ∀ (K : List V → List AD → St → Prop) (KP : V → Fr → St → Prop), (∀ vs ds σ, CS pl P nt (c :: cs) ⟨lk ts vs, ds⟩ σ Q → K vs ds σ) → (∀ v f σ, Q (.panic v) f σ → KP v f σ) → Rw P KP (fun f σ => K (ts.map f.env) f.ds σ) rs f σ) : CS pl P nt (.reg rs :: c :: cs) f σ Q :=
  w_reg fun K KP hk hkp => by
    have := h (fun vs ds σ => CS pl P nt (c :: cs) ⟨lk ts vs, ds⟩ σ Q) (fun v f σ => Q (.panic v) f σ) (fun _ _ _ h => h) (fun _ _ _ h => h)
    exact Rw_mono (fun v f σ h => hkp v f σ h) (fun f σ h => hk f σ (w_keep ts h)) rs f σ this
theorem w_drwk {p : Plan} (ts : List Nat) (h : ∀ (K : List V → List AD → St → Prop) (KP : V → Fr → St → Prop), (∀ vs ds σ, CS planOf P nt (c :: cs) ⟨lk ts vs, ds⟩ σ Q → K vs ds σ) → (∀ v f σ, (∀ env, Q (.panic v) ⟨env, f.ds⟩ σ) → KP v f σ) → Pw P KP (fun f σ => K (ts.map f.env) f.ds σ) p f σ) : CS planOf P nt (.drw p :: c :: cs) f σ Q :=
  w_drw fun K KP hk hkp => by
    have := h (fun vs ds σ => CS planOf P nt (c :: cs) ⟨lk ts vs, ds⟩ σ Q) (fun v f σ => ∀ env, Q (.panic v) ⟨env, f.ds⟩ σ) (fun _ _ _ h => h) (fun _ _ _ h => h)
    exact Pw_mono (fun v f σ h => hkp v f σ h) (fun f σ h => hk f σ (w_keep ts h)) p f σ this
theorem w_loopk {b : C} (ts : List Nat) (J : Nat → List V → St → Prop) (n : Nat) (h0 : J n (ts.map f.env) σ)
    (step : ∀ n vs σ, J n vs σ → ∀ Q' : AX → Fr → St → Prop, (∀ m f' σ, f'.ds = f.ds → m < n → J m (ts.map f'.env) σ → Q' .normal f' σ) → (∀ id f σ, Q (.exit id) f σ → Q' (.exit id) f σ) → (∀ f σ, Q .ret f σ → Q' .ret f σ) → (∀ v f σ, Q (.panic v) f σ → Q' (.panic v) f σ) → CS pl P nt [b] ⟨lk ts vs, f.ds⟩ σ Q') :
    CS pl P nt (.loop b :: cs) f σ Q :=
  w_loop (fun n f' σ => f'.ds = f.ds ∧ J n (ts.map f'.env) σ) n ⟨rfl, h0⟩ fun n f' σ hj Q' h1 h2 h3 h4 =>
    w_keep ts (by have := step n (ts.map f'.env) σ hj.2 Q' (fun m f σ hd hm hj => h1 m f σ hm ⟨hd, hj⟩) h2 h3 h4; rw [← hj.1] at this; exact this)
end
/-! What the operations come to. -/
def Stp (P : Program) (KP : V → Fr → St → Prop) (K : Fr → St → Prop) (d : Option Nat) (i : Ins) (f : Fr) (σ : St) : Prop := rwp1 P (fun x f σ => match x with | .panic v => KP v f σ | _ => False) K ⟨d, none, i⟩ f σ
def grd (w : Option Bool) (yes no : Prop) : Prop :=
  match w with
  | none => False
  | some true => yes
  | some false => no
/-- What an operation's value does. -/
def ths (K : Fr → St → Prop) (d : Option Nat) (f : Fr) (r : Option (V × St)) : Prop :=
  match r with
  | some (v, σ') => K (f.put d v) σ'
  | none => False
/-- What a value does, where all else stays. -/
def th (K : Fr → St → Prop) (d : Option Nat) (f : Fr) (σ : St) (r : Option V) : Prop :=
  match r with
  | some v => K (f.put d v) σ
  | none => False
section
variable (P : Program) (KP : V → Fr → St → Prop) (K : Fr → St → Prop) (f : Fr) (σ : St) (d : Option Nat)
@[simp] theorem Rw_nil : Rw P KP K [] f σ = K f σ := rfl
@[simp] theorem Rw_none (i : Ins) (rs : List RI) : Rw P KP K (⟨d, none, i⟩ :: rs) f σ = Stp P KP (Rw P KP K rs) d i f σ := rfl
theorem Rw_some (g : Nat × Bool) (i : Ins) (rs : List RI) : Rw P KP K (⟨d, some g, i⟩ :: rs) f σ = grd (wantG f.env (some g)) (Stp P KP (Rw P KP K rs) d i f σ) (Rw P KP K rs (f.put d (.tup [])) σ) := by
  show rwp1 P _ (Rw P KP K rs) ⟨d, some g, i⟩ f σ = _
  unfold Stp rwp1 grd
  simp only
  cases wantG f.env (some g) with
  | none => rfl
  | some b => cases b <;> rfl
@[simp] theorem Pw_done : Pw P KP K .done f σ = K f σ := rfl
@[simp] theorem Pw_stop : Pw P KP K .stop f σ = True := rfl
theorem rwp1_some (Q : AX → Fr → St → Prop) (g : Nat × Bool) (i : Ins) : rwp1 P Q K ⟨d, some g, i⟩ f σ = grd (wantG f.env (some g)) (rwp1 P Q K ⟨d, none, i⟩ f σ) (K (f.put d (.tup [])) σ) := by
  unfold rwp1 grd
  simp only
  cases wantG f.env (some g) with
  | none => rfl
  | some b => cases b <;> rfl
@[simp] theorem Pw_q (i : Ins) (p : Plan) : Pw P KP K (.q ⟨d, none, i⟩ p) f σ = Stp P (fun _ _ _ => False) (Pw P KP K p) d i f σ := by
  show rwp1 P _ _ _ _ _ = rwp1 P _ _ _ _ _
  congr 1; funext x f σ; cases x <;> rfl
theorem Pw_qg (g : Nat × Bool) (i : Ins) (p : Plan) : Pw P KP K (.q ⟨d, some g, i⟩ p) f σ = grd (wantG f.env (some g)) (Stp P (fun _ _ _ => False) (Pw P KP K p) d i f σ) (Pw P KP K p (f.put d (.tup [])) σ) := by
  rw [← Pw_q P KP K]; exact rwp1_some ..
@[simp] theorem Pw_alt (i : Ins) (ag : List RI) (p m : Plan) : Pw P KP K (.alt ⟨d, none, i⟩ ag p m) f σ = (Stp P KP (fun f σ => (∀ q ∈ ag, chk q f σ) ∧ Pw P KP K p f σ) d i f σ ∧ Pw P KP K m f σ) := rfl
theorem Pw_altg (g : Nat × Bool) (i : Ins) (ag : List RI) (p m : Plan) : Pw P KP K (.alt ⟨d, some g, i⟩ ag p m) f σ = (grd (wantG f.env (some g)) (Stp P KP (fun f σ => (∀ q ∈ ag, chk q f σ) ∧ Pw P KP K p f σ) d i f σ) ((∀ q ∈ ag, chk q (f.put d (.tup [])) σ) ∧ Pw P KP K p (f.put d (.tup [])) σ) ∧ Pw P KP K m f σ) := by
  show (rwp1 .. ∧ _) = _; rw [rwp1_some]; rfl
theorem grd_t (c : Bool) (x y : Prop) : grd (some (c == true)) x y = if c = true then x else y := by cases c <;> simp [grd]
theorem grd_f (c : Bool) (x y : Prop) : grd (some (c == false)) x y = if c = true then y else x := by cases c <;> simp [grd]
theorem want_at {env : Env} {t : Nat} {b c : Bool} (h : env t = .bool c) : wantG env (some (t, b)) = some (c == b) := by simp [wantG, h]
theorem want_un {env : Env} {t : Nat} {b : Bool} (h : env t = .tup []) : wantG env (some (t, b)) = some false := by simp [wantG, h]
variable (t : Nat) (i : Ins) (rs ag : List RI) (p m : Plan) {c : Bool}
@[simp] theorem Rw_gt (h : f.env t = .bool c) : Rw P KP K (⟨d, some (t, true), i⟩ :: rs) f σ = if c = true then Stp P KP (Rw P KP K rs) d i f σ else Rw P KP K rs (f.put d (.tup [])) σ := by rw [Rw_some, want_at h, grd_t]
@[simp] theorem Rw_gf (h : f.env t = .bool c) : Rw P KP K (⟨d, some (t, false), i⟩ :: rs) f σ = if c = true then Rw P KP K rs (f.put d (.tup [])) σ else Stp P KP (Rw P KP K rs) d i f σ := by rw [Rw_some, want_at h, grd_f]
@[simp] theorem Rw_gu (b : Bool) (h : f.env t = .tup []) : Rw P KP K (⟨d, some (t, b), i⟩ :: rs) f σ = Rw P KP K rs (f.put d (.tup [])) σ := by rw [Rw_some, want_un h]; rfl
@[simp] theorem Pw_gt (h : f.env t = .bool c) : Pw P KP K (.q ⟨d, some (t, true), i⟩ p) f σ = if c = true then Stp P (fun _ _ _ => False) (Pw P KP K p) d i f σ else Pw P KP K p (f.put d (.tup [])) σ := by rw [Pw_qg, want_at h, grd_t]
@[simp] theorem Pw_gf (h : f.env t = .bool c) : Pw P KP K (.q ⟨d, some (t, false), i⟩ p) f σ = if c = true then Pw P KP K p (f.put d (.tup [])) σ else Stp P (fun _ _ _ => False) (Pw P KP K p) d i f σ := by rw [Pw_qg, want_at h, grd_f]
@[simp] theorem Pw_gu (b : Bool) (h : f.env t = .tup []) : Pw P KP K (.q ⟨d, some (t, b), i⟩ p) f σ = Pw P KP K p (f.put d (.tup [])) σ := by rw [Pw_qg, want_un h]; rfl
@[simp] theorem Pw_at (h : f.env t = .bool c) : Pw P KP K (.alt ⟨d, some (t, true), i⟩ ag p m) f σ = ((if c = true then Stp P KP (fun f σ => (∀ q ∈ ag, chk q f σ) ∧ Pw P KP K p f σ) d i f σ else ((∀ q ∈ ag, chk q (f.put d (.tup [])) σ) ∧ Pw P KP K p (f.put d (.tup [])) σ)) ∧ Pw P KP K m f σ) := by rw [Pw_altg, want_at h, grd_t]
@[simp] theorem Pw_af (h : f.env t = .bool c) : Pw P KP K (.alt ⟨d, some (t, false), i⟩ ag p m) f σ = ((if c = true then ((∀ q ∈ ag, chk q (f.put d (.tup [])) σ) ∧ Pw P KP K p (f.put d (.tup [])) σ) else Stp P KP (fun f σ => (∀ q ∈ ag, chk q f σ) ∧ Pw P KP K p f σ) d i f σ) ∧ Pw P KP K m f σ) := by rw [Pw_altg, want_at h, grd_f]
@[simp] theorem Pw_au (b : Bool) (h : f.env t = .tup []) : Pw P KP K (.alt ⟨d, some (t, b), i⟩ ag p m) f σ = (((∀ q ∈ ag, chk q (f.put d (.tup [])) σ) ∧ Pw P KP K p (f.put d (.tup [])) σ) ∧ Pw P KP K m f σ) := by rw [Pw_altg, want_un h]; rfl
theorem chk_some (e : Nat) (i : Ins) : chk ⟨some e, none, i⟩ f σ = (evI f.env σ i = some (f.env e, σ)) := rfl
@[simp] theorem chk_ld (e : Nat) (x : Opd) : chk ⟨some e, none, .ld x⟩ f σ = (evI f.env σ (.ld x) = some (f.env e, σ)) := rfl
@[simp] theorem grd_some (b : Bool) (x y : Prop) : grd (some b) x y = if b = true then x else y := by cases b <;> simp [grd]
@[simp] theorem ths_some (v : V) (σ' : St) : ths K d f (some (v, σ')) = K (f.put d v) σ' := rfl
@[simp] theorem th_some (v : V) : th K d f σ (some v) = K (f.put d v) σ := rfl
theorem ths_th (r : Option V) : ths K d f (r.map (·, σ)) = th K d f σ r := by cases r <;> rfl
@[simp] theorem s_call (k : FuncId) (as : List Opd) : Stp P KP K d (.call k as) f σ = CCalls P k (evs f.env as) σ (fun o σ' => match o with
      | .ret v => K (f.put d v) σ'
      | .panic v => KP v f σ') := rfl
theorem s_ev (i : Ins) (h : i.plain = true) : Stp P KP K d i f σ = ths K d f (evI f.env σ i) := by
  unfold Stp rwp1 ths
  simp only [wantG]
  cases i <;> first | rfl | simp [Ins.plain] at h
@[simp] theorem s_mv (x : Opd) : Stp P KP K d (.mv x) f σ = K (f.put d (x.ev f.env)) σ := rfl
@[simp] theorem s_pick (c x y : Opd) {b : Bool} (h : c.ev f.env = .bool b) : Stp P KP K d (.pick c x y) f σ = K (f.put d (if b then x.ev f.env else y.ev f.env)) σ := by
  rw [s_ev _ _ _ _ _ _ _ rfl]; simp [evI, h]
@[simp] theorem s_bin (op : BinOp) (x y : Opd) : Stp P KP K d (.bin op x y) f σ = th K d f σ (binV op (x.ev f.env) (y.ev f.env)) := by
  rw [s_ev _ _ _ _ _ _ _ rfl]; exact ths_th _ _ _ _ _
@[simp] theorem s_un_not (x : Opd) {b : Bool} (h : x.ev f.env = .bool b) : Stp P KP K d (.un .not x) f σ = K (f.put d (.bool !b)) σ := by
  rw [s_ev _ _ _ _ _ _ _ rfl]; simp [evI, h]
def negV : V → Option V
  | .int k n => some (.int k (k.wrap (0 - n)))
  | _ => none
@[simp] theorem s_un_neg (x : Opd) : Stp P KP K d (.un .neg x) f σ = th K d f σ (negV (x.ev f.env)) := by
  rw [s_ev _ _ _ _ _ _ _ rfl]; simp only [evI, negV]; cases x.ev f.env <;> rfl
@[simp] theorem s_beq (neg : Bool) (x y : Opd) {a b : Bool} (h : x.ev f.env = .bool a) (h' : y.ev f.env = .bool b) : Stp P KP K d (.beq neg x y) f σ = K (f.put d (.bool (if neg then decide (a ≠ b) else decide (a = b)))) σ := by
  rw [s_ev _ _ _ _ _ _ _ rfl]; simp [evI, h, h']
@[simp] theorem s_nq (neg : Bool) (fam : Nat) (x y : Opd) : Stp P KP K d (.nq neg fam x y) f σ = th K d f σ ((nilEq fam (x.ev f.env) (y.ev f.env)).map fun b => .bool (if neg then !b else b)) := by
  rw [s_ev _ _ _ _ _ _ _ rfl]; simp only [evI]; cases nilEq fam (x.ev f.env) (y.ev f.env) <;> rfl
@[simp] theorem s_eqa (neg : Bool) (ks : List CK) (x y : Opd) {a b : List V} (h : x.ev f.env = .agg a) (h' : y.ev f.env = .agg b) : Stp P KP K d (.eqa neg ks x y) f σ = th K d f σ ((eqCells ks a b).map fun r => .bool (if neg then !r else r)) := by
  rw [s_ev _ _ _ _ _ _ _ rfl]; simp only [evI, h, h']; cases eqCells ks a b <;> rfl
def cviV (k : IntKind) : V → Option V
  | .int _ n => some (.int k (k.wrap n))
  | _ => none
@[simp] theorem s_cvi (k : IntKind) (x : Opd) : Stp P KP K d (.cvi k x) f σ = th K d f σ (cviV k (x.ev f.env)) := by
  rw [s_ev _ _ _ _ _ _ _ rfl]; simp only [evI, cviV]; cases x.ev f.env <;> rfl
@[simp] theorem s_cvs (x : Opd) {s : List UInt8} (h : x.ev f.env = .str s) : Stp P KP K d (.cvs x) f σ = K (f.put d (.str s)) σ := by
  rw [s_ev _ _ _ _ _ _ _ rfl]; simp [evI, h]
@[simp] theorem s_s2b (x : Opd) {s : List UInt8} (h : x.ev f.env = .str s) : Stp P KP K d (.s2b x) f σ = K (f.put d (.slc σ.n 0 s.length)) (σ.new (.row 1 (s.map byteE))) := by
  rw [s_ev _ _ _ _ _ _ _ rfl]; simp [evI, h]
@[simp] theorem s_b2s (x : Opd) : Stp P KP K d (.b2s x) f σ = th K d f σ ((cont σ 1 (x.ev f.env)).bind fun es => (es.mapM byteOf).map .str) := by
  rw [s_ev _ _ _ _ _ _ _ rfl]; simp only [evI]
  cases cont σ 1 (x.ev f.env) with
  | none => rfl
  | some es => simp only [Option.bind_some]; cases es.mapM byteOf <;> rfl
def b2bV (σ : St) : V → Option V
  | .slc l off len => match σ.H l with
    | some (.row _ _) => if 0 < len then some (.slc l off len) else none
    | _ => none
  | _ => none
@[simp] theorem s_b2b (x : Opd) : Stp P KP K d (.b2b x) f σ = th K d f σ (b2bV σ (x.ev f.env)) := by
  rw [s_ev _ _ _ _ _ _ _ rfl]; simp only [evI, b2bV]
  cases x.ev f.env <;> (try rfl)
  rename_i l off len
  simp only
  cases σ.H l with
  | none => rfl
  | some b => cases b <;> (try rfl); simp only; split <;> rfl
@[simp] theorem s_mki (t : TypeId) (x : Opd) : Stp P KP K d (.mki t x) f σ = K (f.put d (.iface t (x.ev f.env))) σ := rfl
@[simp] theorem s_mkf (fn : Fn) (a b : List Opd) : Stp P KP K d (.mkf fn a b) f σ = K (f.put d (.func fn (a.map (·.ev f.env)) (b.map (·.ev f.env)))) σ := rfl
@[simp] theorem s_mkmap : Stp P KP K d .mkmap f σ = K (f.put d (.map σ.n)) (σ.new (.map [])) := rfl
@[simp] theorem s_new (z : List V) : Stp P KP K d (.new z) f σ = K (f.put d (.ptr σ.n 0 0)) (σ.new (.row z.length [z])) := rfl
@[simp] theorem s_box (x : Opd) (h : (x.ev f.env).cells.all V.scal = true) (h' : 0 < (x.ev f.env).cells.length) : Stp P KP K d (.box x) f σ = K (f.put d (.ptr σ.n 0 0)) (σ.new (.row (x.ev f.env).cells.length [(x.ev f.env).cells])) := by
  rw [s_ev _ _ _ _ _ _ _ rfl]; simp only [evI, if_pos (And.intro h h')]; rfl
@[simp] theorem s_build (z : List V) (ps : List (Nat × Nat × Opd)) : Stp P KP K d (.build z ps) f σ = th K d f σ ((buildV f.env z ps).map .agg) := by
  rw [s_ev _ _ _ _ _ _ _ rfl]; simp only [evI]; cases buildV f.env z ps <;> rfl
@[simp] theorem s_bslice (z : List V) (len : Nat) (ps : List (Nat × Opd)) {es : List (List V)} (h : bsliceV f.env z.length (List.replicate len z) ps = some es) : Stp P KP K d (.bslice z len ps) f σ = K (f.put d (.slc σ.n 0 len)) (σ.new (.row z.length es)) := by
  rw [s_ev _ _ _ _ _ _ _ rfl]; simp [evI, h]
/-- What a pointer's cell holds. -/
def ldV (σ : St) : V → Option V
  | .ptr l i j => match σ.H l with
    | some (.row _ es) => (es[i]?).bind (·[j]?)
    | _ => none
  | .iptr e j => e[j]?
  | _ => none
@[simp] theorem s_ld (x : Opd) : Stp P KP K d (.ld x) f σ = th K d f σ (ldV σ (x.ev f.env)) := by
  rw [s_ev _ _ _ _ _ _ _ rfl]; simp only [evI, ldV]
  cases x.ev f.env <;> (try rfl)
  · rename_i l i j
    simp only
    cases σ.H l with
    | none => rfl
    | some b => cases b <;> (try rfl); exact ths_th _ _ _ _ _
  · exact ths_th _ _ _ _ _
def ldaV (σ : St) (n : Nat) : V → Option V
  | .ptr l i j => match σ.H l with
    | some (.row _ es) => (es[i]?).bind fun e => if j + n ≤ e.length then some (.agg ((e.drop j).take n)) else none
    | _ => none
  | .iptr e j => if j + n ≤ e.length then some (.agg ((e.drop j).take n)) else none
  | _ => none
@[simp] theorem s_lda (n : Nat) (x : Opd) : Stp P KP K d (.lda n x) f σ = th K d f σ (ldaV σ n (x.ev f.env)) := by
  rw [s_ev _ _ _ _ _ _ _ rfl]; simp only [evI, ldaV]
  cases x.ev f.env <;> (try rfl)
  · rename_i l i j
    simp only
    cases σ.H l with
    | none => rfl
    | some b =>
      cases b <;> (try rfl)
      rename_i z es
      simp only
      cases es[i]? with
      | none => rfl
      | some e => simp only [Option.bind_some]; split <;> rfl
  · rename_i e j; simp only; split <;> rfl
/-- What a store leaves. -/
def stV (σ : St) (n : Nat) (a x : V) : Option St :=
  match a with
  | .ptr l i j => match σ.H l with
    | some (.row z es) => (es[i]?).bind fun e => if x.cells.length = n ∧ j + n ≤ e.length ∧ x.cells.all V.scal = true then some (σ.set l (.row z (es.set i (setAt e j x.cells)))) else none
    | _ => none
  | _ => none
def tst (K : Fr → St → Prop) (f : Fr) (r : Option St) : Prop :=
  match r with
  | some σ => K f σ
  | none => False
@[simp] theorem tst_some (σ : St) : tst K f (some σ) = K f σ := rfl
@[simp] theorem s_st (n : Nat) (a x : Opd) : Stp P KP K none (.st n a x) f σ = tst K f (stV σ n (a.ev f.env) (x.ev f.env)) := by
  rw [s_ev _ _ _ _ _ _ _ rfl]; simp only [evI, stV]
  cases a.ev f.env <;> (try rfl)
  rename_i l i j
  simp only
  cases σ.H l with
  | none => rfl
  | some b =>
    cases b <;> (try rfl)
    rename_i z es
    simp only
    cases es[i]? with
    | none => rfl
    | some e => simp only [Option.bind_some]; split <;> rfl
def nilckV : V → Option V
  | .ptr l i j => some (.ptr l i j)
  | .iptr e j => some (.iptr e j)
  | .func (.func f) a b => some (.func (.func f) a b)
  | _ => none
@[simp] theorem s_nilck (x : Opd) : Stp P KP K d (.nilck x) f σ = th K d f σ (nilckV (x.ev f.env)) := by
  rw [s_ev _ _ _ _ _ _ _ rfl]; simp only [evI, nilckV]
  cases x.ev f.env <;> (try rfl)
  rename_i fn a b; cases fn <;> rfl
def mkslV (σ : St) (bytes : Nat) (z : List V) (l c : V) : Option (V × St) :=
  match l, c with
  | .int _ a, .int _ b => if 0 ≤ a ∧ a ≤ b ∧ bytes * b ≤ reach ∧ b ≤ reach then some (.slc σ.n 0 a.toNat, σ.new (.row z.length (List.replicate a.toNat z))) else none
  | _, _ => none
@[simp] theorem s_mksl (bytes : Nat) (z : List V) (l c : Opd) : Stp P KP K d (.mksl bytes z l c) f σ = ths K d f (mkslV σ bytes z (l.ev f.env) (c.ev f.env)) := by
  rw [s_ev _ _ _ _ _ _ _ rfl]; simp only [evI]; rfl
def sslV (env : Env) (s : V) (lo hi : Option Opd) : Option V :=
  match s with
  | .str s => (bound env s.length hi).bind fun h => (bound env 0 lo).bind fun l => if l ≤ h ∧ h ≤ s.length then some (.str ((s.take h).drop l)) else none
  | _ => none
@[simp] theorem s_ssl (x : Opd) (lo hi : Option Opd) : Stp P KP K d (.ssl x lo hi) f σ = th K d f σ (sslV f.env (x.ev f.env) lo hi) := by
  rw [s_ev _ _ _ _ _ _ _ rfl]; simp only [evI, sslV]
  cases x.ev f.env <;> (try rfl)
  rename_i s
  simp only
  cases bound f.env s.length hi with
  | none => rfl
  | some h =>
    cases bound f.env 0 lo with
    | none => rfl
    | some l => simp only [Option.bind_some]; split <;> rfl
def lslV (env : Env) (σ : St) (z : Nat) (x : V) (lo hi : Option Opd) : Option V :=
  match x with
  | .nils => (bound env 0 hi).bind fun h => (bound env 0 lo).bind fun l => if l = 0 ∧ h = 0 then some .nils else none
  | .islc z' es => (bound env es.length hi).bind fun h => (bound env 0 lo).bind fun l => if z' = z ∧ l ≤ h ∧ h ≤ es.length then some (.islc z ((es.take h).drop l)) else none
  | .slc p off len => (bound env len hi).bind fun h => (bound env 0 lo).bind fun l => match σ.H p with
    | some (.row z' es) => if z' = z ∧ l ≤ h ∧ off + h ≤ es.length then some (.slc p (off + l) (h - l)) else none
    | _ => none
  | _ => none
@[simp] theorem s_lsl (z : Nat) (x : Opd) (lo hi : Option Opd) : Stp P KP K d (.lsl z x lo hi) f σ = th K d f σ (lslV f.env σ z (x.ev f.env) lo hi) := by
  rw [s_ev _ _ _ _ _ _ _ rfl]; simp only [evI, lslV]
  cases x.ev f.env <;> (try rfl)
  · simp only
    cases bound f.env 0 hi with
    | none => rfl
    | some h =>
      cases bound f.env 0 lo with
      | none => rfl
      | some l => simp only [Option.bind_some]; split <;> rfl
  · rename_i p off len
    simp only
    cases bound f.env len hi with
    | none => rfl
    | some h =>
      cases bound f.env 0 lo with
      | none => rfl
      | some l =>
        simp only [Option.bind_some]
        cases σ.H p with
        | none => rfl
        | some b => cases b <;> (try rfl); simp only; split <;> rfl
  · rename_i z' es
    simp only
    cases bound f.env es.length hi with
    | none => rfl
    | some h =>
      cases bound f.env 0 lo with
      | none => rfl
      | some l => simp only [Option.bind_some]; split <;> rfl
def faV (k : Nat) : V → Option V
  | .ptr l i j => some (.ptr l i (j + k))
  | .iptr e j => some (.iptr e (j + k))
  | _ => none
@[simp] theorem s_fa (k : Nat) (x : Opd) : Stp P KP K d (.fa k x) f σ = th K d f σ (faV k (x.ev f.env)) := by
  rw [s_ev _ _ _ _ _ _ _ rfl]; simp only [evI, faV]
  cases x.ev f.env <;> rfl
def fldV (n : Option Nat) (off : Nat) : V → Option V
  | .agg cs => match n with
    | none => cs[off]?
    | some n => if off + n ≤ cs.length then some (.agg ((cs.drop off).take n)) else none
  | _ => none
@[simp] theorem s_fld (n : Option Nat) (off : Nat) (x : Opd) : Stp P KP K d (.fld n off x) f σ = th K d f σ (fldV n off (x.ev f.env)) := by
  rw [s_ev _ _ _ _ _ _ _ rfl]; simp only [evI, fldV]
  cases x.ev f.env <;> (try rfl)
  cases n with
  | none => exact ths_th _ _ _ _ _
  | some n => simp only; split <;> rfl
def iaV (σ : St) (z : Nat) (x i : V) : Option V :=
  match i with
  | .int _ k => if 0 ≤ k then match x with
      | .islc z' es => if z' = z then (es[k.toNat]?).map fun e => .iptr e 0 else none
      | .slc l off len => match σ.H l with
        | some (.row z' es) => if z' = z ∧ k.toNat < len then some (.ptr l (off + k.toNat) 0) else none
        | _ => none
      | _ => none
    else none
  | _ => none
@[simp] theorem s_ia (z : Nat) (x i : Opd) : Stp P KP K d (.ia z x i) f σ = th K d f σ (iaV σ z (x.ev f.env) (i.ev f.env)) := by
  rw [s_ev _ _ _ _ _ _ _ rfl]; simp only [evI, iaV]
  cases i.ev f.env <;> (try rfl)
  simp only
  split
  · cases x.ev f.env <;> (try rfl)
    · rename_i l off len
      simp only
      cases σ.H l with
      | none => rfl
      | some b => cases b <;> (try rfl); simp only; split <;> rfl
    · rename_i z' es
      simp only
      split
      · rename_i k _ _ _; cases es[Int.toNat _]? <;> rfl
      · rfl
  · rfl
def aaV (n z : Nat) (x i : V) : Option V :=
  match i with
  | .int _ k => if 0 ≤ k ∧ k < n then match x with
      | .ptr l i j => some (.ptr l i (j + k.toNat * z))
      | .iptr e j => some (.iptr e (j + k.toNat * z))
      | _ => none
    else none
  | _ => none
@[simp] theorem s_aa (n z : Nat) (x i : Opd) : Stp P KP K d (.aa n z x i) f σ = th K d f σ (aaV n z (x.ev f.env) (i.ev f.env)) := by
  rw [s_ev _ _ _ _ _ _ _ rfl]; simp only [evI, aaV]
  cases i.ev f.env <;> (try rfl)
  simp only
  split
  · cases x.ev f.env <;> rfl
  · rfl
def sxV (x i : V) : Option V :=
  match x, i with
  | .str s, .int _ k => if 0 ≤ k then (s[k.toNat]?).map fun b => .int .u8 b.toNat else none
  | _, _ => none
@[simp] theorem s_sx (x i : Opd) : Stp P KP K d (.sx x i) f σ = th K d f σ (sxV (x.ev f.env) (i.ev f.env)) := by
  rw [s_ev _ _ _ _ _ _ _ rfl]; simp only [evI, sxV]
  cases x.ev f.env <;> cases i.ev f.env <;> (try rfl)
  simp only
  split
  · rename_i s k n _; cases s[Int.toNat _]? <;> rfl
  · rfl
def tasV (t : TypeId) (zero : V) (ok : Bool) : V → Option V
  | .iface t' v => if t' = t then some (if ok then .tup [v, .bool true] else v) else if ok then some (.tup [zero, .bool false]) else none
  | .nili => if ok then some (.tup [zero, .bool false]) else none
  | _ => none
@[simp] theorem s_tas (t : TypeId) (zero : V) (ok : Bool) (x : Opd) : Stp P KP K d (.tas t zero ok x) f σ = th K d f σ (tasV t zero ok (x.ev f.env)) := by
  rw [s_ev _ _ _ _ _ _ _ rfl]; simp only [evI, tasV]
  cases x.ev f.env <;> (try rfl)
  · simp only; split
    · rfl
    · split <;> rfl
  · simp only; split <;> rfl
@[simp] theorem s_ext (x : Opd) (i : Nat) {vs : List V} (h : x.ev f.env = .tup vs) : Stp P KP K d (.ext x i) f σ = th K d f σ vs[i]? := by
  rw [s_ev _ _ _ _ _ _ _ rfl]; simp only [evI, h]; exact ths_th _ _ _ _ _
@[simp] theorem s_slen (x : Opd) {s : List UInt8} (h : x.ev f.env = .str s) : Stp P KP K d (.slen x) f σ = K (f.put d (.int .i64 s.length)) σ := by
  rw [s_ev _ _ _ _ _ _ _ rfl]; simp [evI, h]
def lenV : V → Option V
  | .nils => some (.int .i64 0)
  | .islc _ es => some (.int .i64 es.length)
  | .slc _ _ len => some (.int .i64 len)
  | _ => none
@[simp] theorem s_llen (x : Opd) : Stp P KP K d (.llen x) f σ = th K d f σ (lenV (x.ev f.env)) := by
  rw [s_ev _ _ _ _ _ _ _ rfl]; simp only [evI, lenV]
  cases x.ev f.env <;> rfl
def appV (σ : St) (bytes z : Nat) (x y : V) : Option (V × St) :=
  (srcOf σ z y).bind fun ys => match x with
    | .nils => if ys = [] then some (.nils, σ) else if ys.length * bytes ≤ reach ∧ ys.length ≤ reach then some (.slc σ.n 0 ys.length, σ.new (.row z ys)) else none
    | .islc z' es => if ys = [] then some (.islc z' es, σ) else none
    | .slc l off len => if ys = [] then some (.slc l off len, σ) else match σ.H l with
      | some (.row z' es) =>
        if z' = z ∧ (len + ys.length) * bytes ≤ reach ∧ len + ys.length ≤ reach then
          if off + len + ys.length ≤ es.length then some (.slc l off (len + ys.length), σ.set l (.row z (es.take (off + len) ++ ys ++ es.drop (off + len + ys.length))))
          else if off + len = es.length then some (.slc σ.n 0 (len + ys.length), (σ.kill l).new (.row z (es.drop off ++ ys)))
          else none
        else none
      | _ => none
    | _ => none
@[simp] theorem s_app (bytes z : Nat) (x y : Opd) : Stp P KP K d (.app bytes z x y) f σ = ths K d f (appV σ bytes z (x.ev f.env) (y.ev f.env)) := by
  rw [s_ev _ _ _ _ _ _ _ rfl]; simp only [evI]; rfl
@[simp] theorem s_mm (isMax : Bool) (x y : Opd) : Stp P KP K d (.mm isMax [x, y]) f σ = th K d f σ (mmV isMax (x.ev f.env) (y.ev f.env)) := by
  rw [s_ev _ _ _ _ _ _ _ rfl]; simp only [evI, List.map_cons, List.map_nil, mmL]
  cases mmV isMax (x.ev f.env) (y.ev f.env) <;> rfl
def pan (KP : V → Fr → St → Prop) (f : Fr) (σ : St) : V → Prop
  | .iface t v => KP (.iface t v) f σ
  | _ => False
@[simp] theorem s_panic (x : Opd) : Stp P KP K d (.panic x) f σ = pan KP f σ (x.ev f.env) := by
  unfold Stp rwp1 pan
  simp only [wantG]
  cases x.ev f.env <;> rfl
@[simp] theorem pan_iface (t : TypeId) (v : V) : pan KP f σ (.iface t v) = KP (.iface t v) f σ := rfl
/-! Temporaries. -/
@[simp] theorem ev_t (env : Env) (i : Nat) : (Opd.t i).ev env = env i := rfl
@[simp] theorem ev_c (env : Env) (v : V) : (Opd.c v).ev env = v := rfl
@[simp] theorem put_ds (v : V) : (f.put d v).ds = f.ds := rfl
@[simp] theorem put_none (v : V) : f.put none v = f := rfl
@[simp] theorem put_env (n : Nat) (v : V) (t : Nat) : (f.put (some n) v).env t = if t = n then v else f.env t := rfl
@[simp] theorem lk_cons (t n : Nat) (ts : List Nat) (v : V) (vs : List V) : lk (t :: ts) (v :: vs) n = if n = t then v else lk ts vs n := rfl
@[simp] theorem lk_nil (n : Nat) (vs : List V) : lk [] vs n = .any := rfl
@[simp] theorem kp_eq (ts : List Nat) : kp ts f = ⟨lk ts (ts.map f.env), f.ds⟩ := rfl
def boundV : V → Option Nat
  | .int _ n => if 0 ≤ n then some n.toNat else none
  | _ => none
@[simp] theorem bound_none (env : Env) (n : Nat) : bound env n none = some n := rfl
@[simp] theorem bound_some (env : Env) (n : Nat) (x : Opd) : bound env n (some x) = boundV (x.ev env) := rfl
@[simp] theorem evs_nil (env : Env) : evs env [] = [] := rfl
@[simp] theorem evs_cons (env : Env) (x : Opd) (xs : List Opd) : evs env (x :: xs) = x.ev env :: evs env xs := rfl
@[simp] theorem want_bool (env : Env) (t : Nat) (b c : Bool) (h : env t = .bool c) : wantG env (some (t, b)) = some (c == b) := by simp [wantG, h]
@[simp] theorem want_undef (env : Env) (t : Nat) (b : Bool) (h : env t = .tup []) : wantG env (some (t, b)) = some false := by simp [wantG, h]
@[simp] theorem envOf_at (vs : List V) (t : Nat) : envOf vs t = vs.getD t (.tup []) := rfl
@[simp] theorem new_n (σ : St) (b : Blk) : (σ.new b).n = σ.n + 1 := rfl
@[simp] theorem set_n (σ : St) (l : Nat) (b : Blk) : (σ.set l b).n = σ.n := rfl
@[simp] theorem kill_n (σ : St) (l : Nat) : (σ.kill l).n = σ.n := rfl
theorem St.ext' {σ σ' : St} (h : ∀ l, σ.H l = σ'.H l) (hn : σ.n = σ'.n) (hW : σ.W = σ'.W) : σ = σ' := by
  cases σ; cases σ'; simp only [St.mk.injEq]; exact ⟨funext h, hn, hW⟩
@[simp] theorem set_set (σ : St) (l : Nat) (b c : Blk) : (σ.set l b).set l c = σ.set l c := by
  refine St.ext' (fun k => ?_) rfl rfl
  show upd (upd σ.H l _) l _ k = upd σ.H l _ k
  unfold upd; split <;> simp_all
@[simp] theorem new_W (σ : St) (b : Blk) : (σ.new b).W = σ.W := rfl
@[simp] theorem set_W (σ : St) (l : Nat) (b : Blk) : (σ.set l b).W = σ.W := rfl
@[simp] theorem kill_W (σ : St) (l : Nat) : (σ.kill l).W = σ.W := rfl
@[simp] theorem new_H (σ : St) (b : Blk) (l : Nat) : (σ.new b).H l = if l = σ.n then some b else σ.H l := rfl
@[simp] theorem set_H (σ : St) (k : Nat) (b : Blk) (l : Nat) : (σ.set k b).H l = if l = k then some b else σ.H l := rfl
@[simp] theorem kill_H (σ : St) (k : Nat) (l : Nat) : (σ.kill k).H l = if l = k then none else σ.H l := rfl
end
attribute [simp] intBin strBin nilEq V.pure buildV bsliceV eqCells setAt
section
variable (σ : St) (k k' : IntKind) (a b n : Int) (s s' : List UInt8) (l i j off len : Nat) (e cs : List V) (es : List (List V)) (z m : Nat) (v : V) (t : TypeId) (fn : Fn) (x y : List V)
theorem binV_int' (op : BinOp) (h : op ≠ .shl) (h' : op ≠ .shr) : binV op (.int k a) (.int k b) = intBin op k a b := by cases op <;> simp [binV] <;> simp_all
@[simp] theorem binV_add : binV .add (.int k a) (.int k b) = some (.int k (k.wrap (a + b))) := by simp [binV]
@[simp] theorem binV_sub : binV .sub (.int k a) (.int k b) = some (.int k (k.wrap (a - b))) := by simp [binV]
@[simp] theorem binV_mul : binV .mul (.int k a) (.int k b) = some (.int k (k.wrap (a * b))) := by simp [binV]
@[simp] theorem binV_quo : binV .quo (.int k a) (.int k b) = if b = 0 then none else some (.int k (k.wrap (a.tdiv b))) := by simp [binV]
@[simp] theorem binV_rem : binV .rem (.int k a) (.int k b) = if b = 0 then none else some (.int k (a.tmod b)) := by simp [binV]
@[simp] theorem binV_eql : binV .eql (.int k a) (.int k b) = some (.bool (decide (a = b))) := by simp [binV]
@[simp] theorem binV_neq : binV .neq (.int k a) (.int k b) = some (.bool (decide (a ≠ b))) := by simp [binV]
@[simp] theorem binV_lss : binV .lss (.int k a) (.int k b) = some (.bool (decide (a < b))) := by simp [binV]
@[simp] theorem binV_leq : binV .leq (.int k a) (.int k b) = some (.bool (decide (a ≤ b))) := by simp [binV]
@[simp] theorem binV_gtr : binV .gtr (.int k a) (.int k b) = some (.bool (decide (a > b))) := by simp [binV]
@[simp] theorem binV_geq : binV .geq (.int k a) (.int k b) = some (.bool (decide (a ≥ b))) := by simp [binV]
@[simp] theorem binV_and : binV .and (.int k a) (.int k b) = intBin .and k a b := by simp [binV]
@[simp] theorem binV_or : binV .or (.int k a) (.int k b) = intBin .or k a b := by simp [binV]
@[simp] theorem binV_xor : binV .xor (.int k a) (.int k b) = intBin .xor k a b := by simp [binV]
@[simp] theorem binV_shl : binV .shl (.int k a) (.int k' b) = if b < 0 then none else some (.int k (k.wrap (a * 2 ^ (min b.toNat k.bits)))) := by simp [binV]
@[simp] theorem binV_shr : binV .shr (.int k a) (.int k' b) = if b < 0 then none else some (.int k (a.fdiv (2 ^ (min b.toNat k.bits)))) := by simp [binV]
@[simp] theorem binV_str (op : BinOp) : binV op (.str s) (.str s') = strBin op s s' := by simp [binV]
@[simp] theorem nilK_nilp : nilK .nilp = some (1, true) := rfl
@[simp] theorem nilK_ptr : nilK (.ptr l i j) = some (1, false) := rfl
@[simp] theorem nilK_iptr : nilK (.iptr e j) = some (1, false) := rfl
@[simp] theorem nilK_nils : nilK .nils = some (2, true) := rfl
@[simp] theorem nilK_slc : nilK (.slc l off len) = some (2, false) := rfl
@[simp] theorem nilK_islc : nilK (.islc z es) = some (2, false) := rfl
@[simp] theorem nilK_nilf : nilK .nilf = some (3, true) := rfl
@[simp] theorem nilK_func : nilK (.func fn x y) = some (3, false) := rfl
@[simp] theorem nilK_nili : nilK .nili = some (4, true) := rfl
@[simp] theorem nilK_iface : nilK (.iface t v) = some (4, false) := rfl
@[simp] theorem nilK_mapn : nilK .mapn = some (5, true) := rfl
@[simp] theorem nilK_map : nilK (.map l) = some (5, false) := rfl
@[simp] theorem ldV_ptr : ldV σ (.ptr l i j) = match σ.H l with | some (.row _ es) => (es[i]?).bind (·[j]?) | _ => none := rfl
@[simp] theorem ldV_iptr : ldV σ (.iptr e j) = e[j]? := rfl
@[simp] theorem ldaV_ptr : ldaV σ m (.ptr l i j) = match σ.H l with | some (.row _ es) => (es[i]?).bind fun e => if j + m ≤ e.length then some (.agg ((e.drop j).take m)) else none | _ => none := rfl
@[simp] theorem ldaV_iptr : ldaV σ m (.iptr e j) = if j + m ≤ e.length then some (.agg ((e.drop j).take m)) else none := rfl
@[simp] theorem stV_ptr : stV σ m (.ptr l i j) v = match σ.H l with | some (.row z es) => (es[i]?).bind fun e => if v.cells.length = m ∧ j + m ≤ e.length ∧ v.cells.all V.scal = true then some (σ.set l (.row z (es.set i (setAt e j v.cells)))) else none | _ => none := rfl
@[simp] theorem nilckV_ptr : nilckV (.ptr l i j) = some (.ptr l i j) := rfl
@[simp] theorem nilckV_iptr : nilckV (.iptr e j) = some (.iptr e j) := rfl
@[simp] theorem nilckV_func (f : FuncId) : nilckV (.func (.func f) x y) = some (.func (.func f) x y) := rfl
@[simp] theorem mkslV_int (bytes : Nat) (zc : List V) : mkslV σ bytes zc (.int k a) (.int k' b) = if 0 ≤ a ∧ a ≤ b ∧ bytes * b ≤ reach ∧ b ≤ reach then some (.slc σ.n 0 a.toNat, σ.new (.row zc.length (List.replicate a.toNat zc))) else none := rfl
@[simp] theorem sslV_str (env : Env) (lo hi : Option Opd) : sslV env (.str s) lo hi = (bound env s.length hi).bind fun h => (bound env 0 lo).bind fun l => if l ≤ h ∧ h ≤ s.length then some (.str ((s.take h).drop l)) else none := rfl
@[simp] theorem faV_ptr : faV m (.ptr l i j) = some (.ptr l i (j + m)) := rfl
@[simp] theorem faV_iptr : faV m (.iptr e j) = some (.iptr e (j + m)) := rfl
@[simp] theorem fldV_none : fldV none off (.agg cs) = cs[off]? := rfl
@[simp] theorem fldV_some : fldV (some m) off (.agg cs) = if off + m ≤ cs.length then some (.agg ((cs.drop off).take m)) else none := rfl
@[simp] theorem aaV_ptr : aaV m z (.ptr l i j) (.int k n) = if 0 ≤ n ∧ n < m then some (.ptr l i (j + n.toNat * z)) else none := rfl
@[simp] theorem aaV_iptr : aaV m z (.iptr e j) (.int k n) = if 0 ≤ n ∧ n < m then some (.iptr e (j + n.toNat * z)) else none := rfl
@[simp] theorem sxV_str : sxV (.str s) (.int k n) = if 0 ≤ n then (s[n.toNat]?).map fun b => .int .u8 b.toNat else none := rfl
@[simp] theorem tasV_iface (t' : TypeId) (zero : V) (ok : Bool) : tasV t zero ok (.iface t' v) = if t' = t then some (if ok then .tup [v, .bool true] else v) else if ok then some (.tup [zero, .bool false]) else none := rfl
@[simp] theorem tasV_nili (zero : V) (ok : Bool) : tasV t zero ok .nili = if ok then some (.tup [zero, .bool false]) else none := rfl
@[simp] theorem cviV_int : cviV k (.int k' a) = some (.int k (k.wrap a)) := rfl
@[simp] theorem negV_int : negV (.int k a) = some (.int k (k.wrap (0 - a))) := rfl
@[simp] theorem mmV_int (isMax : Bool) : mmV isMax (.int k a) (.int k b) = some (.int k (if isMax then (if b > a then b else a) else (if b < a then b else a))) := by simp [mmV]
@[simp] theorem b2bV_slc : b2bV σ (.slc l off len) = match σ.H l with | some (.row _ _) => if 0 < len then some (.slc l off len) else none | _ => none := rfl
@[simp] theorem lenV_nils : lenV .nils = some (.int .i64 0) := rfl
@[simp] theorem lenV_islc : lenV (.islc z es) = some (.int .i64 es.length) := rfl
@[simp] theorem lenV_slc : lenV (.slc l off len) = some (.int .i64 len) := rfl
@[simp] theorem boundV_int : boundV (.int k n) = if 0 ≤ n then some n.toNat else none := rfl
@[simp] theorem boundV_nat : boundV (.int k (m : Int)) = some m := by simp
@[simp] theorem cells_agg : (V.agg cs).cells = cs := rfl
theorem cells_scal {v : V} (h : v.scal = true) : v.cells = [v] := by cases v <;> first | rfl | simp [V.scal] at h
@[simp] theorem cells_int : (V.int k n).cells = [.int k n] := rfl
@[simp] theorem cells_bool (b : Bool) : (V.bool b).cells = [.bool b] := rfl
@[simp] theorem cells_str : (V.str s).cells = [.str s] := rfl
@[simp] theorem cells_nilp : V.nilp.cells = [.nilp] := rfl
@[simp] theorem cells_ptr : (V.ptr l i j).cells = [.ptr l i j] := rfl
@[simp] theorem cells_iptr : (V.iptr e j).cells = [.iptr e j] := rfl
@[simp] theorem cells_nils : V.nils.cells = [.nils] := rfl
@[simp] theorem cells_slc : (V.slc l off len).cells = [.slc l off len] := rfl
@[simp] theorem cells_islc : (V.islc z es).cells = [.islc z es] := rfl
@[simp] theorem cells_mapn : V.mapn.cells = [.mapn] := rfl
@[simp] theorem cells_map : (V.map l).cells = [.map l] := rfl
@[simp] theorem cells_func : (V.func fn x y).cells = [.func fn x y] := rfl
@[simp] theorem cells_nilf : V.nilf.cells = [.nilf] := rfl
@[simp] theorem cells_iface : (V.iface t v).cells = [.iface t v] := rfl
@[simp] theorem cells_nili : V.nili.cells = [.nili] := rfl
@[simp] theorem scal_int : (V.int k n).scal = true := rfl
@[simp] theorem scal_bool (b : Bool) : (V.bool b).scal = true := rfl
@[simp] theorem scal_str : (V.str s).scal = true := rfl
@[simp] theorem scal_nilp : V.nilp.scal = true := rfl
@[simp] theorem scal_ptr : (V.ptr l i j).scal = true := rfl
@[simp] theorem scal_iptr : (V.iptr e j).scal = true := rfl
@[simp] theorem scal_nils : V.nils.scal = true := rfl
@[simp] theorem scal_slc : (V.slc l off len).scal = true := rfl
@[simp] theorem scal_islc : (V.islc z es).scal = true := rfl
@[simp] theorem scal_mapn : V.mapn.scal = true := rfl
@[simp] theorem scal_map : (V.map l).scal = true := rfl
@[simp] theorem scal_func : (V.func fn x y).scal = true := rfl
@[simp] theorem scal_nilf : V.nilf.scal = true := rfl
@[simp] theorem scal_iface : (V.iface t v).scal = true := rfl
@[simp] theorem scal_nili : V.nili.scal = true := rfl
end
end Go.Proofs.YtmjbnfldehbmcaaDoor.Ab
