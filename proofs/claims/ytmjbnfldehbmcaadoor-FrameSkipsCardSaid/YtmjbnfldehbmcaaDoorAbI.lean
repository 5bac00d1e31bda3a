/-
The walk over the program's texts, told with what its values say: a part of it. No further condition.
-/
import Derived.Test.YtmjbnfldehbmcaaDoorAbH
namespace Go.Proofs.YtmjbnfldehbmcaaDoor.Ab
open Go.RowKit
set_option linter.unusedVariables false
set_option linter.unusedSimpArgs false
inductive Plan where
  | done
  | q (r : RI) (p : Plan)
  | alt (r : RI) (again : List RI) (p more : Plan)
  | stop
inductive C where
  | skip
  | reg (rs : List RI)
  | drw (p : Plan)
  | seq (a b : C)
  | cond (c : Opd) (a b : C)
  | block (id : Nat) (b : C)
  | loop (b : C)
  | exit (id : Nat)
  | ret
section
variable {P : Program} {φ φ' : Phi} {I I' : Nat → Prop} {σ σ' : St} {w w' : World} {nt : Nat} {f : Fr} {a : Act}
theorem cRI_some {ops : Array Oper} {rs : List RI} (h : ops.toList.mapM (cRI P nt ops) = some rs) : rs.length = ops.size ∧ ∀ (i : Nat) (r : RI), rs[i]? = some r → ∃ o, ops[i]? = some o ∧ cRI P nt ops o = some r := by
  obtain ⟨h1, h2⟩ := mapM_some h
  exact ⟨by simpa using h1, fun i r hr => by obtain ⟨o, ho, hc⟩ := h2 i r hr; exact ⟨o, by simpa using ho, hc⟩⟩
theorem rwp_ok {ops : Array Oper} {rs : List RI} (hc : ops.toList.mapM (cRI P nt ops) = some rs) {Q : AX → Fr → St → Prop} {φ0 : Phi} {I0 : Nat → Prop} {σ0 : St} {w0 : World} :
    ∀ (m i : Nat), i + m = rs.length → ∀ (f : Fr) (σ : St) (φ : Phi) (I : Nat → Prop) (w : World) (a : Act), Sim φ I σ w → RelF nt φ I w f a → Evo φ0 I0 σ0 w0 φ I σ w → rwp P Q (rs.drop i) f σ →
      wpOps P ops (Lift nt Q φ0 I0 σ0 w0) (List.range' i m) a w := by
  obtain ⟨h1, h2⟩ := cRI_some hc
  intro m
  induction m with
  | zero =>
    intro i hi f σ φ I w a hs hf hb h
    rw [List.drop_eq_nil_of_le (by omega)] at h
    simp only [List.range'_zero, wpOps]
    exact ⟨_, _, _, _, _, h, .normal, hb, hs, hf⟩
  | succ m ih =>
    intro i hi f σ φ I w a hs hf hb h
    have hlt : i < rs.length := by omega
    rw [List.drop_eq_getElem_cons hlt] at h
    obtain ⟨o, ho, hco⟩ := h2 i _ (List.getElem?_eq_getElem hlt)
    rw [List.range'_succ, wpOps_cons]
    exact rwp1_ok ho hco hs hf hb h fun f' σ' φ' I' w' a' hk he hs' hf' => ih (i + 1) (by omega) f' σ' φ' I' w' a' hs' hf' (hb.trans he) hk
end
/-- The program's code, told with all that its types say; 'pl' makes the plan of a region that draws its order. -/
def compC (pl : Program → Nat → Array Oper → Option Plan) (P : Program) (nt : Nat) : Code → Option C
  | .skip => some .skip
  | .region _ ops false => (ops.toList.mapM (cRI P nt ops)).map .reg
  | .region _ ops true => (pl P nt ops).map .drw
  | .seq a b => (compC pl P nt a).bind fun a => (compC pl P nt b).map fun b => .seq a b
  | .cond c a b => (cOpd nt c).bind fun c => (compC pl P nt a).bind fun a => (compC pl P nt b).map fun b => .cond c a b
  | .block id b => (compC pl P nt b).map (.block id)
  | .loop b => (compC pl P nt b).map .loop
  | .exit id => some (.exit id)
  | .ret => some .ret
  | _ => none
/-- What a piece of code brings about, whatever the draws. -/
def CWof (pl : Program → Nat → Array Oper → Option Plan) (P : Program) (nt : Nat) (c : C) (f : Fr) (σ : St) (Q : AX → Fr → St → Prop) : Prop :=
  ∀ code, compC pl P nt code = some c → ∀ φ I w a, Sim φ I σ w → RelF nt φ I w f a → code.wp P (Lift nt Q φ I σ w) a w
section
variable {pl : Program → Nat → Array Oper → Option Plan} {P : Program} {φ φ' : Phi} {I I' : Nat → Prop} {σ σ' : St} {w w' : World} {nt : Nat} {f : Fr} {a : Act} {Q : AX → Fr → St → Prop}
theorem Lift.mono {Q' : AX → Fr → St → Prop} (hq : ∀ x f σ, Q x f σ → Q' x f σ) {e : Exit} {a' : Act} {w' : World} (h : Lift nt Q φ I σ w e a' w') : Lift nt Q' φ I σ w e a' w' := by
  obtain ⟨x, f', σ', φ', I', h1, h2⟩ := h
  exact ⟨x, f', σ', φ', I', hq _ _ _ h1, h2⟩
theorem Lift.base {φ0 : Phi} {I0 : Nat → Prop} {σ0 : St} {w0 : World} (hb : Evo φ0 I0 σ0 w0 φ I σ w) {e : Exit} {a' : Act} {w' : World} (h : Lift nt Q φ I σ w e a' w') : Lift nt Q φ0 I0 σ0 w0 e a' w' := by
  obtain ⟨x, f', σ', φ', I', h1, h2, h3, h4⟩ := h
  exact ⟨x, f', σ', φ', I', h1, h2, hb.trans h3, h4⟩
theorem CWof.mono {c : C} {Q' : AX → Fr → St → Prop} (h : CWof pl P nt c f σ Q) (hq : ∀ x f σ, Q x f σ → Q' x f σ) : CWof pl P nt c f σ Q' :=
  fun code hc φ I w a hs hf => wp_mono (h code hc φ I w a hs hf) fun _ _ _ => Lift.mono hq
theorem cw_skip (h : Q .normal f σ) : CWof pl P nt .skip f σ Q := fun code hc φ I w a hs hf => by
  cases code <;> (try simp only [compC, Option.some.injEq, reduceCtorEq, Option.map_eq_some_iff, Option.bind_eq_some_iff, and_false, exists_false] at hc)
  case skip => exact wp_skip ⟨_, _, _, _, _, h, .normal, Evo.refl _ _ _ _, hs, hf⟩
  case region id ops d => cases d <;> simp [compC] at hc
theorem cw_ret (h : Q .ret f σ) : CWof pl P nt .ret f σ Q := fun code hc φ I w a hs hf => by
  cases code <;> (try simp only [compC, Option.some.injEq, reduceCtorEq, Option.map_eq_some_iff, Option.bind_eq_some_iff, and_false, exists_false] at hc)
  case ret => exact wp_ret ⟨_, _, _, _, _, h, .ret, Evo.refl _ _ _ _, hs, hf⟩
  case region id ops d => cases d <;> simp [compC] at hc
theorem cw_exit {id : Nat} (h : Q (.exit id) f σ) : CWof pl P nt (.exit id) f σ Q := fun code hc φ I w a hs hf => by
  cases code <;> (try simp only [compC, Option.some.injEq, reduceCtorEq, Option.map_eq_some_iff, Option.bind_eq_some_iff, and_false, exists_false, C.exit.injEq] at hc)
  case exit => subst hc; exact wp_exit ⟨_, _, _, _, _, h, .exit _, Evo.refl _ _ _ _, hs, hf⟩
  case region id ops d => cases d <;> simp [compC] at hc
theorem cw_reg {rs : List RI} (h : rwp P Q rs f σ) : CWof pl P nt (.reg rs) f σ Q := fun code hc φ I w a hs hf => by
  cases code <;> (try simp only [compC, Option.some.injEq, reduceCtorEq, Option.map_eq_some_iff, Option.bind_eq_some_iff, and_false, exists_false] at hc)
  case region id ops d =>
    cases d
    · simp only [compC, Option.map_eq_some_iff, C.reg.injEq] at hc
      obtain ⟨rs', hrs, rfl⟩ := hc
      refine wp_region ?_
      rw [List.range_eq_range', ← (cRI_some hrs).1]
      exact rwp_ok hrs _ 0 (by omega) f σ φ I w a hs hf (Evo.refl _ _ _ _) (by simpa using h)
    · simp [compC] at hc
theorem cw_seq {x y : C} (h : CWof pl P nt x f σ (fun e f' σ' => match e with | .normal => CWof pl P nt y f' σ' Q | e => Q e f' σ')) : CWof pl P nt (.seq x y) f σ Q := fun code hc φ I w a hs hf => by
  cases code <;> (try simp only [compC, Option.some.injEq, reduceCtorEq, Option.map_eq_some_iff, Option.bind_eq_some_iff, and_false, exists_false, C.seq.injEq] at hc)
  case seq cx cy =>
    obtain ⟨x', hx, y', hy, rfl, rfl⟩ := hc
    refine wp_seq (wp_mono (h cx hx φ I w a hs hf) fun e a' w' hl => ?_)
    obtain ⟨xe, f', σ', φ', I', h1, h2, h3, h4, h5⟩ := hl
    cases h2 with
    | normal => exact wp_mono (h1 cy hy φ' I' w' a' h4 h5) fun _ _ _ => Lift.base h3
    | exit id => exact ⟨_, _, _, _, _, h1, .exit id, h3, h4, h5⟩
    | ret => exact ⟨_, _, _, _, _, h1, .ret, h3, h4, h5⟩
    | panic hv => exact ⟨_, _, _, _, _, h1, .panic hv, h3, h4, h5⟩
  case region id ops d => cases d <;> simp [compC] at hc
theorem cw_cond {c : Opd} {x y : C} {t : Bool} (hc : c.ev f.env = .bool t) (h : CWof pl P nt (if t then x else y) f σ Q) : CWof pl P nt (.cond c x y) f σ Q := fun code hcc φ I w a hs hf => by
  cases code <;> (try simp only [compC, Option.some.injEq, reduceCtorEq, Option.map_eq_some_iff, Option.bind_eq_some_iff, and_false, exists_false, C.cond.injEq] at hcc)
  case cond co cx cy =>
    obtain ⟨c', hc', x', hx, y', hy, rfl, rfl, rfl⟩ := hcc
    have hr := cOpd_rel hf.env hc'
    rw [hc] at hr
    refine wp_cond hr.bool_inv ?_
    cases t
    · exact h cy (by simpa using hy) φ I w a hs hf
    · exact h cx (by simpa using hx) φ I w a hs hf
  case region id ops d => cases d <;> simp [compC] at hcc
theorem cw_block {id : Nat} {x : C} (h : CWof pl P nt x f σ (fun e f' σ' => match e with | .exit id' => if id' = id then Q .normal f' σ' else Q (.exit id') f' σ' | e => Q e f' σ')) : CWof pl P nt (.block id x) f σ Q := fun code hc φ I w a hs hf => by
  cases code <;> (try simp only [compC, Option.some.injEq, reduceCtorEq, Option.map_eq_some_iff, Option.bind_eq_some_iff, and_false, exists_false, C.block.injEq] at hc)
  case block id' cx =>
    obtain ⟨x', hx, rfl, rfl⟩ := hc
    refine wp_block (wp_mono (h cx hx φ I w a hs hf) fun e a' w' hl => ?_)
    obtain ⟨xe, f', σ', φ', I', h1, h2, h3, h4, h5⟩ := hl
    cases h2 with
    | normal => exact ⟨_, _, _, _, _, h1, .normal, h3, h4, h5⟩
    | exit id2 =>
      simp only [Exit.inBlock]
      simp only at h1
      split
      · rename_i e; rw [if_pos e] at h1; exact ⟨_, _, _, _, _, h1, .normal, h3, h4, h5⟩
      · rename_i e; rw [if_neg e] at h1; exact ⟨_, _, _, _, _, h1, .exit _, h3, h4, h5⟩
    | ret => exact ⟨_, _, _, _, _, h1, .ret, h3, h4, h5⟩
    | panic hv => exact ⟨_, _, _, _, _, h1, .panic hv, h3, h4, h5⟩
  case region id ops d => cases d <;> simp [compC] at hc
/-- So many rounds. -/
def LoopN (pl : Program → Nat → Array Oper → Option Plan) (P : Program) (nt : Nat) (b : C) (Q : AX → Fr → St → Prop) : Nat → Fr → St → Prop
  | 0, _, _ => False
  | n + 1, f, σ => CWof pl P nt b f σ (fun e f' σ' => match e with | .normal => LoopN pl P nt b Q n f' σ' | e => Q e f' σ')
theorem loop_key {c : Code} {b : C} (hc : compC pl P nt c = some b) (fr : Frame) (k : List Item) (cs : List Frame) {φ0 : Phi} {I0 : Nat → Prop} {σ0 : St} {w0 : World} : ∀ (n : Nat) (f : Fr) (σ : St) (φ : Phi) (I : Nat → Prop) (w : World) (a : Act),
    LoopN pl P nt b Q n f σ → Sim φ I σ w → RelF nt φ I w f a → Evo φ0 I0 σ0 w0 φ I σ w →
    ∃ e a' w', Lift nt Q φ0 I0 σ0 w0 e a' w' ∧ Arrives P (lone (fr.at a (.code c :: .inLoop c :: k)) cs w) fr k cs e a' w'
  | 0, _, _, _, _, _, _, h, _, _, _ => h.elim
  | n + 1, f, σ, φ, I, w, a, h, hs, hf, hb => by
    obtain ⟨e, a₁, w₁, hq, harr⟩ := h c hc φ I w a hs hf fr (.inLoop c :: k) cs
    obtain ⟨xe, f', σ', φ', I', h1, h2, h3, h4, h5⟩ := hq
    cases h2 with
    | normal =>
      obtain ⟨e₂, a₂, w₂, hq₂, harr₂⟩ := loop_key hc fr k cs n f' σ' φ' I' w₁ a₁ h1 h4 h5 (hb.trans h3)
      exact ⟨e₂, a₂, w₂, hq₂, .of_steps (Steps.trans harr (.one step_inLoop)) harr₂⟩
    | exit id => exact ⟨_, a₁, w₁, ⟨_, _, _, _, _, h1, .exit id, hb.trans h3, h4, h5⟩, .pass (x := .inLoop c) rfl (fun _ _ => .inl (by simp)) harr⟩
    | ret => exact ⟨_, a₁, w₁, ⟨_, _, _, _, _, h1, .ret, hb.trans h3, h4, h5⟩, .pass (x := .inLoop c) rfl (fun _ _ => .inl (by simp)) harr⟩
    | panic hv => exact ⟨_, a₁, w₁, ⟨_, _, _, _, _, h1, .panic hv, hb.trans h3, h4, h5⟩, .pass (x := .inLoop c) rfl (fun _ _ => .inl (by simp)) harr⟩
theorem cw_loopN {b : C} (n : Nat) (h : LoopN pl P nt b Q n f σ) : CWof pl P nt (.loop b) f σ Q := fun code hc φ I w a hs hf => by
  cases code <;> (try simp only [compC, Option.some.injEq, reduceCtorEq, Option.map_eq_some_iff, Option.bind_eq_some_iff, and_false, exists_false, C.loop.injEq] at hc)
  case loop cb =>
    obtain ⟨b', hb, rfl⟩ := hc
    intro fr k cs
    obtain ⟨e, a', w', hq, harr⟩ := loop_key hb fr k cs n f σ φ I w a h hs hf (Evo.refl _ _ _ _)
    exact ⟨e, a', w', hq, .of_steps (.one step_loop) harr⟩
  case region id ops d => cases d <;> simp [compC] at hc
theorem loopN_of {b : C} (J : Nat → Fr → St → Prop) (step : ∀ n f σ, J n f σ → CWof pl P nt b f σ (fun e f' σ' => match e with | .normal => ∃ m, m < n ∧ J m f' σ' | e => Q e f' σ')) :
    ∀ N n f σ, n < N → J n f σ → LoopN pl P nt b Q N f σ
  | 0, _, _, _, h, _ => by omega
  | N + 1, n, f, σ, h, hj => (step n f σ hj).mono fun x f' σ' hq => by
    cases x with
    | normal => obtain ⟨m, hm, hj'⟩ := hq; exact loopN_of J step N m f' σ' (by omega) hj'
    | exit id => exact hq
    | ret => exact hq
    | panic v => exact hq
/-- A loop: what holds at each round's head, with a number that falls. -/
theorem cw_loop {b : C} (J : Nat → Fr → St → Prop) (n : Nat) (h0 : J n f σ) (step : ∀ n f σ, J n f σ → CWof pl P nt b f σ (fun e f' σ' => match e with | .normal => ∃ m, m < n ∧ J m f' σ' | e => Q e f' σ')) : CWof pl P nt (.loop b) f σ Q :=
  cw_loopN (n + 1) (loopN_of J step (n + 1) n f σ (by omega) h0)
end
end Go.Proofs.YtmjbnfldehbmcaaDoor.Ab
