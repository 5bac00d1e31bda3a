/-
The walk over the program's texts, told with what its values say: a part of it. No further condition.
-/
import Derived.Test.YtmkgmjdbgjiehaaDoorAbPe
namespace Go.Proofs.YtmkgmjdbgjiehaaDoor.Ab
set_option linter.unusedVariables false
section
variable (M : Nat) (L : List TK)
def RowOK (lv : Nat) (e : Ex) : Prop := ∀ n d ts rest b, Mt (pcE e (lv + 1) b) ts → Fo lv rest → Q (rowT M L n lv d (ts ++ rest)) e rest
def UnOK (e : Ex) : Prop := ∀ n d ts rest b, Mt (pcE e 6 b) ts → Fo 5 rest → Q (unaryT M L n d (ts ++ rest)) e rest
def ExOK (e : Ex) : Prop := ∀ n d ts rest b, Mt (pcE e 0 b) ts → Fo 0 rest → Q (exprT M L n d (ts ++ rest)) e rest
def LoOK (lv : Nat) (e : Ex) : Prop := ∀ n d ts rest b, Mt (pcE e (lv + 1) b) ts → Fo (lv + 1) rest →
  rowT M L n lv d (ts ++ rest) = .off ∨ (∃ a b r, rowT M L n lv d (ts ++ rest) = .bad a b 13 r) ∨ ∃ n' fr e', rowT M L n lv d (ts ++ rest) = loopT M L n' lv d fr e' rest ∧ er e' = er e
variable {M L}
theorem loop_stop {n lv d fr : Nat} {a e : Ex} {rest : List TK} (hlv : lv ≤ 4) (hf : Fo lv rest) (h : er a = er e) : Q (loopT M L n lv d fr a rest) e rest := by
  cases n with
  | zero => exact .inl (by simp [loopT])
  | succ n =>
    cases rest with
    | nil => exact hf.elim
    | cons t r =>
      unfold loopT
      simp only
      rw [if_pos (hf.1 lv (Nat.le_refl _))]
      exact .ok h
theorem row_up {lv : Nat} (hlv : lv ≤ 4) {n d : Nat} {X : List TK} {e : Ex} {rest : List TK} (hX : X ≠ []) (hf : Fo lv rest) (h : ∀ n, Q (rowT M L n (lv + 1) d X) e rest) : Q (rowT M L n lv d X) e rest := by
  cases n with
  | zero => exact .inl (by simp [rowT])
  | succ n =>
    cases X with
    | nil => exact absurd rfl hX
    | cons t r =>
      unfold rowT
      rw [if_neg (by omega)]
      exact (h n).bind fun e' he => loop_stop hlv hf he
theorem row_5 {n d : Nat} {X : List TK} {e : Ex} {rest : List TK} (h : ∀ n, Q (unaryT M L n d X) e rest) : Q (rowT M L n 5 d X) e rest := by
  cases n with
  | zero => exact .inl (by simp [rowT])
  | succ n => unfold rowT; rw [if_pos rfl]; exact h n
theorem mt_ne {e : Ex} (he : Okx e) {least : Nat} {b : Bool} {ts rest : List TK} (h : Mt (pcE e least b) ts) : ∃ p t u, ts = t :: u ∧ t.kind = p.k ∧ t.txt = p.s ∧ Hd1 least p := by
  obtain ⟨p, ps, h1, h2, _⟩ := pc_head e he least b
  rw [h1] at h
  obtain ⟨t, u, rfl, k1, k2, _⟩ := h.cons
  exact ⟨p, t, u, rfl, k1, k2, h2⟩
theorem un_of_at {n d : Nat} {p : Pc} {t : TK} {r : List TK} {e : Ex} {rest : List TK} (k1 : t.kind = p.k) (k2 : t.txt = p.s) (hp : isP [45] p = false ∧ isP [110, 111, 116] p = false) (h : ∀ n, Q (atomT M L n (d + 1) (t :: r)) e rest) : Q (unaryT M L n d (t :: r)) e rest := by
  cases n with
  | zero => exact .inl (by simp [unaryT])
  | succ n =>
    unfold unaryT
    simp only
    by_cases hd : M < d + 1
    · rw [if_pos hd]; exact .inr (.inl ⟨_, _, _, rfl⟩)
    · rw [if_neg hd]
      rw [takeT_p k1 k2, hp.1, takeT_p k1 k2, hp.2]
      exact h n
theorem ex_of_row {n d : Nat} {p : Pc} {t : TK} {r : List TK} {e : Ex} {rest : List TK} (k1 : t.kind = p.k) (k2 : t.txt = p.s) (hp : isP [108, 101, 116] p = false ∧ isP [105, 102] p = false ∧ isP [97, 115, 115, 101, 114, 116] p = false) (h : ∀ n, Q (rowT M L n 0 (d + 1) (t :: r)) e rest) : Q (exprT M L n d (t :: r)) e rest := by
  cases n with
  | zero => exact .inl (by simp [exprT])
  | succ n =>
    unfold exprT
    simp only
    by_cases hd : M < d + 1
    · rw [if_pos hd]; exact .inr (.inl ⟨_, _, _, rfl⟩)
    · rw [if_neg hd]
      rw [takeT_p k1 k2, hp.1, takeT_p k1 k2, hp.2.1, takeT_p k1 k2, hp.2.2]
      exact h n
structure AllOK (M : Nat) (L : List TK) (e : Ex) : Prop where
  row : ∀ lv, lv ≤ 4 → RowOK M L lv e
  un : UnOK M L e
  ex : ExOK M L e
  lo : ∀ lv, lv ≤ 4 → lv ≠ 2 → LoOK M L lv e
theorem wantT_p {s : List UInt8} {p : Pc} {t : TK} {r : List TK} (h1 : t.kind = p.k) (h2 : t.txt = p.s) (hp : isP s p = true) : wantT s (t :: r) = .ok () r := by
  unfold wantT; rw [takeT_p h1 h2, hp]; rfl
theorem loop_at {lv : Nat} (hlv : lv ≤ 4) {n d : Nat} {X : List TK} {e : Ex} {rest : List TK} (hX : X ≠ []) (h : ∀ n, Q (rowT M L n (lv + 1) d X) e rest) :
    rowT M L n lv d X = .off ∨ (∃ a b r, rowT M L n lv d X = .bad a b 13 r) ∨ ∃ n' fr e', rowT M L n lv d X = loopT M L n' lv d fr e' rest ∧ er e' = er e := by
  cases n with
  | zero => exact .inl (by simp [rowT])
  | succ n =>
    cases X with
    | nil => exact absurd rfl hX
    | cons t r =>
      unfold rowT
      rw [if_neg (by omega)]
      rcases h n with h | ⟨a, b, r', h⟩ | ⟨e', h, he⟩
      · left; show (rowT M L n (lv + 1) d (t :: r)).bind _ = _; rw [h]; rfl
      · right; left; refine ⟨a, b, r', ?_⟩; show (rowT M L n (lv + 1) d (t :: r)).bind _ = _; rw [h]; rfl
      · right; right; refine ⟨n, t.fr, e', ?_, he⟩; show (rowT M L n (lv + 1) d (t :: r)).bind _ = _; rw [h]; rfl
theorem Q.of_loop {x : Rs Ex} {lv d : Nat} {e : Ex} {rest : List TK} (hlv : lv ≤ 4) (hf : Fo lv rest) (h : x = .off ∨ (∃ a b r, x = .bad a b 13 r) ∨ ∃ n' fr e', x = loopT M L n' lv d fr e' rest ∧ er e' = er e) : Q x e rest := by
  rcases h with h | h | ⟨n', fr, e', h, he⟩
  · exact .inl h
  · exact .inr (.inl h)
  · rw [h]; exact loop_stop hlv hf he
end
end Go.Proofs.YtmkgmjdbgjiehaaDoor.Ab
namespace Go.Proofs.YtmkgmjdbgjiehaaDoor.Ab
set_option linter.unusedVariables false
section
variable {M : Nat} {L : List TK}
structure Own1 (M : Nat) (L : List TK) (e : Ex) : Prop where
  at' : bindsK e.kind = 7 → ∀ n d ts rest b, Mt (pcB e b) ts → Fo 5 rest → Q (atomT M L n d (ts ++ rest)) e rest
  un : bindsK e.kind = 6 → ∀ n d ts rest b, Mt (pcB e b) ts → Fo 5 rest → Q (unaryT M L n d (ts ++ rest)) e rest
  lo : ∀ lv, lv ≤ 4 → lv ≠ 2 → bindsK e.kind = lv + 1 → ∀ n d ts rest b, Mt (pcB e b) ts → Fo (lv + 1) rest →
    rowT M L n lv d (ts ++ rest) = .off ∨ (∃ a b r, rowT M L n lv d (ts ++ rest) = .bad a b 13 r) ∨ ∃ n' fr e', rowT M L n lv d (ts ++ rest) = loopT M L n' lv d fr e' rest ∧ er e' = er e
  two : bindsK e.kind = 3 → ∀ n d ts rest b, Mt (pcB e b) ts → Fo 2 rest → Q (rowT M L n 2 d (ts ++ rest)) e rest
  ex : bindsK e.kind = 0 → ∀ n d ts rest b, Mt (pcB e b) ts → Fo 0 rest → Q (exprT M L n d (ts ++ rest)) e rest
theorem pcB_head {e : Ex} (he : Okx e) {least : Nat} (hl : least ≤ bindsK e.kind) {b : Bool} {ts : List TK} (h : Mt (pcB e b) ts) : ∃ p t u, ts = t :: u ∧ t.kind = p.k ∧ t.txt = p.s ∧ Hd1 least p :=
  mt_ne he (least := least) (b := b) (rest := []) (by rw [pcE_ge (by omega)]; exact h)
theorem kind_close {p : Pc} (hp : p = ⟨4, [41], false⟩) {t : TK} (h1 : t.kind = p.k) (h2 : t.txt = p.s) (r : List TK) : Fo 0 (t :: r) := by
  subst hp
  simp only at h1 h2
  refine ⟨fun v _ => ?_, by simp [isT, h2]⟩
  unfold levelT
  rw [if_pos (by omega), h2]
  match v with
  | 0 => rfl
  | 1 => rfl
  | 2 => rfl
  | 3 => rfl
  | 4 => rfl
  | v + 5 => rfl
theorem lift {e : Ex} (he : Okx e) (o : Own1 M L e) : AllOK M L e := by
  have hn := bindsK_le e.kind
  -- without brackets
  have unB : 6 ≤ bindsK e.kind → ∀ n d ts rest b, Mt (pcB e b) ts → Fo 5 rest → Q (unaryT M L n d (ts ++ rest)) e rest := by
    intro h6 n d ts rest b hm hf
    by_cases h7 : bindsK e.kind = 7
    · obtain ⟨p, t, u, rfl, k1, k2, k3⟩ := pcB_head he (least := 7) (by omega) hm
      exact un_of_at k1 k2 (k3.2.2 (by omega)) fun n => o.at' h7 n _ _ _ b hm hf
    · exact o.un (by omega) n d ts rest b hm hf
  have rowB : ∀ j lv, lv + j = 5 → lv + 1 ≤ bindsK e.kind → ∀ n d ts rest b, Mt (pcB e b) ts → Fo lv rest → Q (rowT M L n lv d (ts ++ rest)) e rest := by
    intro j
    induction j with
    | zero =>
      intro lv hj hl n d ts rest b hm hf
      obtain rfl : lv = 5 := by omega
      exact row_5 fun n => unB (by omega) n d ts rest b hm hf
    | succ j ih =>
      intro lv hj hl n d ts rest b hm hf
      obtain ⟨p, t, u, hts, k1, k2, k3⟩ := pcB_head he (least := 0) (by omega) hm
      by_cases hown : bindsK e.kind = lv + 1
      · by_cases h2 : lv = 2
        · subst h2; exact o.two hown n d ts rest b hm hf
        · exact Q.of_loop (by omega) hf (o.lo lv (by omega) h2 hown n d ts rest b hm (hf.up (by omega)))
      · exact row_up (by omega) (by rw [hts]; simp) hf fun n => ih (lv + 1) (by omega) (by omega) n d ts rest b hm (hf.up (by omega))
  have exB : ∀ n d ts rest b, Mt (pcB e b) ts → Fo 0 rest → Q (exprT M L n d (ts ++ rest)) e rest := by
    intro n d ts rest b hm hf
    by_cases h0 : bindsK e.kind = 0
    · exact o.ex h0 n d ts rest b hm hf
    · obtain ⟨p, t, u, rfl, k1, k2, k3⟩ := pcB_head he (least := 1) (by omega) hm
      exact ex_of_row k1 k2 (k3.2.1 (by omega)) fun n => rowB 5 0 rfl (by omega) n _ _ _ b hm hf
  -- in brackets
  have atP : ∀ n d ts rest b, Mt (⟨4, [40], b⟩ :: (pcB e false ++ [⟨4, [41], false⟩])) ts → Fo 5 rest → Q (atomT M L n d (ts ++ rest)) e rest := by
    intro n d ts rest b hm hf
    obtain ⟨t, u, rfl, k1, k2, k3⟩ := hm.cons
    obtain ⟨v, w, rfl, k4, k5⟩ := k3.app
    obtain ⟨t2, x, rfl, k6, k7, k8⟩ := k5.cons
    obtain rfl := k8.nil
    cases n with
    | zero => exact .inl (by simp [atomT])
    | succ n =>
      simp only at k1 k2 k6 k7
      show Q (atomT M L (n + 1) d (t :: ((v ++ [t2]) ++ rest))) e rest
      unfold atomT
      simp only
      rw [if_neg (by omega), if_neg (by omega), takeT_p (p := ⟨4, [40], b⟩) k1 k2, takeT_p (p := ⟨4, [40], b⟩) k1 k2, takeT_p (p := ⟨4, [40], b⟩) k1 k2, takeT_p (p := ⟨4, [40], b⟩) k1 k2]
      simp only [isP]
      rw [List.append_assoc]
      refine (exB n d v (t2 :: rest) false k4 (kind_close (p := ⟨4, [41], false⟩) rfl k6 k7 rest)).bind fun e' h => ?_
      rw [wantT_p (p := ⟨4, [41], false⟩) k6 k7 rfl]
      exact .ok h
  have unP : ∀ n d ts rest b, Mt (⟨4, [40], b⟩ :: (pcB e false ++ [⟨4, [41], false⟩])) ts → Fo 5 rest → Q (unaryT M L n d (ts ++ rest)) e rest := by
    intro n d ts rest b hm hf
    obtain ⟨t, u, rfl, k1, k2, k3⟩ := hm.cons
    exact un_of_at (p := ⟨4, [40], b⟩) k1 k2 ⟨rfl, rfl⟩ fun n => atP n _ _ _ b hm hf
  have rowP : ∀ j lv, lv + j = 5 → ∀ n d ts rest b, Mt (⟨4, [40], b⟩ :: (pcB e false ++ [⟨4, [41], false⟩])) ts → Fo lv rest → Q (rowT M L n lv d (ts ++ rest)) e rest := by
    intro j
    induction j with
    | zero =>
      intro lv hj n d ts rest b hm hf
      obtain rfl : lv = 5 := by omega
      exact row_5 fun n => unP n d ts rest b hm hf
    | succ j ih =>
      intro lv hj n d ts rest b hm hf
      obtain ⟨t, u, hts, k1, k2, k3⟩ := hm.cons
      exact row_up (by omega) (by rw [hts]; simp) hf fun n => ih (lv + 1) (by omega) n d ts rest b hm (hf.up (by omega))
  refine ⟨fun lv hlv n d ts rest b hm hf => ?_, fun n d ts rest b hm hf => ?_, fun n d ts rest b hm hf => ?_, fun lv hlv h2 n d ts rest b hm hf => ?_⟩
  · by_cases hb : bindsK e.kind < lv + 1
    · rw [pcE_lt hb] at hm; exact rowP (5 - lv) lv (by omega) n d ts rest b hm hf
    · rw [pcE_ge hb] at hm; exact rowB (5 - lv) lv (by omega) (by omega) n d ts rest b hm hf
  · by_cases hb : bindsK e.kind < 6
    · rw [pcE_lt hb] at hm; exact unP n d ts rest b hm hf
    · rw [pcE_ge hb] at hm; exact unB (by omega) n d ts rest b hm hf
  · rw [pcE_ge (by omega)] at hm; exact exB n d ts rest b hm hf
  · by_cases hb : bindsK e.kind < lv + 1
    · rw [pcE_lt hb] at hm
      obtain ⟨t, u, hts, k1, k2, k3⟩ := hm.cons
      exact loop_at hlv (by rw [hts]; simp) fun n => rowP (5 - (lv + 1)) (lv + 1) (by omega) n d ts rest b hm hf
    · rw [pcE_ge hb] at hm
      by_cases hown : bindsK e.kind = lv + 1
      · exact o.lo lv hlv h2 hown n d ts rest b hm hf
      · obtain ⟨p, t, u, hts, k1, k2, k3⟩ := pcB_head he (least := 0) (by omega) hm
        exact loop_at hlv (by rw [hts]; simp) fun n => rowB (5 - (lv + 1)) (lv + 1) (by omega) (by omega) n d ts rest b hm hf
end
end Go.Proofs.YtmkgmjdbgjiehaaDoor.Ab
namespace Go.Proofs.YtmkgmjdbgjiehaaDoor.Ab
set_option linter.unusedVariables false
section
variable {M : Nat} {L : List TK}
def QA (x : Rs (List Ex)) (l : List Ex) (rest : List TK) : Prop := x = .off ∨ (∃ a b r, x = .bad a b 13 r) ∨ ∃ l', x = .ok l' rest ∧ l'.map er = l.map er
theorem Q.bindA {x : Rs Ex} {e : Ex} {l : List Ex} {rest rest2 : List TK} {f : Ex → List TK → Rs (List Ex)} (h : Q x e rest) (k : ∀ e', er e' = er e → QA (f e' rest) l rest2) : QA (x.bind f) l rest2 := by
  rcases h with rfl | ⟨a, b, r, rfl⟩ | ⟨e', rfl, h⟩
  · exact .inl rfl
  · exact .inr (.inl ⟨a, b, r, rfl⟩)
  · exact k e' h
theorem QA.bindE {x : Rs (List Ex)} {l : List Ex} {e2 : Ex} {rest rest2 : List TK} {f : List Ex → List TK → Rs Ex} (h : QA x l rest) (k : ∀ l', l'.map er = l.map er → Q (f l' rest) e2 rest2) : Q (x.bind f) e2 rest2 := by
  rcases h with rfl | ⟨a, b, r, rfl⟩ | ⟨l', rfl, h⟩
  · exact .inl rfl
  · exact .inr (.inl ⟨a, b, r, rfl⟩)
  · exact k l' h
theorem QA.bind {x : Rs (List Ex)} {l l2 : List Ex} {rest rest2 : List TK} {f : List Ex → List TK → Rs (List Ex)} (h : QA x l rest) (k : ∀ l', l'.map er = l.map er → QA (f l' rest) l2 rest2) : QA (x.bind f) l2 rest2 := by
  rcases h with rfl | ⟨a, b, r, rfl⟩ | ⟨l', rfl, h⟩
  · exact .inl rfl
  · exact .inr (.inl ⟨a, b, r, rfl⟩)
  · exact k l' h
theorem kind_comma {t : TK} (h1 : t.kind = 4) (h2 : t.txt = [44]) (r : List TK) : Fo 0 (t :: r) := by
  refine ⟨fun v _ => ?_, by simp [isT, h2]⟩
  unfold levelT
  rw [if_pos (by omega), h2]
  match v with
  | 0 => rfl
  | 1 => rfl
  | 2 => rfl
  | 3 => rfl
  | 4 => rfl
  | v + 5 => rfl
theorem arg_ok {c : Option Nat} {N : Nat} (hc : c = none ∨ c = some N) (hN : N ≤ 6) : ∀ (l : List Ex), (∀ e ∈ l, Okx e ∧ AllOK M L e) → ∀ (n d : Nat) (acc acc0 : List Ex) (ts rest : List TK) (tc : TK), acc.length + l.length = N → acc.map er = acc0.map er → Mt (if acc = [] then listP (pcA l) else restP (pcA l)) ts → tc.kind = 4 → tc.txt = [41] →
    QA (argT M L n c d acc (ts ++ tc :: rest)) (acc0 ++ l) (tc :: rest)
  | [], hl, n, d, acc, acc0, ts, rest, tc, hlen, hacc, hm, k1, k2 => by
    have hts : ts = [] := by
      have : (if acc = [] then listP (pcA []) else restP (pcA [])) = [] := by split <;> simp [pcA, listP, restP]
      rw [this] at hm; exact hm.nil
    subst hts
    cases n with
    | zero => exact .inl (by simp [argT])
    | succ n =>
      unfold argT
      have h1 : isT [41] (tc :: rest) = true := by simp [isT, k1, k2]
      have h2 : fewT c acc.length = false := by
        rcases hc with rfl | rfl
        · rfl
        · simp only [fewT, decide_eq_false_iff_not]; simp at hlen; omega
      rw [List.nil_append, if_neg (by rw [h1, h2]; simp)]
      exact .inr (.inr ⟨acc, rfl, by simpa using hacc⟩)
  | e :: l, hl, n, d, acc, acc0, ts, rest, tc, hlen, hacc, hm, k1, k2 => by
    cases n with
    | zero => exact .inl (by simp [argT])
    | succ n =>
      obtain ⟨he, hok⟩ := hl e (by simp)
      simp only [List.length_cons] at hlen
      -- behind the comma
      have key : ∀ (b : Bool) (v w : List TK), Mt (pcE e 0 b) v → Mt (restP (pcA l)) w → QA ((exprT M L n d (v ++ (w ++ tc :: rest))).bind fun e' r2 => if 6 < acc.length + 1 then .bad e'.fr e'.to 3 r2 else argT M L n c d (acc ++ [e']) r2) (acc0 ++ e :: l) (tc :: rest) := by
        intro b v w hv hw
        have hfo : Fo 0 (w ++ tc :: rest) := by
          cases l with
          | nil =>
            have : w = [] := by simp [pcA, restP] at hw; exact hw.nil
            subst this
            exact kind_close (p := ⟨4, [41], false⟩) rfl k1 k2 rest
          | cons e2 l2 =>
            simp only [pcA, restP, List.flatMap_cons] at hw
            obtain ⟨t, u, rfl, j1, j2, _⟩ := Mt.cons hw
            exact kind_comma j1 j2 _
        refine (hok.ex n d v (w ++ tc :: rest) b hv hfo).bindA fun e' he' => ?_
        rw [if_neg (by omega)]
        have := arg_ok hc hN l (fun x hx => hl x (by simp [hx])) n d (acc ++ [e']) (acc0 ++ [e]) w rest tc (by simp; omega) (by simp [hacc, he']) (by rw [if_neg (by simp)]; exact hw) k1 k2
        rwa [List.append_assoc] at this
      by_cases h0 : acc = []
      · rw [if_pos h0] at hm
        simp only [pcA, listP] at hm
        obtain ⟨v, w, rfl, hv, hw⟩ := Mt.app hm
        have hv' : Mt (pcE e 0 false) v := hv
        obtain ⟨p, t, u, rfl, j1, j2, j3⟩ := mt_ne (rest := []) he hv'
        unfold argT
        have h1 : isT [41] (((t :: u) ++ w) ++ tc :: rest) = false := by
          show isT [41] (t :: _) = false
          rw [isT_p j1 j2]; exact j3.1
        rw [if_pos (by rw [h1]; rfl), if_pos h0, Rs.bind_ok, List.append_assoc]
        exact key false _ w hv' hw
      · rw [if_neg h0] at hm
        simp only [pcA, restP, List.flatMap_cons] at hm
        obtain ⟨t, u, rfl, j1, j2, j3⟩ := Mt.cons hm
        obtain ⟨v, w, rfl, hv, hw⟩ := Mt.app j3
        simp only at j1 j2
        unfold argT
        have h1 : isT [41] ((t :: (v ++ w)) ++ tc :: rest) = false := by simp [isT, j2]
        rw [if_pos (by rw [h1]; rfl), if_neg h0]
        show QA ((wantT [44] (t :: ((v ++ w) ++ tc :: rest))).bind _) _ _
        rw [wantT_p (p := ⟨4, [44], false⟩) j1 j2 rfl, Rs.bind_ok, List.append_assoc]
        exact key true v w hv hw
theorem args_ok {c : Option Nat} {l : List Ex} (hc : c = none ∨ c = some l.length) (hN : l.length ≤ 6) (hl : ∀ e ∈ l, Okx e ∧ AllOK M L e) {n d : Nat} {ts rest : List TK} (hm : Mt (⟨4, [40], false⟩ :: (listP (pcA l) ++ [⟨4, [41], false⟩])) ts) : QA (argsT M L n c d (ts ++ rest)) l rest := by
  obtain ⟨t, u, rfl, k1, k2, k3⟩ := hm.cons
  obtain ⟨v, w, rfl, k4, k5⟩ := k3.app
  obtain ⟨t2, x, rfl, k6, k7, k8⟩ := k5.cons
  obtain rfl := k8.nil
  cases n with
  | zero => exact .inl (by simp [argsT])
  | succ n =>
    unfold argsT
    show QA ((wantT [40] (t :: ((v ++ [t2]) ++ rest))).bind _) _ _
    rw [wantT_p (p := ⟨4, [40], false⟩) k1 k2 rfl, Rs.bind_ok, List.append_assoc]
    have := arg_ok (M := M) (L := L) hc hN l hl n d [] [] v rest t2 (by simp) rfl (by rw [if_pos rfl]; exact k4) k6 k7
    refine this.bind fun l' hl' => ?_
    have hlen : l'.length = l.length := by have := congrArg List.length hl'; simpa using this
    have hmany : manyT c l' = none := by
      rcases hc with rfl | rfl
      · rfl
      · simp only [manyT]; rw [List.getElem?_eq_none (by omega)]
    rw [hmany]
    simp only
    rw [wantT_p (p := ⟨4, [41], false⟩) k6 k7 rfl, Rs.bind_ok]
    exact .inr (.inr ⟨l', rfl, by simpa using hl'⟩)
end
end Go.Proofs.YtmkgmjdbgjiehaaDoor.Ab
namespace Go.Proofs.YtmkgmjdbgjiehaaDoor.Ab
set_option linter.unusedVariables false
theorem numD_app (s : List UInt8) (c : UInt8) : numD (s ++ [c]) = numD s * 10 + (c.toNat - 48) := by simp [numD]
theorem numT_ok : ∀ n, numD (numT n) = n ∧ wellD (numT n) = true ∧ (numT n).all digD = true ∧ (0 < n → ∃ c t, numT n = c :: t ∧ c.toNat ≠ 48) := by
  intro n
  induction n using Nat.strongRecOn with
  | _ n ih =>
    rw [numT]
    by_cases h : n < 10
    · rw [dif_pos h]
      have hc : (UInt8.ofNat (48 + n)).toNat = 48 + n := by simp; omega
      refine ⟨by simp [numD]; omega, ?_, ?_, fun h0 => ⟨_, _, rfl, by rw [hc]; omega⟩⟩
      · simp only [wellD, List.all_cons, List.all_nil, hc]; simp; omega
      · simp only [List.all_cons, List.all_nil, digD, hc]; simp; omega
    · rw [dif_neg h]
      obtain ⟨h1, h2, h3, h4⟩ := ih (n / 10) (by omega)
      have hc : (UInt8.ofNat (48 + n % 10)).toNat = 48 + n % 10 := by simp; omega
      obtain ⟨c, t, ht, hc0⟩ := h4 (by omega)
      refine ⟨by rw [numD_app, h1, hc]; omega, ?_, ?_, fun _ => ⟨c, t ++ [UInt8.ofNat (48 + n % 10)], by rw [ht]; rfl, hc0⟩⟩
      · rw [ht] at h3 ⊢
        have : (c :: t ++ [UInt8.ofNat (48 + n % 10)]).all digD = true := by
          rw [List.all_append, h3]; simp only [List.all_cons, List.all_nil, digD, hc]; simp; omega
        show ((c :: (t ++ [UInt8.ofNat (48 + n % 10)])).all digD && !(c.toNat == 48 && decide (0 < (t ++ [UInt8.ofNat (48 + n % 10)]).length))) = true
        rw [show (c :: (t ++ [UInt8.ofNat (48 + n % 10)])).all digD = true from this]
        simp [hc0]
      · rw [List.all_append, h3]; simp only [List.all_cons, List.all_nil, digD, hc]; simp; omega
theorem numT_len : ∀ (k n : Nat), n < 10 ^ (k + 1) → (numT n).length ≤ k + 1
  | 0, n, h => by rw [numT, dif_pos (by omega)]; simp
  | k + 1, n, h => by
    rw [numT]
    split
    · simp
    · have := numT_len k (n / 10) (by rw [Nat.pow_succ] at h; omega)
      simp; omega
section
variable {M : Nat} {L : List TK}
theorem levelT_none {t : TK} {s : List UInt8} (h : t.txt = s) (hs : ∀ v, signK v s = 0) (v : Nat) : levelT v t = 0 := by
  unfold levelT; split
  · rw [h]; exact hs v
  · rfl
theorem signK_none {s : List UInt8} (h : s ∉ [[111, 114], [97, 110, 100], [61], [33, 61], [60], [60, 61], [62], [62, 61], [43], [45], [42], [47], [37]]) (v : Nat) : signK v s = 0 := by
  simp only [List.mem_cons, List.not_mem_nil, or_false, not_or] at h
  obtain ⟨h1, h2, h3, h4, h5, h6, h7, h8, h9, h10, h11, h12, h13⟩ := h
  match v with
  | 0 => simp [signK, h1]
  | 1 => simp [signK, h2]
  | 2 => simp [signK, h3, h4, h5, h6, h7, h8]
  | 3 => simp [signK, h9, h10]
  | 4 => simp [signK, h11, h12, h13]
  | v + 5 => rfl
theorem fo_word {t : TK} {s : List UInt8} (h1 : t.txt = s) (hs : s ∉ [[111, 114], [97, 110, 100], [61], [33, 61], [60], [60, 61], [62], [62, 61], [43], [45], [42], [47], [37]]) (h40 : s ≠ [40]) (r : List TK) : Fo 0 (t :: r) :=
  ⟨fun v _ => levelT_none h1 (signK_none hs) v, by simp [isT, h1, h40]⟩
theorem er_1 {k : Nat} {nm : List UInt8} {m a b a' b' : Nat} {l l' : List Ex} (h : l'.map er = l.map er) : er (.mk k nm m l' a b) = er (.mk k nm m l a' b') := by rw [er_mk, er_mk, h]
theorem own_at {k : Nat} {nm : List UInt8} {m : Nat} {l : List Ex} {fr to : Nat} (he : Okx (.mk k nm m l fr to)) (ih : ∀ a ∈ l, Okx a ∧ AllOK M L a) (h7 : bindsK k = 7) :
    ∀ n d ts rest b, Mt (pcB (.mk k nm m l fr to) b) ts → Fo 5 rest → Q (atomT M L n d (ts ++ rest)) (.mk k nm m l fr to) rest := by
  intro n d ts rest b hm hf
  rw [pcB] at hm
  rw [Okx] at he
  have hk := he.1
  have hks : k = 1 ∨ k = 2 ∨ k = 3 ∨ k = 4 ∨ k = 5 ∨ k = 24 ∨ k = 25 ∨ k = 26 ∨ k = 27 := by
    unfold wfK at hk
    have : ¬ (k = 21 ∨ k = 22 ∨ k = 23) ∧ ¬ k = 20 ∧ ¬ k = 19 ∧ ¬ (13 ≤ k ∧ k ≤ 18) ∧ ¬ (k = 8 ∨ k = 9) ∧ ¬ (10 ≤ k ∧ k ≤ 12) ∧ ¬ (k = 6 ∨ k = 7) := by
      unfold bindsK at h7
      refine ⟨fun h => ?_, fun h => ?_, fun h => ?_, fun h => ?_, fun h => ?_, fun h => ?_, fun h => ?_⟩ <;> revert h7 <;> simp [h] <;> (try (repeat' split)) <;> omega
    omega
  cases n with
  | zero => exact .inl (by simp [atomT])
  | succ n =>
    rcases hks with rfl | rfl | rfl | rfl | rfl | rfl | rfl | rfl | rfl
    · -- a number
      obtain ⟨t, u, rfl, k1, k2, k3⟩ := Mt.cons hm
      obtain rfl := k3.nil
      simp only at k1 k2
      obtain ⟨a1, a2, _⟩ := numT_ok m
      have hl : nm = [] ∧ l = [] := by unfold wfK at hk; have : l.length = 0 := by omega
                                       exact ⟨by simpa using (show nm = [] by rcases hk with h | h | h | h | h | h | h | h | h <;> first | exact h.2.1 | omega), List.length_eq_zero_iff.1 this⟩
      show Q (atomT M L (n + 1) d (t :: rest)) _ rest
      unfold atomT
      simp only
      rw [if_pos k1, k2, if_pos a2, a1]
      obtain ⟨rfl, rfl⟩ := hl
      exact .ok (er_1 rfl)
    · obtain ⟨t, u, rfl, k1, k2, k3⟩ := Mt.cons hm
      obtain rfl := k3.nil
      simp only at k1 k2
      have hl : nm = [] ∧ m = 0 ∧ l = [] := by unfold wfK at hk; exact ⟨by rcases hk with h | h | h | h | h | h | h | h | h <;> first | exact h.2.1 | omega, by omega, List.length_eq_zero_iff.1 (by omega)⟩
      obtain ⟨rfl, rfl, rfl⟩ := hl
      show Q (atomT M L (n + 1) d (t :: rest)) _ rest
      unfold atomT
      simp only
      rw [if_neg (by omega), if_neg (by omega), takeT_p (p := ⟨2, [116, 114, 117, 101], b⟩) k1 k2, takeT_p (p := ⟨2, [116, 114, 117, 101], b⟩) k1 k2]
      exact .ok (er_1 rfl)
    · obtain ⟨t, u, rfl, k1, k2, k3⟩ := Mt.cons hm
      obtain rfl := k3.nil
      simp only at k1 k2
      have hl : nm = [] ∧ m = 0 ∧ l = [] := by unfold wfK at hk; exact ⟨by rcases hk with h | h | h | h | h | h | h | h | h <;> first | exact h.2.1 | omega, by omega, List.length_eq_zero_iff.1 (by omega)⟩
      obtain ⟨rfl, rfl, rfl⟩ := hl
      show Q (atomT M L (n + 1) d (t :: rest)) _ rest
      unfold atomT
      simp only
      rw [if_neg (by omega), if_neg (by omega), takeT_p (p := ⟨2, [102, 97, 108, 115, 101], b⟩) k1 k2, takeT_p (p := ⟨2, [102, 97, 108, 115, 101], b⟩) k1 k2, takeT_p (p := ⟨2, [102, 97, 108, 115, 101], b⟩) k1 k2]
      exact .ok (er_1 rfl)
    · obtain ⟨t, u, rfl, k1, k2, k3⟩ := Mt.cons hm
      obtain rfl := k3.nil
      simp only at k1 k2
      have hl : m = 0 ∧ l = [] := by unfold wfK at hk; exact ⟨by omega, List.length_eq_zero_iff.1 (by omega)⟩
      obtain ⟨rfl, rfl⟩ := hl
      show Q (atomT M L (n + 1) d (t :: rest)) _ rest
      unfold atomT
      simp only
      by_cases hv : nm = [118]
      · subst hv
        simp only [if_true] at k1
        rw [if_neg (by omega), if_neg (by omega), takeT_p (p := ⟨2, [118], b⟩) k1 k2]
        exact .ok (er_1 rfl)
      · rw [if_neg hv] at k1
        rw [if_neg (by omega), if_pos k1]
        cases rest with
        | nil => exact hf.elim
        | cons t2 r2 =>
          simp only [needT]
          rw [if_neg (by rw [hf.2]; simp), k2]
          exact .ok (er_1 rfl)
    · -- a call
      obtain ⟨t, u, rfl, k1, k2, k3⟩ := Mt.cons hm
      simp only at k1 k2
      have hl : m = 0 ∧ l.length ≤ 6 := by unfold wfK at hk; omega
      obtain ⟨rfl, hl6⟩ := hl
      show Q (atomT M L (n + 1) d (t :: (u ++ rest))) _ rest
      unfold atomT
      simp only
      rw [if_neg (by omega), if_pos k1]
      obtain ⟨t2, u2, hu, j1, j2, j3⟩ := Mt.cons k3
      have hu1 : isT [40] (u ++ rest) = true := by rw [hu]; show isT [40] (t2 :: _) = true; simp only at j1 j2; simp [isT, j1, j2]
      have hneed : ∀ x : Rs Ex, needT (u ++ rest) x = x := fun x => by rw [hu]; rfl
      rw [hneed, if_pos hu1]
      refine (args_ok (c := none) (.inl rfl) hl6 ih (n := n) (d := d) (rest := rest) k3).bindE fun l' hl' => ?_
      rw [k2]
      exact .ok (er_1 hl')
    · -- get
      obtain ⟨t, u, rfl, k1, k2, k3⟩ := Mt.cons hm
      simp only at k1 k2
      have hl : m = 0 ∧ l.length = 2 := by unfold wfK at hk; omega
      have hnm : nm = [] := by unfold wfK at hk; rcases hk with h | h | h | h | h | h | h | h | h <;> first | exact h.2.1 | omega
      obtain ⟨rfl, hl2⟩ := hl
      subst hnm
      show Q (atomT M L (n + 1) d (t :: (u ++ rest))) _ rest
      unfold atomT
      simp only
      rw [if_neg (by omega), if_neg (by omega), takeT_p (p := ⟨2, [103, 101, 116], b⟩) k1 k2, takeT_p (p := ⟨2, [103, 101, 116], b⟩) k1 k2, takeT_p (p := ⟨2, [103, 101, 116], b⟩) k1 k2, takeT_p (p := ⟨2, [103, 101, 116], b⟩) k1 k2]
      show Q (arrT M L n d t.fr (t :: (u ++ rest))) _ rest
      cases n with
      | zero => exact .inl (by simp [arrT])
      | succ n =>
        unfold arrT
        rw [takeT_p (p := ⟨2, [103, 101, 116], b⟩) k1 k2]
        show Q ((argsT M L n (some 2) d (u ++ rest)).bind _) _ rest
        refine (args_ok (c := some 2) (.inr (by rw [hl2])) (by omega) ih (n := n) (d := d) (rest := rest) k3).bindE fun l' hl' => .ok (er_1 hl')
    · obtain ⟨t, u, rfl, k1, k2, k3⟩ := Mt.cons hm
      simp only at k1 k2
      have hl : m = 0 ∧ l.length = 3 := by unfold wfK at hk; omega
      have hnm : nm = [] := by unfold wfK at hk; rcases hk with h | h | h | h | h | h | h | h | h <;> first | exact h.2.1 | omega
      obtain ⟨rfl, hl2⟩ := hl
      subst hnm
      show Q (atomT M L (n + 1) d (t :: (u ++ rest))) _ rest
      unfold atomT
      simp only
      rw [if_neg (by omega), if_neg (by omega), takeT_p (p := ⟨2, [115, 101, 116], b⟩) k1 k2, takeT_p (p := ⟨2, [115, 101, 116], b⟩) k1 k2, takeT_p (p := ⟨2, [115, 101, 116], b⟩) k1 k2, takeT_p (p := ⟨2, [115, 101, 116], b⟩) k1 k2]
      show Q (arrT M L n d t.fr (t :: (u ++ rest))) _ rest
      cases n with
      | zero => exact .inl (by simp [arrT])
      | succ n =>
        unfold arrT
        rw [takeT_p (p := ⟨2, [115, 101, 116], b⟩) k1 k2, takeT_p (p := ⟨2, [115, 101, 116], b⟩) k1 k2]
        show Q ((argsT M L n (some 3) d (u ++ rest)).bind _) _ rest
        refine (args_ok (c := some 3) (.inr (by rw [hl2])) (by omega) ih (n := n) (d := d) (rest := rest) k3).bindE fun l' hl' => .ok (er_1 hl')
    · obtain ⟨t, u, rfl, k1, k2, k3⟩ := Mt.cons hm
      simp only at k1 k2
      have hl : m = 0 ∧ l.length = 1 := by unfold wfK at hk; omega
      have hnm : nm = [] := by unfold wfK at hk; rcases hk with h | h | h | h | h | h | h | h | h <;> first | exact h.2.1 | omega
      obtain ⟨rfl, hl2⟩ := hl
      subst hnm
      show Q (atomT M L (n + 1) d (t :: (u ++ rest))) _ rest
      unfold atomT
      simp only
      rw [if_neg (by omega), if_neg (by omega), takeT_p (p := ⟨2, [108, 101, 110], b⟩) k1 k2, takeT_p (p := ⟨2, [108, 101, 110], b⟩) k1 k2, takeT_p (p := ⟨2, [108, 101, 110], b⟩) k1 k2, takeT_p (p := ⟨2, [108, 101, 110], b⟩) k1 k2]
      show Q (arrT M L n d t.fr (t :: (u ++ rest))) _ rest
      cases n with
      | zero => exact .inl (by simp [arrT])
      | succ n =>
        unfold arrT
        rw [takeT_p (p := ⟨2, [108, 101, 110], b⟩) k1 k2, takeT_p (p := ⟨2, [108, 101, 110], b⟩) k1 k2, takeT_p (p := ⟨2, [108, 101, 110], b⟩) k1 k2]
        show Q ((argsT M L n (some 1) d (u ++ rest)).bind _) _ rest
        refine (args_ok (c := some 1) (.inr (by rw [hl2])) (by omega) ih (n := n) (d := d) (rest := rest) k3).bindE fun l' hl' => .ok (er_1 hl')
    · -- fill
      have hl : m ≤ 1000000 ∧ l.length = 1 := by unfold wfK at hk; omega
      have hnm : nm = [] := by unfold wfK at hk; rcases hk with h | h | h | h | h | h | h | h | h <;> first | exact h.2.1 | omega
      subst hnm
      match l, hl.2, ih with
      | [x], _, ih =>
        obtain ⟨t, u, rfl, k1, k2, k3⟩ := Mt.cons hm
        obtain ⟨t2, u2, rfl, j1, j2, j3⟩ := Mt.cons k3
        obtain ⟨t3, u3, rfl, i1, i2, i3⟩ := Mt.cons j3
        obtain ⟨t4, u4, rfl, g1, g2, g3⟩ := Mt.cons i3
        obtain ⟨v, w, rfl, f1, f2⟩ := Mt.app g3
        obtain ⟨t5, u5, rfl, q1, q2, q3⟩ := Mt.cons f2
        obtain rfl := q3.nil
        simp only at k1 k2 j1 j2 i1 i2 g1 g2 q1 q2
        have f1' : Mt (pcE x 0 true) v := f1
        obtain ⟨a1, a2, _⟩ := numT_ok m
        show Q (atomT M L (n + 1) d (t :: t2 :: t3 :: t4 :: ((v ++ [t5]) ++ rest))) _ rest
        unfold atomT
        simp only
        rw [if_neg (by omega), if_neg (by omega), takeT_p (p := ⟨2, [102, 105, 108, 108], b⟩) k1 k2, takeT_p (p := ⟨2, [102, 105, 108, 108], b⟩) k1 k2, takeT_p (p := ⟨2, [102, 105, 108, 108], b⟩) k1 k2, takeT_p (p := ⟨2, [102, 105, 108, 108], b⟩) k1 k2]
        show Q (arrT M L n d t.fr (t :: t2 :: t3 :: t4 :: ((v ++ [t5]) ++ rest))) _ rest
        cases n with
        | zero => exact .inl (by simp [arrT])
        | succ n =>
          unfold arrT
          rw [takeT_p (p := ⟨2, [102, 105, 108, 108], b⟩) k1 k2, takeT_p (p := ⟨2, [102, 105, 108, 108], b⟩) k1 k2, takeT_p (p := ⟨2, [102, 105, 108, 108], b⟩) k1 k2, takeT_p (p := ⟨2, [102, 105, 108, 108], b⟩) k1 k2]
          show Q ((wantT [40] (t2 :: t3 :: t4 :: ((v ++ [t5]) ++ rest))).bind _) _ rest
          rw [wantT_p (p := ⟨4, [40], false⟩) j1 j2 rfl, Rs.bind_ok]
          have hpl : placesT (t3 :: t4 :: ((v ++ [t5]) ++ rest)) = .ok m (t4 :: ((v ++ [t5]) ++ rest)) := by
            simp only [placesT]
            rw [if_pos i1, i2, a1, if_pos ⟨a2, hl.1⟩]
          rw [hpl, Rs.bind_ok, wantT_p (p := ⟨4, [44], false⟩) g1 g2 rfl, Rs.bind_ok, List.append_assoc]
          refine ((ih x (by simp)).2.ex n d v (t5 :: rest) true f1' (kind_close (p := ⟨4, [41], false⟩) rfl q1 q2 rest)).bind fun e' he' => ?_
          rw [wantT_p (p := ⟨4, [41], false⟩) q1 q2 rfl, Rs.bind_ok]
          exact .ok (er_1 (by simp [he']))
end
end Go.Proofs.YtmkgmjdbgjiehaaDoor.Ab
namespace Go.Proofs.YtmkgmjdbgjiehaaDoor.Ab
set_option linter.unusedVariables false
section
variable {M : Nat} {L : List TK}
theorem own_un {k : Nat} {nm : List UInt8} {m : Nat} {l : List Ex} {fr to : Nat} (he : Okx (.mk k nm m l fr to)) (ih : ∀ a ∈ l, Okx a ∧ AllOK M L a) (h6 : bindsK k = 6) :
    ∀ n d ts rest b, Mt (pcB (.mk k nm m l fr to) b) ts → Fo 5 rest → Q (unaryT M L n d (ts ++ rest)) (.mk k nm m l fr to) rest := by
  intro n d ts rest b hm hf
  rw [pcB] at hm
  rw [Okx] at he
  have hk := he.1
  have hks : k = 6 ∨ k = 7 := by
    unfold bindsK at h6
    by_cases h : k = 6 ∨ k = 7
    · exact h
    · exfalso; revert h6; (repeat' split) <;> omega
  have hl : nm = [] ∧ m = 0 ∧ l.length = 1 := by
    unfold wfK at hk
    refine ⟨by rcases hk with h | h | h | h | h | h | h | h | h <;> first | exact h.2.1 | omega, by omega, by omega⟩
  obtain ⟨rfl, rfl, hl1⟩ := hl
  cases n with
  | zero => exact .inl (by simp [unaryT])
  | succ n =>
    match l, hl1, ih with
    | [x], _, ih =>
      have ix := (ih x (by simp)).2
      rcases hks with rfl | rfl
      · obtain ⟨t, u, rfl, k1, k2, k3⟩ := Mt.cons hm
        simp only at k1 k2
        have k3' : Mt (pcE x 6 false) u := k3
        show Q (unaryT M L (n + 1) d (t :: (u ++ rest))) _ rest
        unfold unaryT
        simp only
        by_cases hd : M < d + 1
        · rw [if_pos hd]; exact .inr (.inl ⟨_, _, _, rfl⟩)
        · rw [if_neg hd, takeT_p (p := ⟨4, [45], b⟩) k1 k2]
          exact (ix.un n (d + 1) u rest false k3' hf).bind fun e' he' => .ok (er_1 (by simp [he']))
      · obtain ⟨t, u, rfl, k1, k2, k3⟩ := Mt.cons hm
        simp only at k1 k2
        have k3' : Mt (pcE x 6 true) u := k3
        show Q (unaryT M L (n + 1) d (t :: (u ++ rest))) _ rest
        unfold unaryT
        simp only
        by_cases hd : M < d + 1
        · rw [if_pos hd]; exact .inr (.inl ⟨_, _, _, rfl⟩)
        · rw [if_neg hd, takeT_p (p := ⟨2, [110, 111, 116], b⟩) k1 k2, takeT_p (p := ⟨2, [110, 111, 116], b⟩) k1 k2]
          exact (ix.un n (d + 1) u rest true k3' hf).bind fun e' he' => .ok (er_1 (by simp [he']))
theorem bin_kind {k lv : Nat} (h : bindsK k = lv + 1) (hlv : lv ≤ 4) : 8 ≤ k ∧ k ≤ 20 ∧ lvK k = lv := by
  have : 8 ≤ k ∧ k ≤ 20 := by
    unfold bindsK at h
    by_cases h' : 8 ≤ k ∧ k ≤ 20
    · exact h'
    · exfalso; revert h; (repeat' split) <;> omega
  exact ⟨this.1, this.2, by unfold lvK; omega⟩
theorem bin_pc {k : Nat} (hk : 8 ≤ k ∧ k ≤ 20) (nm : List UInt8) (m : Nat) (b : Bool) (x y : Ex) : bareP k nm m b (pcA [x, y]) = pcE x (leftK k) b ++ ⟨if k = 19 ∨ k = 20 then 2 else 4, signW k, true⟩ :: pcE y (bindsK k + 1) true := by
  have : k = 8 ∨ k = 9 ∨ k = 10 ∨ k = 11 ∨ k = 12 ∨ k = 13 ∨ k = 14 ∨ k = 15 ∨ k = 16 ∨ k = 17 ∨ k = 18 ∨ k = 19 ∨ k = 20 := by omega
  rcases this with rfl | rfl | rfl | rfl | rfl | rfl | rfl | rfl | rfl | rfl | rfl | rfl | rfl <;> simp [bareP, pcA, argP, pcE]
theorem fo_sign {k lv : Nat} (hk : 8 ≤ k ∧ k ≤ 20) (hl : lvK k = lv) {t : TK} (h1 : t.kind = if k = 19 ∨ k = 20 then 2 else 4) (h2 : t.txt = signW k) (r : List TK) : Fo (lv + 1) (t :: r) := by
  refine ⟨fun v hv => by rw [signW_level hk h1 h2, if_neg (by omega)], ?_⟩
  have : signW k ≠ [40] := by
    have : k = 8 ∨ k = 9 ∨ k = 10 ∨ k = 11 ∨ k = 12 ∨ k = 13 ∨ k = 14 ∨ k = 15 ∨ k = 16 ∨ k = 17 ∨ k = 18 ∨ k = 19 ∨ k = 20 := by omega
    rcases this with rfl | rfl | rfl | rfl | rfl | rfl | rfl | rfl | rfl | rfl | rfl | rfl | rfl <;> decide
  simp [isT, h2, this]
theorem loopT_cons (n lv d fr : Nat) (a : Ex) (t : TK) (r : List TK) : loopT M L (n + 1) lv d fr a (t :: r) = if levelT lv t = 0 then .ok a (t :: r) else (rowT M L n (lv + 1) d r).bind fun b r2 =>
      if lv = 2 then .ok (.mk (levelT lv t) [] 0 [a, b] fr (toT L r2)) r2 else loopT M L n lv d fr (.mk (levelT lv t) [] 0 [a, b] fr (toT L r2)) r2 := by rw [loopT]
theorem own_lo {k : Nat} {nm : List UInt8} {m : Nat} {l : List Ex} {fr to : Nat} (he : Okx (.mk k nm m l fr to)) (ih : ∀ a ∈ l, Okx a ∧ AllOK M L a) :
    ∀ lv, lv ≤ 4 → lv ≠ 2 → bindsK k = lv + 1 → ∀ n d ts rest b, Mt (pcB (.mk k nm m l fr to) b) ts → Fo (lv + 1) rest →
    rowT M L n lv d (ts ++ rest) = .off ∨ (∃ a b r, rowT M L n lv d (ts ++ rest) = .bad a b 13 r) ∨ ∃ n' fr0 e', rowT M L n lv d (ts ++ rest) = loopT M L n' lv d fr0 e' rest ∧ er e' = er (.mk k nm m l fr to) := by
  intro lv hlv h2 hb n d ts rest b hm hf
  rw [pcB] at hm
  rw [Okx] at he
  have hk := he.1
  obtain ⟨k8, k20, hlk⟩ := bin_kind hb hlv
  have hl : nm = [] ∧ m = 0 ∧ l.length = 2 := by
    unfold wfK at hk
    refine ⟨by rcases hk with h | h | h | h | h | h | h | h | h <;> first | exact h.2.1 | omega, by omega, by omega⟩
  obtain ⟨rfl, rfl, hl1⟩ := hl
  match l, hl1, ih with
  | [x, y], _, ih =>
    have ix := (ih x (by simp)).2
    have iy := (ih y (by simp)).2
    simp only at hm
    rw [bin_pc ⟨k8, k20⟩] at hm
    obtain ⟨v, w, rfl, h3, h4⟩ := hm.app
    obtain ⟨t, u, rfl, j1, j2, j3⟩ := h4.cons
    have hleft : leftK k = lv + 1 := by unfold leftK; rw [if_neg (by omega), hb]
    rw [hleft] at h3
    rw [hb] at j3
    rw [List.append_assoc]
    have hlo := ix.lo lv hlv h2 n d v (t :: (u ++ rest)) b h3 (fo_sign ⟨k8, k20⟩ hlk j1 j2 _)
    show rowT M L n lv d (v ++ (t :: (u ++ rest))) = .off ∨ _
    rcases hlo with h | h | ⟨n1, fr1, e1, h, he1⟩
    · exact .inl h
    · exact .inr (.inl h)
    · rw [show (t :: u) ++ rest = t :: (u ++ rest) from rfl, h]
      cases n1 with
      | zero => exact .inl (by simp [loopT])
      | succ n1 =>
        have hlev : levelT lv t = k := by rw [signW_level ⟨k8, k20⟩ j1 j2, if_pos hlk.symm]
        rw [loopT_cons, if_neg (by omega), hlev]
        have hy : Q (rowT M L n1 (lv + 1) d (u ++ rest)) y rest := by
          by_cases h4' : lv = 4
          · subst h4'
            exact row_5 fun n => iy.un n d u rest true j3 hf
          · exact iy.row (lv + 1) (by omega) n1 d u rest true j3 hf
        rcases hy with hy | ⟨a, b', r', hy⟩ | ⟨e2, hy, he2⟩
        · rw [hy]; exact .inl rfl
        · rw [hy]; exact .inr (.inl ⟨a, b', r', rfl⟩)
        · rw [hy, Rs.bind_ok, if_neg h2]
          exact .inr (.inr ⟨n1, fr1, .mk k [] 0 [e1, e2] fr1 (toT L rest), rfl, er_1 (by simp [he1, he2])⟩)
theorem own_two {k : Nat} {nm : List UInt8} {m : Nat} {l : List Ex} {fr to : Nat} (he : Okx (.mk k nm m l fr to)) (ih : ∀ a ∈ l, Okx a ∧ AllOK M L a) (hb : bindsK k = 3) :
    ∀ n d ts rest b, Mt (pcB (.mk k nm m l fr to) b) ts → Fo 2 rest → Q (rowT M L n 2 d (ts ++ rest)) (.mk k nm m l fr to) rest := by
  intro n d ts rest b hm hf
  rw [pcB] at hm
  rw [Okx] at he
  have hk := he.1
  obtain ⟨k8, k20, hlk⟩ := bin_kind (lv := 2) hb (by omega)
  have hl : nm = [] ∧ m = 0 ∧ l.length = 2 := by
    unfold wfK at hk
    refine ⟨by rcases hk with h | h | h | h | h | h | h | h | h <;> first | exact h.2.1 | omega, by omega, by omega⟩
  obtain ⟨rfl, rfl, hl1⟩ := hl
  match l, hl1, ih with
  | [x, y], _, ih =>
    have ix := (ih x (by simp))
    have iy := (ih y (by simp)).2
    simp only at hm
    rw [bin_pc ⟨k8, k20⟩] at hm
    obtain ⟨v, w, rfl, h3, h4⟩ := hm.app
    obtain ⟨t, u, rfl, j1, j2, j3⟩ := h4.cons
    have hleft : leftK k = 4 := by unfold leftK; rw [if_pos hb]
    rw [hleft] at h3
    rw [hb] at j3
    rw [List.append_assoc]
    obtain ⟨p, t0, u0, hv, _⟩ := mt_ne (rest := []) ix.1 h3
    cases n with
    | zero => exact .inl (by simp [rowT])
    | succ n =>
      rw [hv]
      show Q (rowT M L (n + 1) 2 d (t0 :: (u0 ++ (t :: (u ++ rest))))) _ rest
      unfold rowT
      rw [if_neg (by omega)]
      simp only
      have hx := ix.2.row 3 (by omega) n d v (t :: (u ++ rest)) b h3 (fo_sign ⟨k8, k20⟩ hlk j1 j2 _)
      rw [hv] at hx
      refine hx.bind fun e1 he1 => ?_
      cases n with
      | zero => exact .inl (by simp [loopT])
      | succ n =>
        have hlev : levelT 2 t = k := by rw [signW_level ⟨k8, k20⟩ j1 j2, if_pos hlk.symm]
        unfold loopT
        simp only
        rw [if_neg (by omega), hlev]
        exact (iy.row 3 (by omega) n d u rest true j3 (hf.up (by omega))).bind fun e2 he2 => .ok (er_1 (by simp [he1, he2]))
theorem own_ex {k : Nat} {nm : List UInt8} {m : Nat} {l : List Ex} {fr to : Nat} (he : Okx (.mk k nm m l fr to)) (ih : ∀ a ∈ l, Okx a ∧ AllOK M L a) (h0 : bindsK k = 0) :
    ∀ n d ts rest b, Mt (pcB (.mk k nm m l fr to) b) ts → Fo 0 rest → Q (exprT M L n d (ts ++ rest)) (.mk k nm m l fr to) rest := by
  intro n d ts rest b hm hf
  rw [pcB] at hm
  rw [Okx] at he
  have hk := he.1
  have hks : k = 21 ∨ k = 22 ∨ k = 23 := by
    unfold bindsK at h0
    by_cases h : k = 21 ∨ k = 22 ∨ k = 23
    · exact h
    · exfalso; revert h0; (repeat' split) <;> omega
  cases n with
  | zero => exact .inl (by simp [exprT])
  | succ n =>
    rcases hks with rfl | rfl | rfl
    · have hl : m = 0 ∧ l.length = 2 := by unfold wfK at hk; omega
      obtain ⟨rfl, hl1⟩ := hl
      match l, hl1, ih with
      | [x, y], _, ih =>
        obtain ⟨t, u, rfl, k1, k2, k3⟩ := Mt.cons hm
        obtain ⟨t2, u2, rfl, j1, j2, j3⟩ := Mt.cons k3
        obtain ⟨t3, u3, rfl, i1, i2, i3⟩ := Mt.cons j3
        obtain ⟨v, w, rfl, f1, f2⟩ := Mt.app i3
        obtain ⟨t4, u4, rfl, g1, g2, g3⟩ := Mt.cons f2
        simp only at k1 k2 j1 j2 i1 i2 g1 g2
        have f1' : Mt (pcE x 0 true) v := f1
        have g3' : Mt (pcE y 0 true) u4 := g3
        show Q (exprT M L (n + 1) d (t :: t2 :: t3 :: ((v ++ t4 :: u4) ++ rest))) _ rest
        unfold exprT
        simp only
        by_cases hd : M < d + 1
        · rw [if_pos hd]; exact .inr (.inl ⟨_, _, _, rfl⟩)
        · rw [if_neg hd, takeT_p (p := ⟨2, [108, 101, 116], b⟩) k1 k2]
          show Q ((nameT (t2 :: t3 :: ((v ++ t4 :: u4) ++ rest))).bind _) _ rest
          rw [show nameT (t2 :: t3 :: ((v ++ t4 :: u4) ++ rest)) = .ok t2 (t3 :: ((v ++ t4 :: u4) ++ rest)) by simp [nameT, j1], Rs.bind_ok, wantT_p (p := ⟨4, [61], true⟩) i1 i2 rfl, Rs.bind_ok, List.append_assoc]
          refine ((ih x (by simp)).2.ex n (d + 1) v (t4 :: (u4 ++ rest)) true f1' (fo_word g2 (by decide) (by decide) _)).bind fun e1 he1 => ?_
          rw [wantT_p (p := ⟨2, [105, 110], true⟩) g1 g2 rfl, Rs.bind_ok]
          refine ((ih y (by simp)).2.ex n (d + 1) u4 rest true g3' hf).bind fun e2 he2 => ?_
          rw [j2]
          exact .ok (er_1 (by simp [he1, he2]))
    · have hl : m = 0 ∧ l.length = 3 := by unfold wfK at hk; omega
      have hnm : nm = [] := by unfold wfK at hk; rcases hk with h | h | h | h | h | h | h | h | h <;> first | exact h.2.1 | omega
      obtain ⟨rfl, hl1⟩ := hl
      subst hnm
      match l, hl1, ih with
      | [x, y, z], _, ih =>
        obtain ⟨t, u, rfl, k1, k2, k3⟩ := Mt.cons hm
        obtain ⟨v, w, rfl, f1, f2⟩ := Mt.app k3
        obtain ⟨t4, u4, rfl, g1, g2, g3⟩ := Mt.cons f2
        obtain ⟨v2, w2, rfl, f3, f4⟩ := Mt.app g3
        obtain ⟨t5, u5, rfl, q1, q2, q3⟩ := Mt.cons f4
        simp only at k1 k2 g1 g2 q1 q2
        have f1' : Mt (pcE x 0 true) v := f1
        have f3' : Mt (pcE y 0 true) v2 := f3
        have q3' : Mt (pcE z 0 true) u5 := q3
        show Q (exprT M L (n + 1) d (t :: ((v ++ t4 :: (v2 ++ t5 :: u5)) ++ rest))) _ rest
        unfold exprT
        simp only
        by_cases hd : M < d + 1
        · rw [if_pos hd]; exact .inr (.inl ⟨_, _, _, rfl⟩)
        · rw [if_neg hd, takeT_p (p := ⟨2, [105, 102], b⟩) k1 k2, takeT_p (p := ⟨2, [105, 102], b⟩) k1 k2]
          show Q ((exprT M L n (d + 1) ((v ++ t4 :: (v2 ++ t5 :: u5)) ++ rest)).bind _) _ rest
          rw [List.append_assoc]
          refine ((ih x (by simp)).2.ex n (d + 1) v (t4 :: ((v2 ++ t5 :: u5) ++ rest)) true f1' (fo_word g2 (by decide) (by decide) _)).bind fun e1 he1 => ?_
          rw [wantT_p (p := ⟨2, [116, 104, 101, 110], true⟩) g1 g2 rfl, Rs.bind_ok, List.append_assoc]
          refine ((ih y (by simp)).2.ex n (d + 1) v2 (t5 :: (u5 ++ rest)) true f3' (fo_word q2 (by decide) (by decide) _)).bind fun e2 he2 => ?_
          rw [wantT_p (p := ⟨2, [101, 108, 115, 101], true⟩) q1 q2 rfl, Rs.bind_ok]
          exact ((ih z (by simp)).2.ex n (d + 1) u5 rest true q3' hf).bind fun e3 he3 => .ok (er_1 (by simp [he1, he2, he3]))
    · have hl : m = 0 ∧ l.length = 2 := by unfold wfK at hk; omega
      have hnm : nm = [] := by unfold wfK at hk; rcases hk with h | h | h | h | h | h | h | h | h <;> first | exact h.2.1 | omega
      obtain ⟨rfl, hl1⟩ := hl
      subst hnm
      match l, hl1, ih with
      | [x, y], _, ih =>
        obtain ⟨t, u, rfl, k1, k2, k3⟩ := Mt.cons hm
        obtain ⟨v, w, rfl, f1, f2⟩ := Mt.app k3
        obtain ⟨t4, u4, rfl, g1, g2, g3⟩ := Mt.cons f2
        simp only at k1 k2 g1 g2
        have f1' : Mt (pcE x 0 true) v := f1
        have g3' : Mt (pcE y 0 true) u4 := g3
        show Q (exprT M L (n + 1) d (t :: ((v ++ t4 :: u4) ++ rest))) _ rest
        unfold exprT
        simp only
        by_cases hd : M < d + 1
        · rw [if_pos hd]; exact .inr (.inl ⟨_, _, _, rfl⟩)
        · rw [if_neg hd, takeT_p (p := ⟨2, [97, 115, 115, 101, 114, 116], b⟩) k1 k2, takeT_p (p := ⟨2, [97, 115, 115, 101, 114, 116], b⟩) k1 k2, takeT_p (p := ⟨2, [97, 115, 115, 101, 114, 116], b⟩) k1 k2]
          show Q ((exprT M L n (d + 1) ((v ++ t4 :: u4) ++ rest)).bind _) _ rest
          rw [List.append_assoc]
          refine ((ih x (by simp)).2.ex n (d + 1) v (t4 :: (u4 ++ rest)) true f1' (fo_word g2 (by decide) (by decide) _)).bind fun e1 he1 => ?_
          rw [wantT_p (p := ⟨2, [105, 110], true⟩) g1 g2 rfl, Rs.bind_ok]
          exact ((ih y (by simp)).2.ex n (d + 1) u4 rest true g3' hf).bind fun e2 he2 => .ok (er_1 (by simp [he1, he2]))
theorem allOK : ∀ e : Ex, Okx e → AllOK M L e
  | .mk k nm m l fr to, he => by
    have he' := he
    rw [Okx] at he'
    have ih : ∀ a ∈ l, Okx a ∧ AllOK M L a := fun a ha => ⟨Okxs_mem he'.2 a ha, allOK a (Okxs_mem he'.2 a ha)⟩
    exact lift he ⟨fun h7 => own_at he ih h7, fun h6 => own_un he ih h6, own_lo he ih, fun h3 => own_two he ih h3, fun h0 => own_ex he ih h0⟩
end
end Go.Proofs.YtmkgmjdbgjiehaaDoor.Ab
namespace Go.Proofs.YtmkgmjdbgjiehaaDoor.Ab
set_option linter.unusedVariables false
def erT (t : Ty) : Ty := ⟨t.base, t.len, t.pred.map er, 0, 0⟩
def erP (m : Pm) : Pm := ⟨m.name, erT m.ty, 0, 0⟩
def erI (it : It) : It := ⟨it.kind, it.pub, it.name, 0, 0, it.params.map erP, erT it.result, er it.body⟩
def okT (t : Ty) : Prop := ((t.base = 1 ∨ t.base = 2) ∧ t.len = 0 ∨ t.base = 3 ∧ t.len ≤ 1000000) ∧ ∀ e, t.pred = some e → Okx e
def okI (it : It) : Prop := nameOK it.name ∧ Okx it.body ∧
  ((it.kind = 1 ∧ it.params.length ≤ 6 ∧ (∀ m ∈ it.params, nameOK m.name ∧ okT m.ty) ∧ okT it.result) ∨
   (it.kind = 2 ∧ it.pub = false ∧ 1 ≤ it.params.length ∧ it.params.length ≤ 12 ∧ (∀ m ∈ it.params, nameOK m.name ∧ erT m.ty = ⟨1, 0, none, 0, 0⟩) ∧ it.result = ⟨2, 0, none, 0, 0⟩))
section
variable {M : Nat} {L : List TK}
def QG {α : Type} (x : Rs α) (ok : α → Prop) (rest : List TK) : Prop := x = .off ∨ (∃ a b r, x = .bad a b 13 r) ∨ ∃ a, x = .ok a rest ∧ ok a
theorem QG.bind {α β : Type} {x : Rs α} {P : α → Prop} {R : β → Prop} {rest rest2 : List TK} {f : α → List TK → Rs β} (h : QG x P rest) (k : ∀ a, P a → QG (f a rest) R rest2) : QG (x.bind f) R rest2 := by
  rcases h with rfl | ⟨a, b, r, rfl⟩ | ⟨a, rfl, h⟩
  · exact .inl rfl
  · exact .inr (.inl ⟨a, b, r, rfl⟩)
  · exact k a h
theorem QG.ok {α : Type} {P : α → Prop} {a : α} {r : List TK} (h : P a) : QG (.ok a r) P r := .inr (.inr ⟨a, rfl, h⟩)
theorem Q.g {x : Rs Ex} {e : Ex} {rest : List TK} (h : Q x e rest) : QG x (fun e' => er e' = er e) rest := h
theorem nameT_p {t : TK} {r : List TK} (h : t.kind = 1) : nameT (t :: r) = .ok t r := by simp [nameT, h]
def tailR (it : It) (rest : List TK) : Rs It := match rest with
  | [] => .off
  | t :: r => if t.kind = 0 then .ok it (t :: r) else .bad t.fr t.to 12 (t :: r)
end
end Go.Proofs.YtmkgmjdbgjiehaaDoor.Ab
