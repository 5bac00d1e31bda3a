/-
The plain law of NatTexts: whatever the row, the text and the number are, the law's call is true: what is written and read of limbs is what is written and read of digits. No further condition.
-/
import Derived.Test.YthodpjgmecnalaaQNatTextsx12
set_option maxRecDepth 100000
set_option linter.unusedVariables false
set_option linter.unusedSimpArgs false
namespace Go.Proofs.Ythodpjgmecnalaa.Pure
open Go.RowKit Go.Proofs.Ythodpjgmecnalaa.QNatTexts Go.Proofs.YthodpjgmecnalaaW.PrintWords Go.Proofs.YthodpjgmecnalaaW.PrintLast

/-! ### plain lemmas: rounds -/
section Base
variable {α β : Type}
theorem ev_pos {c : Prop} [Decidable c] {g f : Nat → Option α} {r : α} (hc : c) (h : Ev g r) : Ev (fun k => if c then g k else f k) r := by
  simpa only [if_pos hc] using h
theorem ev_neg {c : Prop} [Decidable c] {g f : Nat → Option α} {r : α} (hc : ¬ c) (h : Ev f r) : Ev (fun k => if c then g k else f k) r := by
  simpa only [if_neg hc] using h
theorem ev_ite {c : Prop} [Decidable c] {g f : Nat → Option α} {r : α} (h1 : c → Ev g r) (h2 : ¬ c → Ev f r) : Ev (fun k => if c then g k else f k) r := by
  by_cases hc : c
  · exact ev_pos hc (h1 hc)
  · exact ev_neg hc (h2 hc)
theorem ev_bind {g : Nat → Option α} {f : Nat → α → Option β} {a : α} {r : β} (h : Ev g a) (k : Ev (fun n => f n a) r) : Ev (fun n => (g n).bind (f n)) r := Ev.bind h k
theorem ev_some {o : Option α} {f : Nat → α → Option β} {a : α} {r : β} (h : o = some a) (k : Ev (fun n => f n a) r) : Ev (fun n => o.bind (f n)) r := by
  subst h; exact k
theorem ev_ret {a r : α} (h : a = r) : Ev (fun _ => some a) r := h ▸ Ev.now a
theorem ev_cast {g : Nat → Option α} {a r : α} (h : Ev g a) (e : a = r) : Ev g r := e ▸ h
theorem ev_ex {g : Nat → Option α} {r : α} (h : Ev g r) : ∃ k, g k = some r := h.rounds
theorem wr {n : Int} (h : -9223372036854775808 ≤ n) (h' : n ≤ 9223372036854775807) : wrap64 n = n := by unfold wrap64; omega
theorem drc {b : List α} {i : Nat} {c : α} {t : List α} (h : b.drop i = c :: t) : i < b.length ∧ b.drop (i + 1) = t ∧ b[i]? = some c := by
  have h1 : i < b.length := by
    rcases Nat.lt_or_ge i b.length with h1 | h1
    · exact h1
    · rw [List.drop_eq_nil_of_le h1] at h; cases h
  rw [List.drop_eq_getElem_cons h1] at h
  injection h with h2 h3
  exact ⟨h1, h3, by rw [List.getElem?_eq_getElem h1, h2]⟩
theorem drn {b : List α} {i : Nat} (h : b.drop i = []) : b.length ≤ i := by
  rcases Nat.lt_or_ge i b.length with h1 | h1
  · rw [List.drop_eq_getElem_cons h1] at h; cases h
  · exact h1
theorem rd_at {b : List Int} {i : Nat} {c : Int} (h : b[i]? = some c) : rd b (i : Int) = c := by
  unfold rd; rw [Int.toNat_natCast, List.getD_eq_getElem?_getD, h]; rfl
end Base

/-! ### numbers and their places -/
def vl (B : Int) : List Int → Int
  | [] => 0
  | x :: t => x + B * vl B t
def Dg (B : Int) (l : List Int) : Prop := ∀ x ∈ l, 0 ≤ x ∧ x < B
def tr : List Int → List Int
  | [] => []
  | x :: t => if tr t = [] ∧ x = 0 then [] else x :: tr t
def can (B n : Nat) : List Int := if h : n = 0 ∨ B < 2 then [] else ((n % B : Nat) : Int) :: can B (n / B)
termination_by n
decreasing_by exact Nat.div_lt_self (by omega) (by omega)
def cn (B v : Int) : List Int := can B.toNat v.toNat
section Num
variable {B : Int} {l : List Int}
theorem vl_cons (x : Int) (t : List Int) : vl B (x :: t) = x + B * vl B t := rfl
theorem cn_zero {v : Int} (h : v ≤ 0) : cn B v = [] := by
  unfold cn; rw [can, dif_pos (Or.inl (by omega))]
theorem cn_cons {v : Int} (hB : 2 ≤ B) (h : 0 < v) : cn B v = (v % B) :: cn B (v / B) := by
  unfold cn; rw [can, dif_neg (by omega)]
  obtain ⟨b, rfl⟩ := Int.eq_ofNat_of_zero_le (show 0 ≤ B by omega)
  obtain ⟨n, rfl⟩ := Int.eq_ofNat_of_zero_le (show 0 ≤ v by omega)
  rfl
theorem Dg.cons {x : Int} (h : Dg B (x :: l)) : (0 ≤ x ∧ x < B) ∧ Dg B l := ⟨h x (by simp), fun y hy => h y (by simp [hy])⟩
theorem Dg.nil : Dg B [] := fun _ h => by cases h
theorem Dg.app {l' : List Int} (h : Dg B l) (h' : Dg B l') : Dg B (l ++ l') := fun x hx => (List.mem_append.1 hx).elim (h x) (h' x)
theorem Dg.one {x : Int} (h : 0 ≤ x) (h' : x < B) : Dg B [x] := fun y hy => by rw [List.mem_singleton.1 hy]; exact ⟨h, h'⟩
theorem Dg.snoc {x : Int} (hl : Dg B l) (h : 0 ≤ x) (h' : x < B) : Dg B (l ++ [x]) := hl.app (.one h h')
theorem Dg.zeros (hB : 0 < B) (n : Nat) : Dg B (List.replicate n 0) := fun x hx => by rw [List.eq_of_mem_replicate hx]; exact ⟨Int.le_refl _, hB⟩
theorem Dg.take (h : Dg B l) (n : Nat) : Dg B (l.take n) := fun x hx => h x (List.mem_of_mem_take hx)
theorem Dg.drop (h : Dg B l) (n : Nat) : Dg B (l.drop n) := fun x hx => h x (List.mem_of_mem_drop hx)
theorem Dg.place (h : Dg B l) (hB : 0 < B) (i : Int) : 0 ≤ rd l i ∧ rd l i < B := by
  unfold rd
  rcases Nat.lt_or_ge i.toNat l.length with hi | hi
  · rw [List.getD_eq_getElem?_getD, List.getElem?_eq_getElem hi]; exact h _ (List.getElem_mem _)
  · rw [List.getD_eq_getElem?_getD, List.getElem?_eq_none hi]; exact ⟨Int.le_refl _, hB⟩
theorem rd_nat {i : Nat} : rd l (i : Int) = l[i]?.getD 0 := by
  unfold rd; rw [Int.toNat_natCast, List.getD_eq_getElem?_getD]
theorem rd_out {i : Nat} (h : l.length ≤ i) : rd l (i : Int) = 0 := by
  rw [rd_nat, List.getElem?_eq_none h]; rfl
theorem Dg.set (h : Dg B l) {i : Nat} {y : Int} (h0 : 0 ≤ y) (h1 : y < B) : Dg B (l.set i y) := fun x hx => by
  rcases List.mem_or_eq_of_mem_set hx with h2 | rfl
  · exact h x h2
  · exact ⟨h0, h1⟩
theorem vl_nonneg (hB : 0 ≤ B) : ∀ {l : List Int}, Dg B l → 0 ≤ vl B l
  | [], _ => Int.le_refl _
  | x :: t, h => by
    have h1 := h.cons
    have h2 := Int.mul_nonneg hB (vl_nonneg hB h1.2)
    rw [vl_cons]; omega
theorem pow_pos' (hB : 0 < B) (n : Nat) : 0 < B ^ n := Int.pow_pos hB
theorem vl_lt (hB : 0 < B) : ∀ {l : List Int}, Dg B l → vl B l < B ^ l.length
  | [], _ => by simp [vl]
  | x :: t, h => by
    have h1 := h.cons
    have h2 : vl B t + 1 ≤ B ^ t.length := vl_lt hB h1.2
    have h3 := Int.mul_le_mul_of_nonneg_left h2 (show 0 ≤ B by omega)
    rw [vl_cons, List.length_cons, Int.pow_succ]
    grind
theorem vl_app (a b : List Int) : vl B (a ++ b) = vl B a + B ^ a.length * vl B b := by
  induction a with
  | nil => simp [vl]
  | cons x t ih =>
    rw [List.cons_append, vl_cons, vl_cons, ih, List.length_cons, Int.pow_succ]; grind
theorem vl_one (x : Int) : vl B [x] = x := by simp [vl]
theorem vl_snoc (a : List Int) (x : Int) : vl B (a ++ [x]) = vl B a + B ^ a.length * x := by rw [vl_app, vl_one]
theorem vl_zeros (n : Nat) : vl B (List.replicate n 0) = 0 := by
  induction n with
  | zero => rfl
  | succ n ih => rw [List.replicate_succ, vl_cons, ih]; simp
theorem vl_take_succ (l : List Int) : ∀ (i : Nat), vl B (l.take (i + 1)) = vl B (l.take i) + B ^ i * rd l i := by
  induction l with
  | nil => intro i; simp [vl, rd]
  | cons x t ih =>
    intro i
    cases i with
    | zero => simp [vl, rd]
    | succ i =>
      rw [List.take_succ_cons, List.take_succ_cons, vl_cons, vl_cons, ih i, Int.pow_succ]
      have : rd (x :: t) ((i + 1 : Nat) : Int) = rd t i := by rw [rd_nat, rd_nat]; simp
      rw [this]; grind
theorem vl_set : ∀ (l : List Int) (i : Nat) (y : Int), i < l.length → vl B (l.set i y) = vl B l + B ^ i * (y - rd l i) := by
  intro l
  induction l with
  | nil => intro i y h; simp at h
  | cons x t ih =>
    intro i y h
    cases i with
    | zero => rw [List.set_cons_zero, vl_cons, vl_cons]; have : rd (x :: t) ((0 : Nat) : Int) = x := rfl
              rw [this]; simp; omega
    | succ i =>
      rw [List.set_cons_succ, vl_cons, vl_cons, ih i y (by simpa using h), Int.pow_succ]
      have : rd (x :: t) ((i + 1 : Nat) : Int) = rd t i := by rw [rd_nat, rd_nat]; simp
      rw [this]; grind
theorem rd_set (l : List Int) (i j : Nat) (y : Int) (h : i < l.length) : rd (l.set i y) j = if i = j then y else rd l j := by
  rw [rd_nat, rd_nat, List.getElem?_set]
  by_cases e : i = j
  · subst e; simp [h]
  · simp [e]
/-- The place i of a number. -/
theorem vl_split (i : Nat) (l : List Int) : vl B l = vl B (l.take i) + B ^ i * vl B (l.drop i) := by
  rcases Nat.lt_or_ge i l.length with h | h
  · have := vl_app (B := B) (l.take i) (l.drop i)
    rw [List.take_append_drop, List.length_take, Nat.min_eq_left (by omega)] at this
    exact this
  · rw [List.take_of_length_le h, List.drop_eq_nil_of_le h]; simp [vl]
theorem tr_vl : ∀ (l : List Int), vl B (tr l) = vl B l
  | [] => rfl
  | x :: t => by
    have ih := tr_vl t
    unfold tr
    split
    · next h => rw [h.1] at ih; rw [vl_cons, ← ih, h.2]; simp [vl]
    · rw [vl_cons, vl_cons, ih]
theorem tr_Dg : ∀ {l : List Int}, Dg B l → Dg B (tr l)
  | [], h => h
  | x :: t, h => by
    have h1 := h.cons
    unfold tr
    split
    · exact .nil
    · intro y hy
      rcases List.mem_cons.1 hy with rfl | hy
      · exact h1.1
      · exact tr_Dg h1.2 y hy
theorem tr_tr : ∀ (l : List Int), tr (tr l) = tr l
  | [] => rfl
  | x :: t => by
    have ih := tr_tr t
    rw [tr]
    split
    · rfl
    · next h => rw [tr, ih, if_neg h]
theorem tr_length : ∀ (l : List Int), (tr l).length ≤ l.length
  | [] => Nat.le_refl _
  | x :: t => by
    have ih := tr_length t
    rw [tr]
    split <;> simp <;> omega
theorem tr_snoc0 : ∀ (l : List Int), tr (l ++ [0]) = tr l
  | [] => by simp [tr]
  | x :: t => by rw [List.cons_append, tr, tr_snoc0 t, ← tr]
theorem tr_snoc {x : Int} (hx : x ≠ 0) : ∀ (l : List Int), tr (l ++ [x]) = l ++ [x]
  | [] => by simp [tr, hx]
  | y :: t => by
    rw [List.cons_append, tr, tr_snoc hx t, if_neg]
    intro h; have := congrArg List.length h.1; simp at this
theorem tr_tail {x : Int} {t : List Int} (h : tr (x :: t) = x :: t) : tr t = t := by
  rw [tr] at h
  split at h
  · cases h
  · injection h
theorem cn_self (hB : 2 ≤ B) : ∀ {l : List Int}, Dg B l → tr l = l → cn B (vl B l) = l
  | [], _, _ => cn_zero (by simp [vl])
  | x :: t, h, ht => by
    have h1 := h.cons
    have h2 := vl_nonneg (by omega) h1.2
    have ht2 := tr_tail ht
    have ih := cn_self hB h1.2 ht2
    have h3 := Int.mul_nonneg (show 0 ≤ B by omega) h2
    have hv : vl B (x :: t) = x + B * vl B t := rfl
    by_cases h0 : vl B (x :: t) = 0
    · exfalso
      have hx : x = 0 := by omega
      have hm : B * vl B t = 0 := by omega
      have hz : vl B t = 0 := by
        rcases Int.mul_eq_zero.1 hm with h | h
        · omega
        · exact h
      rw [hz, cn_zero (Int.le_refl _)] at ih
      rw [← ih, tr, hx] at ht
      simp [tr] at ht
    · rw [cn_cons hB (by omega)]
      have e1 : (x + B * vl B t) % B = x := by rw [Int.add_mul_emod_self_left, Int.emod_eq_of_lt h1.1.1 h1.1.2]
      have e2 : (x + B * vl B t) / B = vl B t := by
        rw [Int.add_mul_ediv_left _ _ (by omega), Int.ediv_eq_zero_of_lt h1.1.1 h1.1.2]; omega
      rw [hv, e1, e2, ih]
theorem tr_cn (hB : 2 ≤ B) (h : Dg B l) : tr l = cn B (vl B l) := by
  rw [← cn_self hB (tr_Dg h) (tr_tr l), tr_vl]
theorem cn_all (hB : 2 ≤ B) : ∀ (n : Nat) (v : Int), v.toNat ≤ n → Dg B (cn B v) ∧ tr (cn B v) = cn B v ∧ (0 ≤ v → vl B (cn B v) = v)
  | 0, v, h => by
    rw [cn_zero (by omega)]
    exact ⟨.nil, rfl, fun _ => by simp [vl]; omega⟩
  | n + 1, v, h => by
    by_cases h0 : v ≤ 0
    · rw [cn_zero h0]
      exact ⟨.nil, rfl, fun _ => by simp [vl]; omega⟩
    · rw [cn_cons hB (by omega)]
      have hq : v / B < v := Int.ediv_lt_of_lt_mul (by omega) (by
        have := Int.mul_lt_mul_of_pos_left (show (1 : Int) < B by omega) (show 0 < v by omega); omega)
      have hq0 : 0 ≤ v / B := Int.ediv_nonneg (by omega) (by omega)
      obtain ⟨i1, i2, i3⟩ := cn_all hB n (v / B) (by omega)
      have hm := Int.emod_add_mul_ediv v B
      have hm0 := Int.emod_nonneg v (show B ≠ 0 by omega)
      have hm1 := Int.emod_lt_of_pos v (show 0 < B by omega)
      refine ⟨fun y hy => ?_, ?_, fun _ => ?_⟩
      · rcases List.mem_cons.1 hy with rfl | hy
        · exact ⟨hm0, hm1⟩
        · exact i1 y hy
      · rw [tr, i2, if_neg]
        intro ⟨h1, h2⟩
        have i3 := i3 hq0
        rw [h1] at i3
        have : vl B [] = 0 := rfl
        rw [this] at i3
        rw [← i3, h2] at hm
        simp at hm
        omega
      · rw [vl_cons, i3 hq0]; exact hm
theorem cn_Dg (hB : 2 ≤ B) (v : Int) : Dg B (cn B v) := (cn_all hB _ v (Nat.le_refl _)).1
theorem cn_tr (hB : 2 ≤ B) (v : Int) : tr (cn B v) = cn B v := (cn_all hB _ v (Nat.le_refl _)).2.1
theorem vl_cn (hB : 2 ≤ B) {v : Int} (h : 0 ≤ v) : vl B (cn B v) = v := (cn_all hB _ v (Nat.le_refl _)).2.2 h
theorem cn_nil (hB : 2 ≤ B) {v : Int} (h : 0 < v) : cn B v ≠ [] := by rw [cn_cons hB h]; simp
theorem cn_length (hB : 2 ≤ B) : ∀ {k : Nat} {v : Int}, v < B ^ k → (cn B v).length ≤ k
  | 0, v, h => by rw [cn_zero (by simp at h; omega)]; simp
  | k + 1, v, h => by
    by_cases h0 : v ≤ 0
    · rw [cn_zero h0]; simp
    · rw [cn_cons hB (by omega), List.length_cons]
      have := cn_length hB (k := k) (v := v / B) (Int.ediv_lt_of_lt_mul (by omega) (by rw [← Int.pow_succ]; exact h))
      omega
theorem rep_set (p : List Int) (m : Nat) (y : Int) : (p ++ List.replicate (m + 1) 0).set p.length y = (p ++ [y]) ++ List.replicate m 0 := by
  rw [List.replicate_succ, List.set_append_right _ _ (Nat.le_refl _)]
  simp
theorem eqc (hB : 2 ≤ B) {a b : List Int} (ha : Dg B a) (hb : Dg B b) (h : vl B a = vl B b) : tr a = tr b := by
  rw [tr_cn hB ha, tr_cn hB hb, h]
end Num

/-! ### limbs: what the program's sums and products are -/
section Limbs
variable {B : Int}
theorem takeS {l : List Int} {n : Nat} (h : n < l.length) : l.take (n + 1) = l.take n ++ [rd l (n : Int)] := by
  rw [rd_nat, List.getElem?_eq_getElem h, List.take_succ_eq_append_getElem h]; rfl
theorem trS {l : List Int} {n : Nat} (h : n < l.length) (h0 : rd l (n : Int) = 0) : tr (l.take n) = tr (l.take (n + 1)) := by
  rw [takeS h, h0, tr_snoc0]
theorem trN {l : List Int} {n : Nat} (h : n < l.length) (h0 : ¬ rd l (n : Int) = 0) : l.take (n + 1) = tr (l.take (n + 1)) := by
  rw [takeS h, tr_snoc h0]
theorem pred {n : Nat} (h : n ≤ 1000000000) : wrap64 (((n + 1 : Nat) : Int) - 1) = (n : Int) := by rw [wr (by omega) (by omega)]; omega
theorem suc {n : Nat} (h : n ≤ 1000000000) : wrap64 ((n : Int) + 1) = ((n + 1 : Nat) : Int) := by rw [wr (by omega) (by omega)]; rfl
theorem natT (n : Nat) : ((n : Int)).toNat = n := Int.toNat_natCast n
theorem nat_trim.l0_ev (x : List Int) (hx : x.length ≤ 100000000) : ∀ n, n ≤ x.length → Ev (fun k => nat_trim.l0 k x (n : Int)) (tr (x.take n))
  | 0, _ => by
    refine Ev.step (fun k => nat_trim.l0.eq_2 _ _ _) ?_
    refine ev_neg (by omega) (ev_pos (by omega) (ev_pos (by omega) (ev_ret ?_)))
    simp [tr]
  | n + 1, h => by
    refine Ev.step (fun k => nat_trim.l0.eq_2 _ _ _) ?_
    rw [pred (by omega)]
    refine ev_pos (by omega) (ev_pos (by omega) (ev_pos (by omega) (ev_ite (fun h0 => ?_) (fun h0 => ?_))))
    · exact ev_cast (nat_trim.l0_ev x hx n (by omega)) (trS (by omega) h0)
    · exact ev_pos (by omega) (ev_pos (by omega) (ev_ret (by rw [natT]; exact trN (by omega) h0)))
theorem nat_trim.ev {x : List Int} (hx : x.length ≤ 100000000) : Ev (fun k => nat_trim.f k x) (tr x) := by
  have h := nat_trim.l0_ev x hx x.length (Nat.le_refl _)
  rw [List.take_length] at h
  exact h
theorem nat_Norm.l0_ev (x : List Int) (hx : x.length ≤ 100000000) : ∀ n, n ≤ x.length → Ev (fun k => nat_Norm.l0 k x (n : Int)) (tr (x.take n))
  | 0, _ => by
    refine Ev.step (fun k => nat_Norm.l0.eq_2 _ _ _) ?_
    refine ev_neg (by omega) (ev_pos (by omega) (ev_pos (by omega) (ev_pos (by simp) (ev_ret ?_))))
    simp [tr]
  | n + 1, h => by
    refine Ev.step (fun k => nat_Norm.l0.eq_2 _ _ _) ?_
    rw [pred (by omega)]
    refine ev_pos (by omega) (ev_pos (by omega) (ev_pos (by omega) (ev_ite (fun h0 => ?_) (fun h0 => ?_))))
    · exact ev_cast (nat_Norm.l0_ev x hx n (by omega)) (trS (by omega) h0)
    · exact ev_pos (by omega) (ev_pos (by omega) (ev_pos (by rw [natT]; simp only [List.length_nil, List.length_take]; omega) (ev_ret (by rw [natT, List.nil_append]; exact trN (by omega) h0))))
theorem nat_Norm.ev {x : List Int} (hx : x.length ≤ 100000000) : Ev (fun k => nat_Norm.f k x) (tr x) := by
  have h := nat_Norm.l0_ev x hx x.length (Nat.le_refl _)
  rw [List.take_length] at h
  exact h
theorem words_l0 (a : List Int) (ha : a.length ≤ 1000000) : ∀ m i, i + m = a.length → Ev (fun k => whetstoneref01_Words.l0 k a a (i : Int)) true
  | 0, i, h => by
    refine Ev.step (fun k => whetstoneref01_Words.l0.eq_2 _ _ _ _) ?_
    exact ev_neg (by omega) (ev_ret rfl)
  | m + 1, i, h => by
    refine Ev.step (fun k => whetstoneref01_Words.l0.eq_2 _ _ _ _) ?_
    rw [suc (by omega)]
    exact ev_pos (by omega) (ev_pos (by omega) (ev_pos (by omega) (ev_pos rfl (words_l0 a ha m (i + 1) (by omega)))))
theorem words_ev {a b : List Int} (ha : a.length ≤ 1000000) (h : a = b) : Ev (fun k => whetstoneref01_Words.f k a b) true := by
  subst h
  exact ev_pos rfl (words_l0 a ha a.length 0 (by omega))
theorem add32 {x y c : Int} (hx : 0 ≤ x ∧ x < 4294967296) (hy : 0 ≤ y ∧ y < 4294967296) (hc : 0 ≤ c ∧ c ≤ 1) : bits_Add32.f x y c = some ((x + y + c) % 4294967296, (x + y + c) / 4294967296) := by
  unfold bits_Add32.f
  simp only [IntKind.wrap_u64]
  congr 2 <;> omega
theorem add_step {P V A b x y c : Int} (h : V + P * c = A + b) : V + P * ((x + y + c) % B) + P * B * ((x + y + c) / B) = (A + P * x) + (b + P * y) := by
  have := Int.emod_add_mul_ediv (x + y + c) B
  grind
theorem nat_Add.l0_ev (hB : B = 4294967296) {a b : List Int} (ha : a.length ≤ 1000000) (hba : b.length ≤ a.length) (da : Dg B a) (db : Dg B b) : ∀ (m : Nat) (p : List Int) (c : Int), p.length + m = a.length → Dg B p → 0 ≤ c ∧ c ≤ 1 → vl B p + B ^ p.length * c = vl B (a.take p.length) + vl B (b.take p.length) → Ev (fun k => nat_Add.l0 k a b (p ++ List.replicate (m + 1) 0) c (a.length : Int) (p.length : Int)) (cn B (vl B a + vl B b))
  | 0, p, c, hp, dp, hc, hv => by
    refine Ev.step (fun k => nat_Add.l0.eq_2 _ _ _ _ _ _ _) ?_
    refine ev_neg (by omega) (ev_pos (by omega) (ev_pos (by simp; omega) ?_))
    rw [show (a.length : Int) = (p.length : Int) by omega, natT, rep_set, List.replicate_zero, List.append_nil]
    refine Ev.bind (nat_trim.ev (x := p ++ [c]) (by simp; omega)) (ev_ret ?_)
    rw [tr_cn (B := B) (by omega) (dp.snoc hc.1 (by omega)), vl_snoc, hv, List.take_of_length_le (by omega), List.take_of_length_le (by omega)]
  | m + 1, p, c, hp, dp, hc, hv => by
    have hx := da.place (by omega) (p.length : Int)
    have hy := db.place (by omega) (p.length : Int)
    have hs := add_step (B := B) (x := rd a p.length) (y := rd b p.length) hv
    rw [← vl_take_succ, ← vl_take_succ] at hs
    have key : ∀ z, z = rd b (p.length : Int) → Ev (fun k => (bits_Add32.f (rd a (p.length : Int)) z c).bind fun bt => if (p.length : Int) < ((p ++ List.replicate (m + 1 + 1) 0).length : Int) then (nat_Add.l0 k a b ((p ++ List.replicate (m + 1 + 1) 0).set (p.length : Int).toNat bt.1) bt.2 (a.length : Int) (wrap64 ((p.length : Int) + 1))) else none) (cn B (vl B a + vl B b)) := by
      intro z hz
      subst hz
      refine ev_some (add32 (by omega) (by omega) hc) ?_
      refine ev_pos (by simp; omega) ?_
      rw [natT, rep_set, suc (by omega)]
      have := nat_Add.l0_ev hB ha hba da db m (p ++ [(rd a (p.length : Int) + rd b (p.length : Int) + c) % 4294967296]) ((rd a (p.length : Int) + rd b (p.length : Int) + c) / 4294967296) (by simp; omega) (dp.snoc (by omega) (by omega)) (by omega) (by
        rw [vl_snoc, List.length_append, List.length_singleton, Int.pow_succ, ← hB]; exact hs)
      rw [List.length_append, List.length_singleton] at this
      exact this
    refine Ev.step (fun k => nat_Add.l0.eq_2 _ _ _ _ _ _ _) ?_
    refine ev_pos (by omega) (ev_ite (fun h0 => ?_) (fun h0 => ?_))
    · exact ev_pos (by omega) (ev_pos (by omega) (key _ rfl))
    · exact ev_pos (by omega) (ev_pos (by omega) (key _ (rd_out (by omega)).symm))
theorem nat_Add.j0_ev (hB : B = 4294967296) {a b : List Int} (ha : a.length ≤ 1000000) (hba : b.length ≤ a.length) (da : Dg B a) (db : Dg B b) : Ev (fun k => nat_Add.j0 k a b) (cn B (vl B a + vl B b)) := by
  refine Ev.step (fun k => nat_Add.j0.eq_2 _ _ _) ?_
  rw [suc (by omega), natT]
  refine ev_pos (by omega) (ev_pos (by omega) ?_)
  exact nat_Add.l0_ev hB ha hba da db a.length [] 0 (by simp) .nil (by omega) (by simp [vl])
theorem nat_Add.ev (hB : B = 4294967296) {a b : List Int} (ha : a.length ≤ 1000000) (hb : b.length ≤ 1000000) (da : Dg B a) (db : Dg B b) : Ev (fun k => nat_Add.f k a b) (cn B (vl B a + vl B b)) := by
  unfold nat_Add.f
  refine ev_ite (fun h => ?_) (fun h => ?_)
  · rw [Int.add_comm]; exact nat_Add.j0_ev hB hb (by omega) db da
  · exact nat_Add.j0_ev hB ha (by omega) da db
theorem u64id {x : Int} (h : 0 ≤ x) (h' : x < 18446744073709551616) : IntKind.u64.wrap x = x := by rw [IntKind.wrap_u64]; omega
theorem pow_le {i j : Nat} (hB : 1 ≤ B) (h : i ≤ j) : B ^ i ≤ B ^ j := by
  obtain ⟨d, rfl⟩ := Nat.le.dest h
  rw [Int.pow_add]
  have h1 := pow_pos' (show 0 < B by omega) i
  have h2 := pow_pos' (show 0 < B by omega) d
  have := Int.mul_le_mul_of_nonneg_left (show 1 ≤ B ^ d by omega) (show 0 ≤ B ^ i by omega)
  omega
end Limbs

/-! ### limbs: the product -/
section LimbsMul
variable {B : Int}
theorem carry_step {V P T r t c : Int} (h : V + P * c = T) (ht : t = r + c) : V + P * (t % B - r) + P * B * (t / B) = T := by
  have := Int.emod_add_mul_ediv t B
  grind
theorem mul_fits {x y r c : Int} (hx : 0 ≤ x ∧ x < 4294967296) (hy : 0 ≤ y ∧ y < 4294967296) (hr : 0 ≤ r ∧ r < 4294967296) (hc : 0 ≤ c ∧ c < 4294967296) : 0 ≤ x * y ∧ x * y + r + c < 18446744073709551616 := by
  have h1 := Int.mul_nonneg hx.1 hy.1
  have h2 := Int.mul_le_mul_of_nonneg_left (show y ≤ 4294967295 by omega) hx.1
  omega
theorem nat_addTo.l1_ev (hB : B = 4294967296) (T : Int) : ∀ (m i : Nat) (row : List Int) (c : Int), i + m = row.length → row.length ≤ 1000000 → Dg B row → 0 ≤ c ∧ c < B → vl B row + B ^ i * c = T → T < B ^ row.length → ∃ r, Ev (fun k => nat_addTo.l1 k row c (i : Int)) r ∧ Dg B r ∧ r.length = row.length ∧ vl B r = T
  | 0, i, row, c, hi, hl, dr, hc, hv, hT => by
    have h0 : c = 0 := by
      have h1 := vl_nonneg (show 0 ≤ B by omega) dr
      have h2 := pow_pos' (show 0 < B by omega) i
      have e : i = row.length := by omega
      rw [← e] at hT
      rcases (show 0 < c ∨ c ≤ 0 by omega) with h | h
      · have := Int.mul_le_mul_of_nonneg_left (show 1 ≤ c by omega) (show 0 ≤ B ^ i by omega)
        omega
      · omega
    subst h0
    refine ⟨row, Ev.step (fun k => nat_addTo.l1.eq_2 _ _ _ _) (ev_neg (by omega) (ev_ret rfl)), dr, rfl, by simpa using hv⟩
  | m + 1, i, row, c, hi, hl, dr, hc, hv, hT => by
    have hr := dr.place (show 0 < B by omega) (i : Int)
    by_cases h0 : c = 0
    · subst h0
      refine ⟨row, Ev.step (fun k => nat_addTo.l1.eq_2 _ _ _ _) (ev_neg (by omega) (ev_ret rfl)), dr, rfl, by simpa using hv⟩
    · have hs := carry_step (B := B) (r := rd row i) (t := rd row i + c) hv rfl
      rw [← vl_set row i _ (by omega), ← Int.pow_succ] at hs
      obtain ⟨r, h1, h2, h3, h4⟩ := nat_addTo.l1_ev hB T m (i + 1) (row.set i ((rd row i + c) % B)) ((rd row i + c) / B) (by simp; omega) (by simp; omega) (dr.set (by subst hB; omega) (by subst hB; omega)) (by subst hB; omega) hs (by simpa using hT)
      refine ⟨r, Ev.step (fun k => nat_addTo.l1.eq_2 _ _ _ _) (ev_pos (by omega) (ev_pos (by omega) (ev_pos (by omega) ?_))), h2, by simpa using h3, h4⟩
      rw [natT, suc (by omega), u64id (x := rd row i) (by omega) (by omega), u64id (by omega) (by omega), ← hB]
      exact h1
theorem nat_addTo.l0_ev (hB : B = 4294967296) (row0 : List Int) (s : Nat) (x : Int) (b : List Int) (hx : 0 ≤ x ∧ x < B) (db : Dg B b) (hl : row0.length ≤ 1000000) (hsb : s + b.length ≤ row0.length) (hT : vl B row0 + x * (B ^ s * vl B b) < B ^ row0.length) : ∀ (m i : Nat) (row : List Int) (c : Int), i + m = b.length → row.length = row0.length → Dg B row → 0 ≤ c ∧ c < B → vl B row + B ^ (s + i) * c = vl B row0 + x * (B ^ s * vl B (b.take i)) → ∃ r, Ev (fun k => nat_addTo.l0 k row (s : Int) x b c b (b.length : Int) (i : Int)) r ∧ Dg B r ∧ r.length = row0.length ∧ vl B r = vl B row0 + x * (B ^ s * vl B b)
  | 0, i, row, c, hi, hr, dr, hc, hv => by
    rw [show b.take i = b from List.take_of_length_le (by omega), show i = b.length by omega] at hv
    obtain ⟨r, h1, h2, h3, h4⟩ := nat_addTo.l1_ev hB _ (row.length - (s + b.length)) (s + b.length) row c (by omega) (by omega) dr hc hv (by rw [hr]; exact hT)
    refine ⟨r, Ev.step (fun k => nat_addTo.l0.eq_2 _ _ _ _ _ _ _ _ _) (ev_neg (by omega) ?_), h2, by omega, h4⟩
    rw [wr (by omega) (by omega), show (s : Int) + (b.length : Int) = ((s + b.length : Nat) : Int) by omega]
    exact h1
  | m + 1, i, row, c, hi, hr, dr, hc, hv => by
    have hr0 := dr.place (show 0 < B by omega) ((s + i : Nat) : Int)
    have hy := db.place (show 0 < B by omega) (i : Int)
    have hf := mul_fits (x := x) (y := rd b i) (r := rd row ((s + i : Nat) : Int)) (c := c) (by omega) (by omega) (by omega) (by omega)
    have hq : (x * rd b i + rd row ((s + i : Nat) : Int) + c) / B < B := Int.ediv_lt_of_lt_mul (by omega) (by rw [hB]; omega)
    have hm0 := Int.emod_nonneg (x * rd b i + rd row ((s + i : Nat) : Int) + c) (show B ≠ 0 by omega)
    have hm1 := Int.emod_lt_of_pos (x * rd b i + rd row ((s + i : Nat) : Int) + c) (show 0 < B by omega)
    have hs : vl B (row.set (s + i) ((x * rd b i + rd row ((s + i : Nat) : Int) + c) % B)) + B ^ (s + (i + 1)) * ((x * rd b i + rd row ((s + i : Nat) : Int) + c) / B) = vl B row0 + x * (B ^ s * vl B (b.take (i + 1))) := by
      rw [vl_set row (s + i) _ (by omega), vl_take_succ, ← Nat.add_assoc, Int.pow_succ]
      have h1 := Int.emod_add_mul_ediv (x * rd b i + rd row ((s + i : Nat) : Int) + c) B
      have h2 : B ^ (s + i) = B ^ s * B ^ i := Int.pow_add _ _ _
      generalize B ^ (s + i) = P at *
      generalize (x * rd b i + rd row ((s + i : Nat) : Int) + c) % B = q at *
      generalize (x * rd b i + rd row ((s + i : Nat) : Int) + c) / B = q' at *
      generalize rd row ((s + i : Nat) : Int) = rr at *
      generalize rd b i = y at *
      generalize B ^ s = S at *
      generalize B ^ i = I at *
      grind
    obtain ⟨r, h1, h2, h3, h4⟩ := nat_addTo.l0_ev hB row0 s x b hx db hl hsb hT m (i + 1) (row.set (s + i) ((x * rd b i + rd row ((s + i : Nat) : Int) + c) % B)) ((x * rd b i + rd row ((s + i : Nat) : Int) + c) / B) (by omega) (by simp; omega) (dr.set hm0 hm1) ⟨Int.ediv_nonneg (by omega) (by omega), hq⟩ hs
    refine ⟨r, Ev.step (fun k => nat_addTo.l0.eq_2 _ _ _ _ _ _ _ _ _) ?_, h2, h3, h4⟩
    rw [show wrap64 ((s : Int) + (i : Int)) = ((s + i : Nat) : Int) by rw [wr (by omega) (by omega)]; omega, natT, suc (by omega), u64id (x := x) (by omega) (by omega), u64id (x := rd b i) (by omega) (by omega), u64id (x := rd row _) (by omega) (by omega), u64id (x := x * rd b i) (by omega) (by omega), u64id (x := x * rd b i + _) (by omega) (by omega), u64id (x := x * rd b i + _ + _) (by omega) (by omega), ← hB]
    exact ev_pos (by omega) (ev_pos (by omega) (ev_pos (by omega) (ev_pos (by omega) (ev_pos (by omega) h1))))
theorem nat_addTo.ev (hB : B = 4294967296) {row : List Int} {s : Nat} {x : Int} {b : List Int} (hx : 0 ≤ x ∧ x < B) (dr : Dg B row) (db : Dg B b) (hl : row.length ≤ 1000000) (hsb : s + b.length ≤ row.length) (hT : vl B row + x * (B ^ s * vl B b) < B ^ row.length) : ∃ r, Ev (fun k => nat_addTo.f k row (s : Int) x b) r ∧ Dg B r ∧ r.length = row.length ∧ vl B r = vl B row + x * (B ^ s * vl B b) :=
  nat_addTo.l0_ev hB row s x b hx db hl hsb hT b.length 0 row 0 (by omega) rfl dr (by omega) (by simp [vl])
theorem nat_Mul.l0_ev (hB : B = 4294967296) {a b : List Int} (ha : a.length + b.length ≤ 1000000) (da : Dg B a) (db : Dg B b) : ∀ (m i : Nat) (row : List Int), i + m = a.length → row.length = a.length + b.length → Dg B row → vl B row = vl B (a.take i) * vl B b → Ev (fun k => nat_Mul.l0 k b row a (a.length : Int) (i : Int)) (cn B (vl B a * vl B b))
  | 0, i, row, hi, hr, dr, hv => by
    refine Ev.step (fun k => nat_Mul.l0.eq_2 _ _ _ _ _ _) (ev_neg (by omega) (Ev.bind (nat_trim.ev (x := row) (by omega)) (ev_ret ?_)))
    rw [tr_cn (by omega) dr, hv, List.take_of_length_le (by omega)]
  | m + 1, i, row, hi, hr, dr, hv => by
    have hx := da.place (show 0 < B by omega) (i : Int)
    have e : vl B row + rd a i * (B ^ i * vl B b) = vl B (a.take (i + 1)) * vl B b := by rw [hv, vl_take_succ]; grind
    have hT : vl B row + rd a i * (B ^ i * vl B b) < B ^ row.length := by
      rw [e, hr]
      have h1 := vl_lt (show 0 < B by omega) (da.take (i + 1))
      rw [List.length_take, Nat.min_eq_left (by omega)] at h1
      have h2 := vl_lt (show 0 < B by omega) db
      have h3 := vl_nonneg (show 0 ≤ B by omega) db
      have h4 := pow_pos' (show 0 < B by omega) (i + 1)
      have h5 := Int.mul_le_mul_of_nonneg_right (show vl B (a.take (i + 1)) ≤ B ^ (i + 1) by omega) h3
      have h6 := Int.mul_lt_mul_of_pos_left h2 h4
      have h7 := pow_le (show 1 ≤ B by omega) (show i + 1 + b.length ≤ a.length + b.length by omega)
      rw [Int.pow_add _ (i + 1)] at h7
      omega
    obtain ⟨r, h1, h2, h3, h4⟩ := nat_addTo.ev hB (s := i) hx dr db (by omega) (by omega) hT
    refine Ev.step (fun k => nat_Mul.l0.eq_2 _ _ _ _ _ _) (ev_pos (by omega) (ev_pos (by omega) (ev_pos (by omega) (Ev.bind h1 ?_))))
    rw [suc (by omega)]
    exact nat_Mul.l0_ev hB ha da db m (i + 1) r (by omega) (by omega) h2 (by rw [h4, e])
theorem vl_empty {a : List Int} (h : a.length = 0) : vl B a = 0 := by rw [List.length_eq_zero_iff.1 h]; rfl
theorem nat_Mul.ev (hB : B = 4294967296) {a b : List Int} (ha : a.length + b.length ≤ 1000000) (da : Dg B a) (db : Dg B b) : Ev (fun k => nat_Mul.f k a b) (cn B (vl B a * vl B b)) := by
  have la := tr_length a
  have lb := tr_length b
  have hj : tr a ≠ [] → tr b ≠ [] → Ev (fun k => nat_Mul.j0 k (tr a) (tr b) false) (cn B (vl B a * vl B b)) := by
    intro h1 h2
    refine Ev.step (fun k => nat_Mul.j0.eq_2 _ _ _ _) (ev_neg (by simp) ?_)
    rw [show wrap64 (((tr a).length : Int) + ((tr b).length : Int)) = (((tr a).length + (tr b).length : Nat) : Int) by rw [wr (by omega) (by omega)]; omega, natT]
    refine ev_pos (by omega) (ev_pos (by omega) ?_)
    have := nat_Mul.l0_ev hB (a := tr a) (b := tr b) (by omega) (tr_Dg da) (tr_Dg db) (tr a).length 0 (List.replicate ((tr a).length + (tr b).length) 0) (by omega) (by simp) (.zeros (by omega) _) (by rw [vl_zeros]; simp [vl])
    rw [tr_vl, tr_vl] at this
    exact this
  have hz : vl B a * vl B b = 0 → Ev (fun k => nat_Mul.j0 k (tr a) (tr b) true) (cn B (vl B a * vl B b)) := by
    intro h
    rw [h, cn_zero (Int.le_refl _)]
    exact Ev.step (fun k => nat_Mul.j0.eq_2 _ _ _ _) (ev_pos rfl (ev_ret rfl))
  refine Ev.bind (nat_trim.ev (x := a) (by omega)) (Ev.bind (nat_trim.ev (x := b) (by omega)) ?_)
  refine ev_ite (fun h => hz ?_) (fun h => ?_)
  · rw [← tr_vl a, vl_empty (by omega)]; simp
  · by_cases hb : (tr b).length = 0
    · rw [show (((tr b).length : Int) == 0) = true by simp [hb]]
      exact hz (by rw [← tr_vl b, vl_empty hb]; simp)
    · rw [show (((tr b).length : Int) == 0) = false by simp; intro e; exact hb (by rw [e]; rfl)]
      exact hj (fun e => h (by rw [e]; rfl)) (fun e => hb (by rw [e]; rfl))
end LimbsMul

/-! ### how many places a number has -/
def Sm (B : Int) (n : Nat) (v : Int) : Prop := 0 ≤ v ∧ v < B ^ n
section Sizes
variable {B : Int}
theorem Sm.of (hB : 2 ≤ B) {l : List Int} {n : Nat} (h : Dg B l) (hl : l.length ≤ n) : Sm B n (vl B l) :=
  ⟨vl_nonneg (by omega) h, by have := vl_lt (show 0 < B by omega) h; have := pow_le (show 1 ≤ B by omega) hl; omega⟩
theorem Sm.add (hB : 2 ≤ B) {n m : Nat} {a b : Int} (ha : Sm B n a) (hb : Sm B m b) : Sm B (n + m + 1) (a + b) := by
  refine ⟨Int.add_nonneg ha.1 hb.1, ?_⟩
  have h1 := pow_le (show 1 ≤ B by omega) (show n ≤ n + m by omega)
  have h2 := pow_le (show 1 ≤ B by omega) (show m ≤ n + m by omega)
  have h3 := pow_pos' (show 0 < B by omega) (n + m)
  have h4 := Int.mul_le_mul_of_nonneg_left hB (show 0 ≤ B ^ (n + m) by omega)
  have := ha.2; have := hb.2
  rw [Int.pow_succ]; omega
theorem Sm.mul (hB : 2 ≤ B) {n m : Nat} {a b : Int} (ha : Sm B n a) (hb : Sm B m b) : Sm B (n + m) (a * b) := by
  refine ⟨Int.mul_nonneg ha.1 hb.1, ?_⟩
  have h1 := Int.mul_le_mul_of_nonneg_right (show a ≤ B ^ n by have := ha.2; omega) hb.1
  have h2 := Int.mul_lt_mul_of_pos_left hb.2 (pow_pos' (show 0 < B by omega) n)
  rw [Int.pow_add]; omega
theorem Sm.len (hB : 2 ≤ B) {n : Nat} {v : Int} (h : Sm B n v) : (cn B v).length ≤ n := cn_length hB h.2
theorem Sm.le (hB : 2 ≤ B) {n m : Nat} {v : Int} (h : Sm B n v) (hm : n ≤ m) : Sm B m v := ⟨h.1, by have := pow_le (show 1 ≤ B by omega) hm; have := h.2; omega⟩
theorem Sm.vl (hB : 2 ≤ B) {n : Nat} {v : Int} (h : Sm B n v) : vl B (cn B v) = v := vl_cn hB h.1
theorem Dg_of {l : List Int} (h : ∀ x ∈ l, (Lit.int .u32 x).wf = true) : Dg 4294967296 l := by
  intro x hx
  have := h x hx
  have e1 : IntKind.u32.min = 0 := rfl
  have e2 : IntKind.u32.max = 4294967295 := rfl
  simp [Lit.wf, e1, e2] at this
  omega
end Sizes
theorem counted_ev : Ev (fun k => whetstonelaw01_counted.f k) true := Ev.of (k := 60) whetstonelaw01_counted.mono (by decide +kernel)

/-! ### the reference: decimal digits -/
section Ref
theorem vl_drop {B : Int} {l : List Int} {i : Nat} (h : i < l.length) : vl B (l.drop i) = rd l i + B * vl B (l.drop (i + 1)) := by
  rw [List.drop_eq_getElem_cons h, vl_cons, rd_nat, List.getElem?_eq_getElem h]; rfl
theorem vl_drop_le {B : Int} (hB : 1 ≤ B) {l : List Int} (h : Dg B l) (i : Nat) : vl B (l.drop i) ≤ vl B l := by
  have h1 := vl_split (B := B) i l
  have h2 := vl_nonneg (show 0 ≤ B by omega) (h.take i)
  have h3 := vl_nonneg (show 0 ≤ B by omega) (h.drop i)
  have h4 := Int.mul_le_mul_of_nonneg_right (show 1 ≤ B ^ i by have := pow_pos' (show 0 < B by omega) i; omega) h3
  omega
theorem tdiv10 {x y : Int} (h : 0 ≤ x) : Int.tdiv x y = x / y := Int.tdiv_eq_ediv_of_nonneg h
theorem tmod10 {x y : Int} (h : 0 ≤ x) : Int.tmod x y = x % y := Int.tmod_eq_emod_of_nonneg h
theorem ref_trim.l0_ev (x : List Int) (hx : x.length ≤ 100000000) : ∀ n, n ≤ x.length → Ev (fun k => whetstoneref01_Trim.l0 k x (n : Int)) (tr (x.take n))
  | 0, _ => by
    refine Ev.step (fun k => whetstoneref01_Trim.l0.eq_2 _ _ _) ?_
    refine ev_neg (by omega) (ev_pos (by omega) (ev_pos (by omega) (ev_pos (by simp) (ev_ret ?_))))
    simp [tr]
  | n + 1, h => by
    refine Ev.step (fun k => whetstoneref01_Trim.l0.eq_2 _ _ _) ?_
    rw [pred (by omega)]
    refine ev_pos (by omega) (ev_pos (by omega) (ev_pos (by omega) (ev_ite (fun h0 => ?_) (fun h0 => ?_))))
    · exact ev_cast (ref_trim.l0_ev x hx n (by omega)) (trS (by omega) h0)
    · exact ev_pos (by omega) (ev_pos (by omega) (ev_pos (by rw [natT]; simp only [List.length_nil, List.length_take]; omega) (ev_ret (by rw [natT, List.nil_append]; exact trN (by omega) h0))))
theorem ref_trim.ev {x : List Int} (hx : x.length ≤ 100000000) : Ev (fun k => whetstoneref01_Trim.f k x) (tr x) := by
  have h := ref_trim.l0_ev x hx x.length (Nat.le_refl _)
  rw [List.take_length] at h
  exact h
theorem ref_trim.cn {x : List Int} (hx : x.length ≤ 100000000) (h : Dg 10 x) : Ev (fun k => whetstoneref01_Trim.f k x) (cn 10 (vl 10 x)) := ev_cast (ref_trim.ev hx) (tr_cn (by omega) h)
theorem small_l0 : ∀ (m : Nat) (n : Int) (p : List Int), n.toNat ≤ m → 0 ≤ n → n < 18446744073709551616 → p.length + m ≤ 18446744073709551616 → p.length ≤ 1000 → p.length + (cn 10 n).length ≤ 1000 → Ev (fun k => whetstoneref01_Small.l0 k n p) (p ++ cn 10 n)
  | 0, n, p, h, h0, h1, h2, h3, h4 => by
    refine Ev.step (fun k => whetstoneref01_Small.l0.eq_2 _ _ _) (ev_neg (by omega) (ev_ret ?_))
    rw [cn_zero (by omega), List.append_nil]
  | m + 1, n, p, h, h0, h1, h2, h3, h4 => by
    by_cases hn : n = 0
    · refine Ev.step (fun k => whetstoneref01_Small.l0.eq_2 _ _ _) (ev_neg (by omega) (ev_ret ?_))
      rw [cn_zero (by omega), List.append_nil]
    · refine Ev.step (fun k => whetstoneref01_Small.l0.eq_2 _ _ _) (ev_pos (by omega) (ev_pos (by omega) ?_))
      rw [cn_cons (by omega) (by omega)] at h4 ⊢
      rw [tdiv10 h0, tmod10 h0, u64id (by omega) (by omega), wr (by omega) (by omega)]
      rw [List.length_cons] at h4
      have := small_l0 m (n / 10) (p ++ [n % 10]) (by omega) (by omega) (by omega) (by simp; omega) (by simp; omega) (by simp; omega)
      rw [List.append_assoc] at this
      exact this
theorem small_ev {n : Int} (h0 : 0 ≤ n) (h1 : n < 18446744073709551616) : Ev (fun k => whetstoneref01_Small.f k n) (cn 10 n) := by
  have hl : (cn 10 n).length ≤ 20 := cn_length (by omega) (Int.lt_of_lt_of_le h1 (by decide))
  have := small_l0 n.toNat n [] (Nat.le_refl _) h0 h1 (by simp; omega) (by simp) (by simp; omega)
  exact this
theorem radd_l0 {a b : List Int} (ha : a.length ≤ 10000000) (hb : b.length ≤ 10000000) (da : Dg 10 a) (db : Dg 10 b) : ∀ (m : Nat) (p : List Int) (c : Int), p.length + m = max a.length b.length + 1 → Dg 10 p → 0 ≤ c ∧ c ≤ 1 → (m = 0 → c = 0) → vl 10 p + 10 ^ p.length * c = vl 10 (a.take p.length) + vl 10 (b.take p.length) → Ev (fun k => whetstoneref01_Add.l0 k a b p c (p.length : Int)) (cn 10 (vl 10 a + vl 10 b)) := by
  have fin : ∀ (p : List Int), max a.length b.length ≤ p.length → p.length ≤ 10000001 → Dg 10 p → vl 10 p + 10 ^ p.length * 0 = vl 10 (a.take p.length) + vl 10 (b.take p.length) → Ev (fun k => whetstoneref01_Add.l0 k a b p 0 (p.length : Int)) (cn 10 (vl 10 a + vl 10 b)) := by
    intro p h1 h2 dp hv
    refine Ev.step (fun k => whetstoneref01_Add.l0.eq_2 _ _ _ _ _ _) (ev_neg (by omega) (ev_neg (by omega) ?_))
    refine Ev.step (fun k => whetstoneref01_Add.j1.eq_2 _ _ _ _ _ _ _) (ev_neg (by simp) (Ev.bind (ref_trim.cn (x := p) (by omega) dp) (ev_ret ?_)))
    rw [List.take_of_length_le (by omega), List.take_of_length_le (by omega)] at hv
    rw [← hv]; congr 1; omega
  intro m
  induction m with
  | zero =>
    intro p c hp dp hc hm hv
    have := hm rfl
    subst this
    exact fin p (by omega) (by omega) dp hv
  | succ m ih =>
    intro p c hp dp hc hm hv
    have hx := da.place (by omega) (p.length : Int)
    have hy := db.place (by omega) (p.length : Int)
    have hs := add_step (B := 10) (x := rd a p.length) (y := rd b p.length) hv
    rw [← vl_take_succ, ← vl_take_succ] at hs
    have key : ∀ z, z = c + rd a (p.length : Int) + rd b (p.length : Int) → (p.length < max a.length b.length ∨ c = 1) → Ev (fun k => whetstoneref01_Add.l0 k a b (p ++ [Int.tmod z 10]) (wrap64 (Int.tdiv z 10)) (wrap64 ((p.length : Int) + 1))) (cn 10 (vl 10 a + vl 10 b)) := by
      intro z hz hg
      have e : rd a (p.length : Int) + rd b (p.length : Int) + c = z := by omega
      rw [e] at hs
      rw [tmod10 (by omega), tdiv10 (by omega), suc (by omega), wr (n := z / 10) (by omega) (by omega)]
      have := ih (p ++ [z % 10]) (z / 10) (by simp; omega) (dp.snoc (by omega) (by omega)) (by omega) (fun hm0 => by
        have hpl : p.length = max a.length b.length := by omega
        have e1 : rd a (p.length : Int) = 0 := rd_out (by omega)
        have e2 : rd b (p.length : Int) = 0 := rd_out (by omega)
        omega) (by
        rw [vl_snoc, List.length_append, List.length_singleton, Int.pow_succ]; exact hs)
      rw [List.length_append, List.length_singleton] at this
      exact this
    have j1 : (p.length < max a.length b.length ∨ c = 1) → Ev (fun k => whetstoneref01_Add.j1 k a b p c (p.length : Int) true) (cn 10 (vl 10 a + vl 10 b)) := by
      intro hg
      refine Ev.step (fun k => whetstoneref01_Add.j1.eq_2 _ _ _ _ _ _ _) (ev_pos rfl ?_)
      refine ev_ite (fun h0 => ev_pos (by omega) (ev_ite (fun h1 => ev_pos (by omega) ?_) (fun h1 => ev_pos (by omega) ?_))) (fun h0 => ev_ite (fun h1 => ev_pos (by omega) (ev_pos (by omega) ?_)) (fun h1 => ev_pos (by omega) ?_))
      · exact key _ (by rw [wr (n := c + _) (by omega) (by omega), wr (by omega) (by omega)]) hg
      · exact key _ (by rw [wr (by omega) (by omega), rd_out (l := b) (by omega)]; omega) hg
      · exact key _ (by rw [wr (by omega) (by omega), rd_out (l := a) (by omega)]; omega) hg
      · exact key _ (by rw [rd_out (l := a) (by omega), rd_out (l := b) (by omega)]; omega) hg
    by_cases h0 : p.length < max a.length b.length ∨ c = 1
    · refine Ev.step (fun k => whetstoneref01_Add.l0.eq_2 _ _ _ _ _ _) (ev_ite (fun _ => j1 h0) (fun h1 => ev_ite (fun _ => j1 h0) (fun h2 => ?_)))
      rw [decide_eq_true (show c > 0 by omega)]
      exact j1 h0
    · have : c = 0 := by omega
      subst this
      exact fin p (by omega) (by omega) dp hv
theorem radd_ev {a b : List Int} (ha : a.length ≤ 10000000) (hb : b.length ≤ 10000000) (da : Dg 10 a) (db : Dg 10 b) : Ev (fun k => whetstoneref01_Add.f k a b) (cn 10 (vl 10 a + vl 10 b)) :=
  radd_l0 ha hb da db (max a.length b.length + 1) [] 0 (by simp) .nil (by omega) (fun h => by omega) (by simp [vl])
theorem times_step {P V A x n c : Int} (h : V + P * c = A * n) : V + P * ((c + x * n) % 10) + P * 10 * ((c + x * n) / 10) = (A + P * x) * n := by
  have := Int.emod_add_mul_ediv (c + x * n) 10
  grind
theorem times_l0 {a : List Int} {n : Int} (hn : 0 ≤ n ∧ n ≤ 10) (ha : a.length ≤ 10000000) (da : Dg 10 a) : ∀ (m : Nat) (p : List Int) (c : Int), p.length + m = a.length + 3 → Dg 10 p → 0 ≤ c ∧ c ≤ 10 → (m ≤ 2 → c ≤ 1) → (m ≤ 1 → c = 0) → vl 10 p + 10 ^ p.length * c = vl 10 (a.take p.length) * n → Ev (fun k => whetstoneref01_Times.l0 k a n p c (p.length : Int)) (cn 10 (vl 10 a * n)) := by
  have fin : ∀ (p : List Int), a.length ≤ p.length → p.length ≤ 10000004 → Dg 10 p → vl 10 p + 10 ^ p.length * 0 = vl 10 (a.take p.length) * n → Ev (fun k => whetstoneref01_Times.l0 k a n p 0 (p.length : Int)) (cn 10 (vl 10 a * n)) := by
    intro p h1 h2 dp hv
    refine Ev.step (fun k => whetstoneref01_Times.l0.eq_2 _ _ _ _ _ _) (ev_neg (by omega) ?_)
    refine Ev.step (fun k => whetstoneref01_Times.j1.eq_2 _ _ _ _ _ _ _) (ev_neg (by simp) (Ev.bind (ref_trim.cn (x := p) (by omega) dp) (ev_ret ?_)))
    rw [List.take_of_length_le (by omega)] at hv
    rw [← hv]; congr 1; omega
  intro m
  induction m with
  | zero =>
    intro p c hp dp hc _ hm hv
    have := hm (by omega)
    subst this
    exact fin p (by omega) (by omega) dp hv
  | succ m ih =>
    intro p c hp dp hc hm2 hm hv
    have hx := da.place (by omega) (p.length : Int)
    have hs := times_step (x := rd a p.length) hv
    rw [← vl_take_succ] at hs
    have hb0 := Int.mul_nonneg hx.1 hn.1
    have hb1 : rd a (p.length : Int) * n ≤ 90 := by
      have h1 := Int.mul_le_mul_of_nonneg_right (show rd a (p.length : Int) ≤ 9 by omega) hn.1
      omega
    have key : ∀ z, z = c + rd a (p.length : Int) * n → Ev (fun k => whetstoneref01_Times.l0 k a n (p ++ [Int.tmod z 10]) (wrap64 (Int.tdiv z 10)) (wrap64 ((p.length : Int) + 1))) (cn 10 (vl 10 a * n)) := by
      intro z hz
      rw [← hz] at hs
      rw [tmod10 (by omega), tdiv10 (by omega), suc (by omega), wr (n := z / 10) (by omega) (by omega)]
      have hout : a.length ≤ p.length → z = c := by
        intro h
        rw [rd_out (l := a) h] at hz
        omega
      have := ih (p ++ [z % 10]) (z / 10) (by simp; omega) (dp.snoc (by omega) (by omega)) (by omega) (fun h => by have := hout (by omega); omega) (fun h => by have := hout (by omega); have := hm2 (by omega); omega) (by
        rw [vl_snoc, List.length_append, List.length_singleton, Int.pow_succ]; exact hs)
      rw [List.length_append, List.length_singleton] at this
      exact this
    have j1 : Ev (fun k => whetstoneref01_Times.j1 k a n p c (p.length : Int) true) (cn 10 (vl 10 a * n)) := by
      refine Ev.step (fun k => whetstoneref01_Times.j1.eq_2 _ _ _ _ _ _ _) (ev_pos rfl ?_)
      refine ev_ite (fun h0 => ev_pos (by omega) (ev_pos (by omega) ?_)) (fun h0 => ev_pos (by omega) ?_)
      · exact key _ (by rw [wr (n := rd a _ * n) (by omega) (by omega), wr (by omega) (by omega)])
      · exact key _ (by rw [rd_out (l := a) (by omega)]; omega)
    by_cases h0 : p.length < a.length ∨ 0 < c
    · refine Ev.step (fun k => whetstoneref01_Times.l0.eq_2 _ _ _ _ _ _) (ev_ite (fun _ => j1) (fun h1 => ?_))
      rw [decide_eq_true (show c > 0 by omega)]
      exact j1
    · have : c = 0 := by omega
      subst this
      exact fin p (by omega) (by omega) dp hv
theorem times_ev {a : List Int} {n : Int} (hn : 0 ≤ n ∧ n ≤ 10) (ha : a.length ≤ 10000000) (da : Dg 10 a) : Ev (fun k => whetstoneref01_Times.f k a n) (cn 10 (vl 10 a * n)) :=
  times_l0 hn ha da (a.length + 3) [] 0 (by simp) .nil (by omega) (fun h => by omega) (fun h => by omega) (by simp [vl])
/-- A number of no more than a million decimal digits. -/
def Fit (v : Int) : Prop := 0 ≤ v ∧ ∃ n : Nat, n ≤ 1000000 ∧ v < 10 ^ n
theorem Fit.len {v : Int} (h : Fit v) : (cn 10 v).length ≤ 1000000 := by
  obtain ⟨n, hn, h⟩ := h.2
  have := cn_length (B := 10) (by omega) h
  omega
theorem Fit.le {v w : Int} (h : Fit w) (h0 : 0 ≤ v) (hv : v ≤ w) : Fit v := by
  obtain ⟨n, hn, h⟩ := h.2
  exact ⟨h0, n, hn, by omega⟩
theorem D10 (v : Int) : Dg 10 (cn 10 v) := cn_Dg (by omega) v
theorem V10 {v : Int} (h : 0 ≤ v) : vl 10 (cn 10 v) = v := vl_cn (by omega) h
theorem rmul_l0 {a b : List Int} (ha : a.length ≤ 10000000) (hb : b.length ≤ 10000000) (da : Dg 10 a) (db : Dg 10 b) (hf : Fit (vl 10 a * vl 10 b)) : ∀ (i : Nat), i ≤ b.length → Ev (fun k => whetstoneref01_Mul.l0 k a b (cn 10 (vl 10 a * vl 10 (b.drop i))) ((i : Int) - 1)) (cn 10 (vl 10 a * vl 10 b))
  | 0, _ => Ev.step (fun k => whetstoneref01_Mul.l0.eq_2 _ _ _ _ _) (ev_neg (by omega) (ev_ret (by simp)))
  | i + 1, hi => by
    have hva := vl_nonneg (show (0 : Int) ≤ 10 by omega) da
    have f1 : ∀ j, Fit (vl 10 a * vl 10 (b.drop j)) := fun j => hf.le (Int.mul_nonneg hva (vl_nonneg (by omega) (db.drop j))) (Int.mul_le_mul_of_nonneg_left (vl_drop_le (by omega) db j) hva)
    have hd := db.place (by omega) (i : Int)
    have e1 := vl_drop (B := 10) (l := b) (i := i) (by omega)
    have hm := Int.mul_nonneg hva hd.1
    have e2 : vl 10 a * vl 10 (b.drop i) = vl 10 a * vl 10 (b.drop (i + 1)) * 10 + vl 10 a * rd b i := by rw [e1]; grind
    have hf1 := f1 (i + 1)
    have hf0 := f1 i
    have hft : Fit (vl 10 a * vl 10 (b.drop (i + 1)) * 10) := hf0.le (Int.mul_nonneg hf1.1 (by omega)) (by omega)
    have hfm : Fit (vl 10 a * rd b i) := hf0.le hm (by have := hft.1; omega)
    refine Ev.step (fun k => whetstoneref01_Mul.l0.eq_2 _ _ _ _ _) (ev_pos (by omega) (Ev.bind (times_ev (a := cn 10 (vl 10 a * vl 10 (b.drop (i + 1)))) (n := 10) (by omega) (by have := hf1.len; omega) (D10 _)) ?_))
    rw [show (((i + 1 : Nat) : Int) - 1) = (i : Int) by omega]
    refine ev_pos (by omega) (ev_pos (by omega) (Ev.bind (times_ev (a := a) (n := rd b i) (by omega) ha da) ?_))
    rw [V10 hf1.1, wr (by omega) (by omega)]
    refine Ev.bind (radd_ev (by have := hft.len; omega) (by have := hfm.len; omega) (D10 _) (D10 _)) ?_
    rw [V10 hft.1, V10 hfm.1, ← e2]
    exact rmul_l0 ha hb da db hf i (by omega)
theorem rmul_ev {a b : List Int} (ha : a.length ≤ 10000000) (hb : b.length ≤ 10000000) (da : Dg 10 a) (db : Dg 10 b) (hf : Fit (vl 10 a * vl 10 b)) : Ev (fun k => whetstoneref01_Mul.f k a b) (cn 10 (vl 10 a * vl 10 b)) := by
  have := rmul_l0 ha hb da db hf b.length (Nat.le_refl _)
  rw [List.drop_length, show vl 10 a * vl 10 [] = 0 by simp [vl], cn_zero (Int.le_refl _)] at this
  unfold whetstoneref01_Mul.f
  rw [wr (by omega) (by omega)]
  exact this
end Ref

/-! ### comparing, taking away, dividing -/
section Ref2
def cmpI (v w : Int) : Int := if v < w then -1 else if w < v then 1 else 0
theorem top_step {B : Int} (hB : 2 ≤ B) {P a b x y : Int} (hP : 0 < P) (h0 : 0 ≤ a) (h1 : a < P) (h2 : 0 ≤ b) (h3 : b < P) : (if x < y then -1 else if y < x then 1 else cmpI a b) = cmpI (a + P * x) (b + P * y) := by
  unfold cmpI
  rcases Int.lt_trichotomy x y with h | h | h
  · have := Int.mul_le_mul_of_nonneg_left (show x + 1 ≤ y by omega) (show 0 ≤ P by omega)
    rw [Int.mul_add, Int.mul_one] at this
    rw [if_pos h, if_pos (by omega)]
  · subst h
    rw [if_neg (Int.lt_irrefl x), if_neg (Int.lt_irrefl x)]
    by_cases h4 : a < b
    · rw [if_pos h4, if_pos (by omega)]
    · rw [if_neg h4, if_neg (show ¬ a + P * x < b + P * x by omega)]
      by_cases h5 : b < a
      · rw [if_pos h5, if_pos (by omega)]
      · rw [if_neg h5, if_neg (by omega)]
  · have := Int.mul_le_mul_of_nonneg_left (show y + 1 ≤ x by omega) (show 0 ≤ P by omega)
    rw [Int.mul_add, Int.mul_one] at this
    rw [if_neg (by omega), if_pos h, if_neg (by omega), if_pos (by omega)]
theorem top_take {B : Int} (hB : 2 ≤ B) {x y : List Int} (dx : Dg B x) (dy : Dg B y) (n : Nat) : (if rd x n < rd y n then -1 else if rd y n < rd x n then 1 else cmpI (vl B (x.take n)) (vl B (y.take n))) = cmpI (vl B (x.take (n + 1))) (vl B (y.take (n + 1))) := by
  have h1 := vl_lt (show 0 < B by omega) (dx.take n)
  have h2 := vl_lt (show 0 < B by omega) (dy.take n)
  have h3 := pow_le (show 1 ≤ B by omega) (show (x.take n).length ≤ n by simp; omega)
  have h4 := pow_le (show 1 ≤ B by omega) (show (y.take n).length ≤ n by simp; omega)
  rw [vl_take_succ, vl_take_succ, top_step hB (pow_pos' (show 0 < B by omega) n) (vl_nonneg (by omega) (dx.take n)) (by omega) (vl_nonneg (by omega) (dy.take n)) (by omega)]
theorem top_low {B : Int} (hB : 2 ≤ B) {l : List Int} (h : Dg B l) (ht : tr l = l) (hl : l ≠ []) : B ^ (l.length - 1) ≤ vl B l := by
  have hlen : 0 < l.length := List.length_pos_iff.2 hl
  have e : l = l.take (l.length - 1) ++ [rd l ((l.length - 1 : Nat) : Int)] := by
    have := takeS (l := l) (n := l.length - 1) (by omega)
    rwa [show l.length - 1 + 1 = l.length by omega, List.take_length] at this
  have hd := h.place (show 0 < B by omega) ((l.length - 1 : Nat) : Int)
  by_cases h0 : rd l ((l.length - 1 : Nat) : Int) = 0
  · exfalso
    rw [h0] at e
    rw [e, tr_snoc0] at ht
    have := tr_length (l.take (l.length - 1))
    rw [ht] at this
    simp at this
    omega
  · have h1 := vl_take_succ (B := B) l (l.length - 1)
    rw [show l.length - 1 + 1 = l.length by omega, List.take_length] at h1
    have h2 := vl_nonneg (show 0 ≤ B by omega) (h.take (l.length - 1))
    have h3 := Int.mul_le_mul_of_nonneg_left (show 1 ≤ rd l ((l.length - 1 : Nat) : Int) by omega) (show 0 ≤ B ^ (l.length - 1) by have := pow_pos' (show 0 < B by omega) (l.length - 1); omega)
    omega
theorem shorter {B : Int} (hB : 2 ≤ B) {x y : List Int} (dx : Dg B x) (dy : Dg B y) (ty : tr y = y) (h : x.length < y.length) : vl B x < vl B y := by
  have h1 := vl_lt (show 0 < B by omega) dx
  have h2 := top_low hB dy ty (by intro e; rw [e] at h; simp at h)
  have h3 := pow_le (show 1 ≤ B by omega) (show x.length ≤ y.length - 1 by omega)
  omega
theorem nat_Cmp.g_ev {B : Int} (hB : 2 ≤ B) {x y : List Int} (dx : Dg B x) (dy : Dg B y) : ∀ n, nat_Cmp.g n x y = cmpI (vl B (x.take n)) (vl B (y.take n))
  | 0 => rfl
  | n + 1 => by
    unfold nat_Cmp.g
    rw [nat_Cmp.g_ev hB dx dy n, ← rd_nat, ← rd_nat]
    exact top_take hB dx dy n
theorem cmp_len {B : Int} (hB : 2 ≤ B) {x y : List Int} (dx : Dg B x) (dy : Dg B y) (tx : tr x = x) (ty : tr y = y) : (if x.length < y.length then -1 else if y.length < x.length then 1 else nat_Cmp.g x.length x y) = cmpI (vl B x) (vl B y) := by
  rcases Nat.lt_trichotomy x.length y.length with h | h | h
  · rw [if_pos h]; unfold cmpI; rw [if_pos (shorter hB dx dy ty h)]
  · rw [if_neg (by omega), if_neg (by omega), nat_Cmp.g_ev hB dx dy, List.take_of_length_le (by omega), List.take_of_length_le (by omega)]
  · have := shorter hB dy dx tx h
    rw [if_neg (by omega), if_pos h]; unfold cmpI; rw [if_neg (by omega), if_pos this]
theorem nat_Cmp.ev {B : Int} (hB : 2 ≤ B) {x y : List Int} (hx : x.length ≤ 10000000) (hy : y.length ≤ 10000000) (dx : Dg B x) (dy : Dg B y) : Ev (fun k => nat_Cmp.f k x y) (cmpI (vl B x) (vl B y)) := by
  refine Ev.bind (nat_trim.ev (by omega)) (Ev.bind (nat_trim.ev (by omega)) (ev_ret ?_))
  rw [cmp_len hB (tr_Dg dx) (tr_Dg dy) (tr_tr x) (tr_tr y), tr_vl, tr_vl]
theorem rcmp_l0 {x y : List Int} (hl : x.length = y.length) (hx : x.length ≤ 100000000) : ∀ n, n ≤ x.length → Ev (fun k => whetstoneref01_Cmp.l0 k x y ((n : Int) - 1)) (nat_Cmp.g n x y)
  | 0, _ => Ev.step (fun k => whetstoneref01_Cmp.l0.eq_2 _ _ _ _) (ev_neg (by omega) (ev_ret rfl))
  | n + 1, h => by
    refine Ev.step (fun k => whetstoneref01_Cmp.l0.eq_2 _ _ _ _) ?_
    rw [show (((n + 1 : Nat) : Int) - 1) = (n : Int) by omega]
    refine ev_pos (by omega) (ev_pos (by omega) (ev_pos (by omega) (ev_pos (by omega) (ev_ite (fun h0 => ?_) (fun h0 => ev_ite (fun h1 => ?_) (fun h1 => ?_))))))
    · refine ev_ret ?_
      unfold nat_Cmp.g; rw [← rd_nat, ← rd_nat, if_pos h0]
    · refine ev_ret ?_
      unfold nat_Cmp.g; rw [← rd_nat, ← rd_nat, if_neg h0, if_pos h1]
    · unfold nat_Cmp.g
      rw [← rd_nat, ← rd_nat, if_neg h0, if_neg h1, wr (by omega) (by omega)]
      exact rcmp_l0 hl hx n (by omega)
theorem rcmp_ev {x y : List Int} (hx : x.length ≤ 10000000) (hy : y.length ≤ 10000000) (dx : Dg 10 x) (dy : Dg 10 y) : Ev (fun k => whetstoneref01_Cmp.f k x y) (cmpI (vl 10 x) (vl 10 y)) := by
  have e := cmp_len (by omega) (tr_Dg dx) (tr_Dg dy) (tr_tr x) (tr_tr y)
  rw [tr_vl, tr_vl] at e
  have l1 := tr_length x
  have l2 := tr_length y
  refine Ev.bind (ref_trim.ev (x := x) (by omega)) (Ev.bind (ref_trim.ev (x := y) (by omega)) ?_)
  refine ev_ite (fun h => ?_) (fun h => ev_ite (fun h1 => ev_ret ?_) (fun h1 => ev_ret ?_))
  · rw [if_neg (by omega), if_neg (by omega)] at e
    rw [wr (by omega) (by omega), ← e]
    exact rcmp_l0 (by omega) (by omega) _ (Nat.le_refl _)
  · rw [← e, if_pos (by omega)]
  · rw [← e, if_neg (by omega), if_pos (by omega)]
/-- What is taken away from a greater number has no more places that count. -/
theorem take_less {B : Int} (hB : 2 ≤ B) {a b : List Int} (da : Dg B a) (db : Dg B b) (h : vl B b ≤ vl B a) : vl B (b.take a.length) = vl B b := by
  have h1 := vl_split (B := B) a.length b
  have h2 := vl_lt (show 0 < B by omega) da
  have h3 := vl_nonneg (show 0 ≤ B by omega) (db.take a.length)
  have h4 := vl_nonneg (show 0 ≤ B by omega) (db.drop a.length)
  have hP := pow_pos' (show 0 < B by omega) a.length
  rcases (show vl B (b.drop a.length) = 0 ∨ 1 ≤ vl B (b.drop a.length) by omega) with h5 | h5
  · rw [h5] at h1; omega
  · have := Int.mul_le_mul_of_nonneg_left h5 (show 0 ≤ B ^ a.length by omega); omega
theorem sub_step {B P V A b x y c q d : Int} (h : V - P * c = A - b) (e : q - B * d = x - y - c) : V + P * q - P * B * d = (A + P * x) - (b + P * y) := by grind
theorem sub_end {B : Int} (hB : 2 ≤ B) {p : List Int} {c v : Int} (dp : Dg B p) (hc : 0 ≤ c ∧ c ≤ 1) (hv : vl B p - B ^ p.length * c = v) (h0 : 0 ≤ v) : vl B p = v := by
  have h1 := vl_lt (show 0 < B by omega) dp
  rcases (show c = 0 ∨ c = 1 by omega) with rfl | rfl
  · omega
  · omega
theorem rsub_l0 {a b : List Int} (ha : a.length ≤ 10000000) (hb : b.length ≤ 10000000) (da : Dg 10 a) (db : Dg 10 b) (hle : vl 10 b ≤ vl 10 a) : ∀ (m : Nat) (p : List Int) (c : Int), p.length + m = a.length → Dg 10 p → 0 ≤ c ∧ c ≤ 1 → vl 10 p - 10 ^ p.length * c = vl 10 (a.take p.length) - vl 10 (b.take p.length) → Ev (fun k => whetstoneref01_Sub.l0 k a b p c (p.length : Int)) (cn 10 (vl 10 a - vl 10 b))
  | 0, p, c, hp, dp, hc, hv => by
    refine Ev.step (fun k => whetstoneref01_Sub.l0.eq_2 _ _ _ _ _ _) (ev_neg (by omega) (Ev.bind (ref_trim.cn (x := p) (by omega) dp) (ev_ret ?_)))
    rw [List.take_of_length_le (show a.length ≤ p.length by omega), show p.length = a.length by omega, take_less (by omega) da db hle, show a.length = p.length by omega] at hv
    rw [sub_end (by omega) dp hc hv (by omega)]
  | m + 1, p, c, hp, dp, hc, hv => by
    have hx := da.place (by omega) (p.length : Int)
    have hy := db.place (by omega) (p.length : Int)
    have key : ∀ q d, q - 10 * d = rd a (p.length : Int) - rd b (p.length : Int) - c → 0 ≤ q ∧ q < 10 → 0 ≤ d ∧ d ≤ 1 → Ev (fun k => whetstoneref01_Sub.l0 k a b (p ++ [q]) d (wrap64 ((p.length : Int) + 1))) (cn 10 (vl 10 a - vl 10 b)) := by
      intro q d e hq hd
      have hs := sub_step (B := 10) hv e
      rw [← vl_take_succ, ← vl_take_succ] at hs
      rw [suc (by omega)]
      have := rsub_l0 ha hb da db hle m (p ++ [q]) d (by simp; omega) (dp.snoc (by omega) (by omega)) hd (by
        rw [vl_snoc, List.length_append, List.length_singleton, Int.pow_succ]; exact hs)
      rw [List.length_append, List.length_singleton] at this
      exact this
    have w1 : wrap64 (rd a (p.length : Int) - c) = rd a (p.length : Int) - c := wr (by omega) (by omega)
    refine Ev.step (fun k => whetstoneref01_Sub.l0.eq_2 _ _ _ _ _ _) (ev_pos (by omega) (ev_pos (by omega) ?_))
    rw [w1]
    refine ev_ite (fun h0 => ?_) (fun h0 => ?_)
    · rw [show wrap64 (rd a (p.length : Int) - c - rd b (p.length : Int)) = rd a (p.length : Int) - c - rd b (p.length : Int) from wr (by omega) (by omega)]
      refine ev_ite (fun h1 => ev_pos (by omega) ?_) (fun h1 => ev_pos (by omega) ?_)
      · rw [wr (n := _ + 10) (by omega) (by omega)]; exact key _ 1 (by omega) (by omega) (by omega)
      · exact key _ 0 (by omega) (by omega) (by omega)
    · have e := rd_out (l := b) (i := p.length) (by omega)
      refine ev_ite (fun h1 => ev_pos (by omega) ?_) (fun h1 => ev_pos (by omega) ?_)
      · rw [wr (n := _ + 10) (by omega) (by omega)]; exact key _ 1 (by omega) (by omega) (by omega)
      · exact key _ 0 (by omega) (by omega) (by omega)
theorem rsub_ev {a b : List Int} (ha : a.length ≤ 10000000) (hb : b.length ≤ 10000000) (da : Dg 10 a) (db : Dg 10 b) (hle : vl 10 b ≤ vl 10 a) : Ev (fun k => whetstoneref01_Sub.f k a b) (cn 10 (vl 10 a - vl 10 b)) :=
  rsub_l0 ha hb da db hle a.length [] 0 (by simp) .nil (by omega) (by simp [vl])
/-- How many places a quotient's limb has: subtracting as often as it goes. -/
theorem rdiv_l1 {a b : List Int} (ha : a.length ≤ 1000000) (hb : b.length ≤ 1000000) (db : Dg 10 b) (hv : 0 < vl 10 b) {i : Nat} {qs : List Int} (hi : i + 1 + qs.length ≤ 1000000) {r : Int} (K : Int → Int → Prop)
    (next : ∀ c r', 0 ≤ c → 0 ≤ r' → r' < vl 10 b → r = c * vl 10 b + r' → Ev (fun k => whetstoneref01_DivMod.l0 k a b ((List.replicate i 0 ++ [c]) ++ qs) (cn 10 r') ((i : Int) - 1)) (cn 10 (vl 10 a / vl 10 b), cn 10 (vl 10 a % vl 10 b))) :
    ∀ (m : Nat) (c r' : Int), r'.toNat ≤ m → 0 ≤ c → c + m ≤ 1000 + r.toNat → 0 ≤ r' → r = c * vl 10 b + r' → c ≤ 1000 → r' < 10 * vl 10 b → c + 10 ≤ 30 → c * vl 10 b ≤ r → r < 10 * vl 10 b → Ev (fun k => whetstoneref01_DivMod.l1 k a b ((List.replicate i 0 ++ [c]) ++ qs) (cn 10 r') (i : Int)) (cn 10 (vl 10 a / vl 10 b), cn 10 (vl 10 a % vl 10 b)) := by
  have lr : ∀ r', 0 ≤ r' → r' < 10 * vl 10 b → (cn 10 r').length ≤ 1000001 := by
    intro r' h0 h
    refine cn_length (by omega) ?_
    have h1 := vl_lt (show (0 : Int) < 10 by omega) db
    have h2 := pow_le (show (1 : Int) ≤ 10 by omega) hb
    rw [Int.pow_succ]
    omega
  intro m
  induction m with
  | zero =>
    intro c r' h h0 _ h1 e _ h2 _ _ _
    refine Ev.step (fun k => whetstoneref01_DivMod.l1.eq_2 _ _ _ _ _ _) (Ev.bind (rcmp_ev (by have := lr r' h1 h2; omega) (by omega) (D10 _) db) ?_)
    rw [V10 h1, show cmpI r' (vl 10 b) = -1 by unfold cmpI; rw [if_pos (by omega)]]
    refine ev_neg (by omega) ?_
    rw [wr (by omega) (by omega)]
    exact next c r' h0 h1 (by omega) e
  | succ m ih =>
    intro c r' h h0 hcm h1 e hc1 h2 hc2 hcr hr
    refine Ev.step (fun k => whetstoneref01_DivMod.l1.eq_2 _ _ _ _ _ _) (Ev.bind (rcmp_ev (by have := lr r' h1 h2; omega) (by omega) (D10 _) db) ?_)
    rw [V10 h1]
    by_cases hlt : r' < vl 10 b
    · rw [show cmpI r' (vl 10 b) = -1 by unfold cmpI; rw [if_pos (by omega)]]
      refine ev_neg (by omega) ?_
      rw [wr (by omega) (by omega)]
      exact next c r' h0 h1 (by omega) e
    · have hc9 : c ≤ 8 := by
        rcases (show c ≤ 8 ∨ 9 ≤ c by omega) with h | h
        · exact h
        · have := Int.mul_le_mul_of_nonneg_right h (show 0 ≤ vl 10 b by omega); omega
      refine ev_pos (by unfold cmpI; split <;> (try split) <;> omega) ?_
      refine Ev.bind (rsub_ev (by have := lr r' h1 h2; omega) (by omega) (D10 _) db (by rw [V10 h1]; omega)) ?_
      rw [V10 h1]
      have erd : rd ((List.replicate i 0 ++ [c]) ++ qs) (i : Int) = c := by
        rw [rd_nat, List.append_assoc, List.getElem?_append_right (by simp)]
        simp
      refine ev_pos (by omega) (ev_pos (by simp; omega) ?_)
      rw [erd, natT, wr (by omega) (by omega), show ((List.replicate i (0 : Int) ++ [c]) ++ qs).set i (c + 1) = (List.replicate i 0 ++ [c + 1]) ++ qs by
        rw [List.append_assoc, List.append_assoc, List.set_append_right _ _ (by simp)]; simp]
      exact ih (c + 1) (r' - vl 10 b) (by omega) (by omega) (by omega) (by omega) (by rw [Int.add_mul, Int.one_mul]; omega) (by omega) (by omega) (by omega) (by rw [Int.add_mul, Int.one_mul]; omega) hr
theorem rdiv_l0 {a b : List Int} (ha : a.length ≤ 1000000) (hb : b.length ≤ 1000000) (da : Dg 10 a) (db : Dg 10 b) (hv : 0 < vl 10 b) : ∀ (i : Nat) (qs : List Int) (r : Int), i + qs.length = a.length → Dg 10 qs → 0 ≤ r → r < vl 10 b → vl 10 (a.drop i) = vl 10 qs * vl 10 b + r → Ev (fun k => whetstoneref01_DivMod.l0 k a b (List.replicate i 0 ++ qs) (cn 10 r) ((i : Int) - 1)) (cn 10 (vl 10 a / vl 10 b), cn 10 (vl 10 a % vl 10 b))
  | 0, qs, r, hi, dq, h0, h1, hd => by
    refine Ev.step (fun k => whetstoneref01_DivMod.l0.eq_2 _ _ _ _ _ _) (ev_neg (by omega) (Ev.bind (ref_trim.cn (x := [] ++ qs) (by simp; omega) dq) (ev_ret ?_)))
    rw [List.drop_zero] at hd
    have e1 : vl 10 a / vl 10 b = vl 10 qs := by
      rw [hd, Int.mul_comm, Int.add_comm, Int.add_mul_ediv_left _ _ (by omega), Int.ediv_eq_zero_of_lt h0 h1]; omega
    have e2 : vl 10 a % vl 10 b = r := by
      rw [hd, Int.mul_comm, Int.add_comm, Int.add_mul_emod_self_left, Int.emod_eq_of_lt h0 h1]
    rw [e1, e2]; rfl
  | i + 1, qs, r, hi, dq, h0, h1, hd => by
    have hx := da.place (by omega) (i : Int)
    have hbn := vl_lt (show (0 : Int) < 10 by omega) db
    have hbp := pow_le (show (1 : Int) ≤ 10 by omega) hb
    have lr : (cn 10 r).length ≤ 1000000 := cn_length (by omega) (by omega)
    have lr10 : (cn 10 (r * 10)).length ≤ 1000001 := cn_length (by omega) (by rw [Int.pow_succ]; omega)
    have lx : (cn 10 (rd a i)).length ≤ 1 := cn_length (by omega) (by omega)
    refine Ev.step (fun k => whetstoneref01_DivMod.l0.eq_2 _ _ _ _ _ _) (ev_pos (by omega) (Ev.bind (times_ev (a := cn 10 r) (n := 10) (by omega) (by omega) (D10 _)) ?_))
    rw [show (((i + 1 : Nat) : Int) - 1) = (i : Int) by omega, V10 h0]
    refine ev_pos (by omega) (ev_pos (by omega) ?_)
    rw [u64id (by omega) (by omega)]
    refine Ev.bind (small_ev (by omega) (by omega)) (Ev.bind (radd_ev (by omega) (by omega) (D10 _) (D10 _)) ?_)
    rw [V10 (by omega), V10 (by omega)]
    have := rdiv_l1 (a := a) ha hb db hv (i := i) (qs := qs) (by omega) (r := r * 10 + rd a i) (fun _ _ => True) (fun c r' c0 r0 r1 e => by
      rw [List.append_assoc]
      have c9 : c ≤ 9 := by
        rcases (show c ≤ 9 ∨ 10 ≤ c by omega) with h | h
        · exact h
        · have := Int.mul_le_mul_of_nonneg_right h (show 0 ≤ vl 10 b by omega); omega
      refine rdiv_l0 ha hb da db hv i ([c] ++ qs) r' (by simp; omega) (Dg.app (.one c0 (by omega)) dq) r0 r1 ?_
      rw [vl_drop (by omega), hd, vl_app, vl_one]
      simp only [List.length_singleton]
      generalize vl 10 b = vb at *
      generalize vl 10 qs = vq at *
      generalize rd a i = x at *
      grind) (r * 10 + rd a i).toNat 0 (r * 10 + rd a i) (Nat.le_refl _) (by omega) (by omega) (by omega) (by omega) (by omega) (by omega) (by omega) (by omega) (by omega)
    rw [show List.replicate (i + 1) 0 ++ qs = (List.replicate i 0 ++ [0]) ++ qs by rw [List.replicate_succ']]
    exact this
theorem rdiv_ev {a b : List Int} (ha : a.length ≤ 1000000) (hb : b.length ≤ 1000000) (da : Dg 10 a) (db : Dg 10 b) (hv : 0 < vl 10 b) : Ev (fun k => whetstoneref01_DivMod.f k a b) (cn 10 (vl 10 a / vl 10 b), cn 10 (vl 10 a % vl 10 b)) := by
  have := rdiv_l0 ha hb da db hv a.length [] 0 (by simp) .nil (by omega) hv (by rw [List.drop_length]; simp [vl])
  rw [List.append_nil, cn_zero (Int.le_refl _)] at this
  refine ev_pos (by omega) ?_
  rw [natT, wr (by omega) (by omega)]
  exact ev_pos (by omega) this
end Ref2

/-! ### limbs and digits -/
section Ref3
theorem number_l0 {a : List Int} (da : Dg 10 a) (ha : a.length ≤ 1000000) (hv : vl 10 a < 18446744073709551616) : ∀ i : Nat, i ≤ a.length → Ev (fun k => whetstoneref01_Number.l0 k a (vl 10 (a.drop i)) ((i : Int) - 1)) (vl 10 a)
  | 0, _ => Ev.step (fun k => whetstoneref01_Number.l0.eq_2 _ _ _ _) (ev_neg (by omega) (ev_ret rfl))
  | i + 1, h => by
    have hx := da.place (by omega) (i : Int)
    have e := vl_drop (B := 10) (l := a) (i := i) (by omega)
    have h0 := vl_nonneg (show (0 : Int) ≤ 10 by omega) (da.drop (i + 1))
    have h1 := vl_drop_le (show (1 : Int) ≤ 10 by omega) da i
    refine Ev.step (fun k => whetstoneref01_Number.l0.eq_2 _ _ _ _) ?_
    rw [show (((i + 1 : Nat) : Int) - 1) = (i : Int) by omega]
    refine ev_pos (by omega) (ev_pos (by omega) (ev_pos (by omega) ?_))
    rw [u64id (x := rd a i) (by omega) (by omega), u64id (x := _ * 10) (by omega) (by omega), u64id (x := _ + rd a i) (by omega) (by omega), wr (by omega) (by omega), show vl 10 (a.drop (i + 1)) * 10 + rd a i = vl 10 (a.drop i) by omega]
    exact number_l0 da ha hv i (by omega)
theorem number_ev {v : Int} (h0 : 0 ≤ v) (h1 : v < 18446744073709551616) : Ev (fun k => whetstoneref01_Number.f k (cn 10 v)) v := by
  have hl : (cn 10 v).length ≤ 20 := cn_length (by omega) (Int.lt_of_lt_of_le h1 (by decide))
  have := number_l0 (D10 v) (by omega) (by rw [V10 h0]; exact h1) (cn 10 v).length (Nat.le_refl _)
  rw [List.drop_length, V10 h0] at this
  unfold whetstoneref01_Number.f
  rw [wr (by omega) (by omega)]
  exact this
theorem pow_fit {B : Int} (hB : B = 4294967296) (n : Nat) : B ^ n ≤ 10 ^ (10 * n) := by
  induction n with
  | zero => simp
  | succ n ih =>
    rw [Nat.mul_add, Int.pow_succ, Int.pow_add]
    have h1 := pow_pos' (show 0 < B by omega) n
    have h2 := pow_pos' (show (0 : Int) < 10 by omega) (10 * n)
    have h3 := Int.mul_le_mul_of_nonneg_left (show B ≤ 10 ^ (10 * 1) by rw [hB]; decide) (show 0 ≤ B ^ n by omega)
    have h4 := Int.mul_le_mul_of_nonneg_right ih (show (0 : Int) ≤ 10 ^ (10 * 1) by decide)
    omega
theorem Sm.fit {B : Int} (hB : B = 4294967296) {n : Nat} {v : Int} (h : Sm B n v) (hn : n ≤ 100000) : Fit v := ⟨h.1, 10 * n, by omega, by have := pow_fit hB n; have := h.2; omega⟩
theorem limb10 : Ev (fun k => whetstoneref01_Small.f k 4294967296) (cn 10 4294967296) := small_ev (by omega) (by omega)
theorem len10 : (cn 10 4294967296).length ≤ 10 := cn_length (by omega) (by decide)
theorem from_l0 {B : Int} (hB : B = 4294967296) {l : List Int} (hl : l.length ≤ 50000) (dl : Dg B l) : ∀ i : Nat, i ≤ l.length → Ev (fun k => whetstoneref01_From.l0 k l (cn 10 (vl B (l.drop i))) (cn 10 4294967296) ((i : Int) - 1)) (cn 10 (vl B l))
  | 0, _ => Ev.step (fun k => whetstoneref01_From.l0.eq_2 _ _ _ _ _) (ev_neg (by omega) (ev_ret rfl))
  | i + 1, h => by
    have hx := dl.place (show 0 < B by omega) (i : Int)
    have e := vl_drop (B := B) (l := l) (i := i) (by omega)
    have s1 := Sm.of (show 2 ≤ B by omega) (dl.drop (i + 1)) (n := l.length) (by rw [List.length_drop]; omega)
    have s0 := Sm.of (show 2 ≤ B by omega) (dl.drop i) (n := l.length) (by rw [List.length_drop]; omega)
    have f1 : Fit (vl B (l.drop (i + 1)) * 4294967296) := (s0.fit hB (by omega)).le (Int.mul_nonneg s1.1 (by omega)) (by rw [e, hB]; omega)
    have lx : (cn 10 (rd l i)).length ≤ 10 := cn_length (by omega) (by have : (10 : Int) ^ 10 = 10000000000 := by decide
                                                                       omega)
    refine Ev.step (fun k => whetstoneref01_From.l0.eq_2 _ _ _ _ _) ?_
    rw [show (((i + 1 : Nat) : Int) - 1) = (i : Int) by omega]
    have hm := rmul_ev (a := cn 10 (vl B (l.drop (i + 1)))) (b := cn 10 4294967296) (by have := (s1.fit hB (by omega)).len; omega) (by have := len10; omega) (D10 _) (D10 _) (by rw [V10 s1.1, V10 (by omega)]; exact f1)
    rw [V10 s1.1, V10 (by omega)] at hm
    refine ev_pos (by omega) (Ev.bind hm (ev_pos (by omega) (ev_pos (by omega) ?_)))
    rw [u64id (by omega) (by omega)]
    refine Ev.bind (small_ev (by omega) (by omega)) (Ev.bind (radd_ev (by have := f1.len; omega) (by omega) (D10 _) (D10 _)) ?_)
    rw [V10 f1.1, V10 (by omega), wr (by omega) (by omega), show vl B (l.drop (i + 1)) * 4294967296 + rd l i = vl B (l.drop i) by rw [e, hB]; omega]
    exact from_l0 hB hl dl i (by omega)
theorem from_ev {B : Int} (hB : B = 4294967296) {l : List Int} (hl : l.length ≤ 50000) (dl : Dg B l) : Ev (fun k => whetstoneref01_From.f k l) (cn 10 (vl B l)) := by
  refine Ev.bind limb10 ?_
  have := from_l0 hB hl dl l.length (Nat.le_refl _)
  rw [List.drop_length, show vl B [] = 0 from rfl, cn_zero (Int.le_refl _)] at this
  rw [wr (by omega) (by omega)]
  exact this
theorem limbs_l0 {B : Int} (hB : B = 4294967296) : ∀ (n : Nat) (v : Int) (acc : List Int), n ≤ 100000 → Sm B n v → acc.length + n ≤ 1000000 → Ev (fun k => whetstoneref01_Limbs.l0 k acc (cn 10 v) (cn 10 4294967296)) (acc ++ cn B v) := by
  have zero : ∀ (v : Int) (acc : List Int), v = 0 → Ev (fun k => whetstoneref01_Limbs.l0 k acc (cn 10 v) (cn 10 4294967296)) (acc ++ cn B v) := by
    intro v acc h
    subst h
    rw [cn_zero (Int.le_refl _), cn_zero (Int.le_refl _), List.append_nil]
    exact Ev.step (fun k => whetstoneref01_Limbs.l0.eq_2 _ _ _ _) (ev_neg (by simp) (ev_ret rfl))
  intro n
  induction n with
  | zero =>
    intro v acc _ h hl
    exact zero v acc (by have := h.1; have := h.2; simp at *; omega)
  | succ n ih =>
    intro v acc hn h hl
    by_cases h0 : v = 0
    · exact zero v acc h0
    · have hv0 := h.1
      have hp : 0 < (cn 10 v).length := List.length_pos_iff.2 (cn_nil (by omega) (by omega))
      have hfit := (h.fit hB hn).len
      have hd := rdiv_ev (a := cn 10 v) (b := cn 10 4294967296) hfit (by have := len10; omega) (D10 _) (D10 _) (by rw [V10 (by omega)]; omega)
      rw [V10 hv0, V10 (by omega)] at hd
      refine Ev.step (fun k => whetstoneref01_Limbs.l0.eq_2 _ _ _ _) (ev_pos (by omega) (Ev.bind hd (Ev.bind (number_ev (by omega) (by omega)) (ev_pos (by omega) ?_))))
      have := ih (v / 4294967296) (acc ++ [v % 4294967296 % 4294967296]) (by omega) ⟨by omega, Int.ediv_lt_of_lt_mul (by omega) (by have := h.2; rw [Int.pow_succ, hB] at this; rw [hB]; exact this)⟩ (by simp; omega)
      rw [cn_cons (B := B) (by omega) (show 0 < v by omega)]
      have em : v % 4294967296 % 4294967296 = v % B := by rw [hB]; omega
      rw [List.append_assoc, em, ← hB] at this
      rw [hB] at *
      have em2 : v % 4294967296 % 4294967296 = v % 4294967296 := by omega
      rw [em2]
      exact this
theorem limbs_ev {B : Int} (hB : B = 4294967296) {n : Nat} {v : Int} (h : Sm B n v) (hn : n ≤ 100000) : Ev (fun k => whetstoneref01_Limbs.f k (cn 10 v)) (cn B v) := by
  have hf := (h.fit hB hn).len
  have h1 := ref_trim.cn (x := cn 10 v) (by omega) (D10 _)
  rw [V10 h.1] at h1
  exact Ev.bind h1 (Ev.bind limb10 (limbs_l0 hB n v [] hn h (by simp; omega)))
end Ref3

/-! ### bits of a limb -/
section Bits32
theorem b32 (v : BitVec 32) : IntKind.u32.wrap (v.toNat : Int) = v.toNat := by rw [IntKind.wrap_u32]; have := v.isLt; omega
theorem b64 (v : BitVec 64) : IntKind.u64.wrap (v.toNat : Int) = v.toNat := by rw [IntKind.wrap_u64]; have := v.isLt; omega
theorem and64 (x y : Int) : Go.bits .and .u64 x y = ((BitVec.ofInt 64 x &&& BitVec.ofInt 64 y).toNat : Int) := b64 _
theorem or64 (x y : Int) : Go.bits .or .u64 x y = ((BitVec.ofInt 64 x ||| BitVec.ofInt 64 y).toNat : Int) := b64 _
theorem ofN64 {x : Int} (h : 0 ≤ x) (h' : x < 18446744073709551616) : ((BitVec.ofInt 64 x).toNat : Int) = x := by
  rw [BitVec.toNat_ofInt]; omega
/-- A limb behind another one: the two as one number. -/
theorem join64 {x y : Int} (hx : 0 ≤ x ∧ x < 4294967296) (hy : 0 ≤ y ∧ y < 4294967296) : Go.bits .or .u64 (IntKind.u64.wrap (x * 4294967296)) y = x * 4294967296 + y := by
  rw [or64, IntKind.wrap_u64]
  have e1 : x * 4294967296 % 18446744073709551616 = x * 4294967296 := by omega
  rw [e1, BitVec.toNat_or]
  have h1 := ofN64 (x := x * 4294967296) (by omega) (by omega)
  have h2 := ofN64 (x := y) (by omega) (by omega)
  have h3 : (BitVec.ofInt 64 (x * 4294967296)).toNat = 2 ^ 32 * x.toNat := by omega
  have h4 : (BitVec.ofInt 64 y).toNat = y.toNat := by omega
  rw [h3, h4, ← Nat.two_pow_add_eq_or_of_lt (show y.toNat < 2 ^ 32 by omega)]
  omega
theorem low32 {x : Int} (hx : 0 ≤ x ∧ x < 18446744073709551616) : Go.bits .and .u64 x 4294967295 = x % 4294967296 := by
  rw [and64, BitVec.toNat_and]
  have h1 := ofN64 (x := x) hx.1 hx.2
  have h2 : (BitVec.ofInt 64 4294967295).toNat = 2 ^ 32 - 1 := by decide
  rw [h2, Nat.and_two_pow_sub_one_eq_mod]
  omega
end Bits32

/-! ### limbs: dividing by one limb, shifting -/
section NatShort
theorem short_run {B : Int} (hB : B = 4294967296) {l : List Int} {d : Int} (dl : Dg B l) (hd : 0 < d ∧ d < B) : ∀ k, k ≤ l.length → ∃ qs, (nat_short.run l d k).1 = List.replicate (l.length - k) 0 ++ qs ∧ qs.length = k ∧ Dg B qs ∧ 0 ≤ (nat_short.run l d k).2 ∧ (nat_short.run l d k).2 < d ∧ vl B qs * d + (nat_short.run l d k).2 = vl B (l.drop (l.length - k))
  | 0, _ => ⟨[], by simp [nat_short.run], rfl, .nil, by simp [nat_short.run], by simp [nat_short.run]; omega, by simp [nat_short.run, vl]⟩
  | k + 1, h => by
    obtain ⟨qs, h1, h2, h3, h4, h5, h6⟩ := short_run hB dl hd k (by omega)
    have hx := dl.place (show 0 < B by omega) ((l.length - 1 - k : Nat) : Int)
    have e1 : l[l.length - 1 - k]?.getD 0 = rd l ((l.length - 1 - k : Nat) : Int) := rd_nat.symm
    have e2 := vl_drop (B := B) (l := l) (i := l.length - 1 - k) (by omega)
    rw [show l.length - 1 - k + 1 = l.length - k by omega] at e2
    unfold nat_short.run
    rw [e1]
    generalize (nat_short.run l d k).2 = r at *
    generalize rd l ((l.length - 1 - k : Nat) : Int) = x at *
    have et : nat_short.t d r x = r * 4294967296 + x := by
      unfold nat_short.t
      rw [u64id (x := x) (by omega) (by omega)]
      exact join64 (by omega) (by omega)
    have hlt : r * 4294967296 + x < d * 4294967296 := by omega
    have hq0 : 0 ≤ (r * 4294967296 + x) / d := Int.ediv_nonneg (by omega) (by omega)
    have hq1 : (r * 4294967296 + x) / d < 4294967296 := Int.ediv_lt_of_lt_mul hd.1 (by omega)
    have hm := Int.emod_add_mul_ediv (r * 4294967296 + x) d
    have hm0 := Int.emod_nonneg (r * 4294967296 + x) (show d ≠ 0 by omega)
    have hm1 := Int.emod_lt_of_pos (r * 4294967296 + x) hd.1
    rw [et, u64id (x := d) (by omega) (by omega), tdiv10 (x := r * 4294967296 + x) (by omega), tmod10 (x := r * 4294967296 + x) (by omega), u64id (x := (r * 4294967296 + x) / d) hq0 (by omega), show IntKind.u32.wrap ((r * 4294967296 + x) / d) = (r * 4294967296 + x) / d by rw [IntKind.wrap_u32]; omega]
    refine ⟨(r * 4294967296 + x) / d :: qs, ?_, by simp [h2], ?_, hm0, hm1, ?_⟩
    · dsimp only
      rw [h1, show l.length - k = (l.length - (k + 1)) + 1 by omega, List.replicate_succ', List.append_assoc, List.set_append_right _ _ (by simp; omega)]
      simp only [List.length_replicate]
      rw [show l.length - 1 - k - (l.length - (k + 1)) = 0 by omega]
      rfl
    · intro y hy
      rcases List.mem_cons.1 hy with rfl | hy
      · exact ⟨hq0, by omega⟩
      · exact h3 y hy
    · dsimp only
      rw [vl_cons, show l.length - (k + 1) = l.length - 1 - k by omega, e2, ← h6]
      generalize (r * 4294967296 + x) / d = q at *
      generalize (r * 4294967296 + x) % d = m at *
      generalize vl B qs = vq at *
      rw [hB]
      grind
theorem nat_short.ev {B : Int} (hB : B = 4294967296) {l : List Int} {d : Int} (hl : l.length ≤ 1000000) (dl : Dg B l) (hd : 0 < d ∧ d < B) : Ev (fun k => nat_short.f k l d) (cn B (vl B l / d), vl B l % d) := by
  obtain ⟨qs, h1, h2, h3, h4, h5, h6⟩ := short_run hB dl hd l.length (Nat.le_refl _)
  rw [Nat.sub_self, List.drop_zero] at h6
  rw [Nat.sub_self] at h1
  have hq : vl B l / d = vl B qs := by
    rw [← h6, Int.mul_comm, Int.add_comm, Int.add_mul_ediv_left _ _ (by omega), Int.ediv_eq_zero_of_lt h4 h5]; omega
  have hr : vl B l % d = (nat_short.run l d l.length).2 := by
    rw [← h6, Int.mul_comm, Int.add_comm, Int.add_mul_emod_self_left, Int.emod_eq_of_lt h4 h5]
  refine ev_pos (by omega) (ev_neg (by rw [u64id (by omega) (by omega)]; omega) ?_)
  rw [h1, List.replicate_zero, List.nil_append]
  refine Ev.bind (nat_trim.ev (x := qs) (by omega)) (ev_ret ?_)
  rw [tr_cn (B := B) (by omega) h3, hq, hr, show IntKind.u32.wrap (nat_short.run l d l.length).2 = (nat_short.run l d l.length).2 by rw [IntKind.wrap_u32]; omega]
end NatShort

/-! ### limbs: small numbers -/
section NatOf
variable {B : Int}
theorem wpred (n : Nat) (h : n ≤ 1000000000) : wrap64 ((n : Int) - 1) = (n : Int) - 1 := wr (by omega) (by omega)
theorem nat_Of.ev (hB : B = 4294967296) {x : Int} (h0 : 0 ≤ x) (h1 : x < 18446744073709551616) : Ev (fun k => nat_Of.f k x) (cn B x) := by
  have d : Dg B [x % 4294967296, x / 4294967296 % 4294967296] := by
    intro y hy
    simp only [List.mem_cons, List.not_mem_nil, or_false] at hy
    rcases hy with rfl | rfl <;> omega
  have := nat_Norm.ev (x := [x % 4294967296, x / 4294967296 % 4294967296]) (by simp)
  rw [tr_cn (by omega) d] at this
  refine Ev.bind this (ev_ret ?_)
  congr 1
  simp [vl]
  rw [hB]; omega
/-- The last place of a row without noughts at its end. -/
theorem last_pos {l : List Int} (d : Dg B l) (hB : 0 < B) (ht : tr l = l) {m : Nat} (h : l.length = m + 1) : 0 < rd l (m : Int) := by
  have hd := d.place hB (m : Int)
  rcases (show rd l (m : Int) = 0 ∨ 0 < rd l (m : Int) by omega) with h0 | h0
  · exfalso
    have h1 := trS (l := l) (n := m) (by omega) h0
    rw [show m + 1 = l.length by omega, List.take_length, ht] at h1
    have := tr_length (l.take m)
    rw [h1] at this
    simp at this
    omega
  · exact h0
end NatOf

/-! ### texts -/
section Texts
theorem swap_mid (pre mid post : List Int) (x y : Int) : ((pre ++ x :: mid ++ y :: post).set pre.length y).set (pre.length + mid.length + 1) x = (pre ++ [y]) ++ mid ++ x :: post := by
  rw [List.append_assoc, List.set_append_right _ _ (Nat.le_refl _), Nat.sub_self]
  simp only [List.cons_append, List.set_cons_zero]
  rw [List.set_append_right _ _ (by omega), show pre.length + mid.length + 1 - pre.length = mid.length + 1 by omega, List.set_cons_succ, List.set_append_right _ _ (Nat.le_refl _), Nat.sub_self, List.set_cons_zero]
  simp
theorem text_l1 : ∀ (m : Nat) (pre mid post : List Int), mid.length ≤ m → pre.length + mid.length + post.length ≤ 100000 → Ev (fun k => nat_Text.l1 k (pre ++ mid ++ post) (pre.length : Int) ((pre.length + mid.length : Nat) - 1 : Int)) (strOfNums (pre ++ mid.reverse ++ post)) := by
  intro m
  induction m with
  | zero =>
    intro pre mid post hm hl
    rw [List.length_eq_zero_iff.1 (show mid.length = 0 by omega)]
    exact Ev.step (fun k => nat_Text.l1.eq_2 _ _ _ _) (ev_neg (by simp; omega) (ev_ret rfl))
  | succ m ih =>
    intro pre mid post hm hl
    match mid, hm, hl with
    | [], hm, hl => exact Ev.step (fun k => nat_Text.l1.eq_2 _ _ _ _) (ev_neg (by simp; omega) (ev_ret rfl))
    | [x], hm, hl => exact Ev.step (fun k => nat_Text.l1.eq_2 _ _ _ _) (ev_neg (by simp) (ev_ret rfl))
    | x :: y :: t, hm, hl =>
      obtain ⟨md, z, hz⟩ : ∃ md z, y :: t = md ++ [z] := ⟨(y :: t).dropLast, (y :: t).getLast (by simp), (List.dropLast_concat_getLast _).symm⟩
      rw [hz] at hm hl ⊢
      have e : pre ++ x :: (md ++ [z]) ++ post = pre ++ x :: md ++ z :: post := by simp
      have n1 : (x :: (md ++ [z])).length = md.length + 2 := by simp
      rw [n1] at hm hl ⊢
      have r1 : rd (pre ++ x :: md ++ z :: post) (pre.length : Int) = x := by
        rw [rd_nat, List.append_assoc, List.getElem?_append_right (Nat.le_refl _), Nat.sub_self]; rfl
      have e2 : (((pre.length + (md.length + 2) : Nat) : Int) - 1) = ((pre.length + md.length + 1 : Nat) : Int) := by omega
      have r2 : rd (pre ++ x :: md ++ z :: post) ((pre.length + md.length + 1 : Nat) : Int) = z := by
        rw [rd_nat, List.append_assoc, List.getElem?_append_right (by omega), show pre.length + md.length + 1 - pre.length = md.length + 1 by omega]
        simp
      have ll : (pre ++ x :: md ++ z :: post).length = pre.length + md.length + 2 + post.length := by simp; omega
      have := ih (pre ++ [z]) md (x :: post) (by omega) (by simp; omega)
      rw [e, e2]
      refine Ev.step (fun k => nat_Text.l1.eq_2 _ _ _ _) (ev_pos (by clear r1 r2; omega) (ev_pos (Int.natCast_nonneg _) (ev_pos (by rw [ll]; clear r1 r2; omega) (ev_pos (Int.natCast_nonneg _) (ev_pos (by rw [ll]; clear r1 r2; omega) ?_)))))
      rw [r1, r2, natT, natT, swap_mid, suc (by clear r1 r2; omega), wpred _ (by clear r1 r2; omega)]
      rw [List.length_append, List.length_singleton] at this
      have e3 : ((pre.length + 1 + md.length : Nat) : Int) - 1 = ((pre.length + md.length + 1 : Nat) : Int) - 1 := by omega
      rw [e3] at this
      have e4 : pre ++ (x :: (md ++ [z])).reverse ++ post = (pre ++ [z]) ++ md.reverse ++ x :: post := by simp
      rw [e4]
      exact this
def asc (l : List Int) : List Int := l.map fun d => (48 + d) % 256
theorem text_l0 {B : Int} (hB : B = 4294967296) : ∀ (m : Nat) (v : Int) (acc : List Int) (n : Nat), v.toNat ≤ m → Sm B n v → n ≤ 1000 → acc.length + (cn 10 v).length ≤ 10000 → Ev (fun k => nat_Text.l0 k (cn B v) acc) (strOfNums ((acc ++ asc (cn 10 v)).reverse)) := by
  have zero : ∀ (acc : List Int), acc.length ≤ 10000 → Ev (fun k => nat_Text.l0 k [] acc) (strOfNums (acc.reverse)) := by
    intro acc ha
    have := text_l1 acc.length [] acc [] (Nat.le_refl _) (by simp; omega)
    rw [List.append_nil, List.nil_append, List.nil_append, List.append_nil] at this
    refine Ev.step (fun k => nat_Text.l0.eq_2 _ _ _) (ev_neg (by simp) ?_)
    rw [wpred _ (by omega)]
    simpa using this
  intro m
  induction m with
  | zero =>
    intro v acc n hm hs _ hl
    have : v = 0 := by have := hs.1; omega
    subst this
    rw [cn_zero (Int.le_refl _), cn_zero (Int.le_refl _)]
    rw [cn_zero (Int.le_refl _)] at hl
    have := zero acc (by simpa using hl)
    simpa [asc] using this
  | succ m ih =>
    intro v acc n hm hs hn hl
    have hv0 := hs.1
    by_cases h0 : v = 0
    · subst h0
      rw [cn_zero (Int.le_refl _), cn_zero (Int.le_refl _)]
      rw [cn_zero (Int.le_refl _)] at hl
      have := zero acc (by simpa using hl)
      simpa [asc] using this
    · have h2 : 2 ≤ B := by omega
      have hp : 0 < (cn B v).length := List.length_pos_iff.2 (cn_nil h2 (by omega))
      have hsh := nat_short.ev hB (l := cn B v) (d := 10) (Nat.le_trans (hs.len h2) (by omega)) (cn_Dg h2 _) ⟨by omega, by omega⟩
      rw [hs.vl h2] at hsh
      rw [cn_cons (B := 10) (by omega) (show 0 < v by omega)] at hl ⊢
      rw [List.length_cons] at hl
      have := ih (v / 10) (acc ++ [(48 + v % 10) % 256]) n (by omega) ⟨by omega, Int.lt_of_le_of_lt (Int.ediv_le_self _ hv0) hs.2⟩ hn (by simp; omega)
      refine Ev.step (fun k => nat_Text.l0.eq_2 _ _ _) (ev_pos (by omega) (Ev.bind hsh (ev_pos (by omega) ?_)))
      have e : acc ++ asc (v % 10 :: cn 10 (v / 10)) = (acc ++ [(48 + v % 10) % 256]) ++ asc (cn 10 (v / 10)) := by simp [asc]
      rw [e]
      exact this
theorem text_ev {B : Int} (hB : B = 4294967296) {a : List Int} (ha : a.length ≤ 50) (da : Dg B a) : Ev (fun k => nat_Text.f k a) (if vl B a = 0 then (⟨#[48]⟩ : ByteArray) else strOfNums ((asc (cn 10 (vl B a))).reverse)) := by
  have h2 : 2 ≤ B := by omega
  have sa := Sm.of h2 da ha
  have hn := nat_Norm.ev (x := a) (by omega)
  rw [tr_cn h2 da] at hn
  have sa0 := sa.1
  refine Ev.bind hn ?_
  by_cases h0 : vl B a = 0
  · rw [if_pos h0, h0, cn_zero (Int.le_refl _)]
    exact ev_pos rfl (ev_ret rfl)
  · rw [if_neg h0]
    have hp : 0 < (cn B (vl B a)).length := List.length_pos_iff.2 (cn_nil h2 (by omega))
    have hl : (cn 10 (vl B a)).length ≤ 10 * 50 := cn_length (by omega) (Int.lt_of_lt_of_le sa.2 (pow_fit hB 50))
    have := text_l0 hB _ (vl B a) [] 50 (Nat.le_refl _) sa (by omega) (by simp; omega)
    exact ev_neg (by omega) this
theorem rtext_l0 {x : List Int} (hx : x.length ≤ 10000) (dx : Dg 10 x) : ∀ (i : Nat) (acc : List Int), i ≤ x.length → acc.length + i ≤ 10000 → Ev (fun k => whetstoneref01_Text.l0 k x acc ((i : Int) - 1)) (strOfNums (acc ++ (asc (x.take i)).reverse))
  | 0, acc, _, _ => Ev.step (fun k => whetstoneref01_Text.l0.eq_2 _ _ _ _) (ev_neg (by omega) (ev_ret (by simp [asc])))
  | i + 1, acc, hi, hl => by
    have hd := dx.place (by omega) (i : Int)
    refine Ev.step (fun k => whetstoneref01_Text.l0.eq_2 _ _ _ _) ?_
    rw [show (((i + 1 : Nat) : Int) - 1) = (i : Int) by omega]
    refine ev_pos (by omega) (ev_pos (by omega) (ev_pos (by omega) (ev_pos (by omega) ?_)))
    rw [wr (n := 48 + rd x (i : Int)) (by omega) (by omega), wpred _ (by omega)]
    have := rtext_l0 hx dx i (acc ++ [(48 + rd x (i : Int)) % 256]) (by omega) (by simp; omega)
    have e : acc ++ (asc (x.take (i + 1))).reverse = (acc ++ [(48 + rd x (i : Int)) % 256]) ++ (asc (x.take i)).reverse := by
      rw [takeS (show i < x.length by omega)]; simp [asc]
    rw [e]
    exact this
theorem rtext_ev {v : Int} (h0 : 0 ≤ v) (hl : (cn 10 v).length ≤ 10000) : Ev (fun k => whetstoneref01_Text.f k (cn 10 v)) (if v = 0 then (⟨#[48]⟩ : ByteArray) else strOfNums ((asc (cn 10 v)).reverse)) := by
  have ht := ref_trim.cn (x := cn 10 v) (by omega) (D10 _)
  rw [V10 h0] at ht
  refine Ev.bind ht ?_
  by_cases hv : v = 0
  · rw [if_pos hv, hv, cn_zero (Int.le_refl _)]
    exact ev_pos rfl (ev_ret rfl)
  · rw [if_neg hv]
    have hp : 0 < (cn 10 v).length := List.length_pos_iff.2 (cn_nil (by omega) (by omega))
    have := rtext_l0 (x := cn 10 v) hl (D10 _) (cn 10 v).length [] (Nat.le_refl _) (by simp; omega)
    rw [List.take_length, List.nil_append] at this
    refine ev_neg (by omega) ?_
    rw [wpred _ (by omega)]
    exact this
/-- The digits of a text's first bytes, the lowest first. -/
def pd (s : ByteArray) : Nat → List Int
  | 0 => []
  | i + 1 => (bt s i - 48) :: pd s i
def okD (s : ByteArray) (i : Int) : Prop := 48 ≤ bt s i ∧ bt s i ≤ 57
theorem pd_length (s : ByteArray) : ∀ i, (pd s i).length = i
  | 0 => rfl
  | i + 1 => by rw [pd, List.length_cons, pd_length s i]
theorem pd_Dg (s : ByteArray) : ∀ i, (∀ j : Nat, j < i → okD s j) → Dg 10 (pd s i)
  | 0, _ => .nil
  | i + 1, h => by
    have h1 := h i (by omega)
    unfold okD at h1
    intro x hx
    rcases List.mem_cons.1 hx with rfl | hx
    · omega
    · exact pd_Dg s i (fun j hj => h j (by omega)) x hx
theorem dec_fit {B : Int} (hB : B = 4294967296) {v : Int} (h0 : 0 ≤ v) {i : Nat} (hi : i ≤ 120) (h : v < 10 ^ i) : Sm B 13 v := by
  refine ⟨h0, ?_⟩
  have h1 := pow_le (B := 10) (by omega) hi
  have h2 : (10 : Int) ^ 120 ≤ 4294967296 ^ 13 := by decide
  rw [hB]; omega
theorem parse_l0 {B : Int} (hB : B = 4294967296) (s : ByteArray) (hs : s.size ≤ 120) : ∀ (m i : Nat), i + m = s.size → (∀ j : Nat, j < i → okD s j) →
    ((∀ j : Nat, j < s.size → okD s j) → Ev (fun k => nat_Parse.l0 k s (cn B (vl 10 (pd s i))) (s.size : Int) (i : Int)) (cn B (vl 10 (pd s s.size)), 0)) ∧ (¬ (∀ j : Nat, j < s.size → okD s j) → Ev (fun k => nat_Parse.l0 k s (cn B (vl 10 (pd s i))) (s.size : Int) (i : Int)) ([], 6))
  | 0, i, hi, hok => by
    have e : i = s.size := by omega
    subst e
    exact ⟨fun _ => Ev.step (fun k => nat_Parse.l0.eq_2 _ _ _ _ _) (ev_neg (by omega) (ev_ret rfl)), fun h => absurd hok h⟩
  | m + 1, i, hi, hok => by
    have h2 : 2 ≤ B := by omega
    have hb := bt_range s (i : Int)
    have dp := pd_Dg s i hok
    have p0 := vl_nonneg (show (0 : Int) ≤ 10 by omega) dp
    have p1 := vl_lt (show (0 : Int) < 10 by omega) dp
    rw [pd_length] at p1
    have sp := dec_fit hB p0 (by omega) p1
    have c1 : (i : Int) < (s.size : Int) := by clear p1; omega
    have bad : ¬ okD s i → Ev (fun k => nat_Parse.l0 k s (cn B (vl 10 (pd s i))) (s.size : Int) (i : Int)) ([], 6) := by
      intro h
      have j : Ev (fun k => nat_Parse.j2 k s (cn B (vl 10 (pd s i))) (i : Int) (s.size : Int) (i : Int) true) ([], 6) := Ev.step (fun k => nat_Parse.j2.eq_2 _ _ _ _ _ _ _) (ev_pos rfl (ev_ret rfl))
      refine Ev.step (fun k => nat_Parse.l0.eq_2 _ _ _ _ _) (ev_pos c1 (ev_pos (Int.natCast_nonneg _) (ev_pos c1 (ev_ite (fun _ => j) (fun h1 => ?_)))))
      rw [decide_eq_true (show bt s i > 57 by unfold okD at h; clear p1; omega)]
      exact j
    by_cases hd : okD s i
    · have hok' : ∀ j : Nat, j < i + 1 → okD s j := fun j hj => by
        rcases Nat.lt_or_ge j i with h | h
        · exact hok j h
        · rw [show j = i by omega]; exact hd
      have ih := parse_l0 hB s hs m (i + 1) (by clear p1; omega) hok'
      have hd' := hd
      unfold okD at hd'
      have hmul := nat_Mul.ev hB (a := cn B (vl 10 (pd s i))) (b := [10]) (by have := sp.len h2; simp; omega) (cn_Dg h2 _) (Dg.one (by omega) (by omega))
      rw [sp.vl h2, vl_one] at hmul
      have sm : Sm B 14 (vl 10 (pd s i) * 10) := sp.mul h2 (m := 1) ⟨by decide, by rw [hB]; decide⟩
      have hadd := nat_Add.ev hB (a := cn B (vl 10 (pd s i) * 10)) (b := [bt s i - 48]) (by have := sm.len h2; omega) (by simp) (cn_Dg h2 _) (Dg.one (by clear p1; omega) (by clear p1; omega))
      rw [sm.vl h2, vl_one] at hadd
      have ev : vl 10 (pd s i) * 10 + (bt s i - 48) = vl 10 (pd s (i + 1)) := by rw [pd, vl_cons]; omega
      rw [ev] at hadd
      have go : ∀ {r}, Ev (fun k => nat_Parse.l0 k s (cn B (vl 10 (pd s (i + 1)))) (s.size : Int) ((i + 1 : Nat) : Int)) r → Ev (fun k => nat_Parse.l0 k s (cn B (vl 10 (pd s i))) (s.size : Int) (i : Int)) r := by
        intro r hr
        refine Ev.step (fun k => nat_Parse.l0.eq_2 _ _ _ _ _) (ev_pos c1 (ev_pos (Int.natCast_nonneg _) (ev_pos c1 (ev_neg (by clear p1; omega) ?_))))
        rw [decide_eq_false (show ¬ bt s i > 57 by clear p1; omega)]
        refine Ev.step (fun k => nat_Parse.j2.eq_2 _ _ _ _ _ _ _) (ev_neg (by simp) (Ev.bind hmul (ev_pos (Int.natCast_nonneg _) (ev_pos c1 ?_))))
        rw [show (bt s i - 48) % 256 = bt s i - 48 by clear p1; omega, suc (by clear p1; omega)]
        exact Ev.bind hadd hr
      exact ⟨fun h => go (ih.1 h), fun h => go (ih.2 h)⟩
    · exact ⟨fun h => absurd (h i (by clear p1; omega)) hd, fun _ => bad hd⟩
theorem rparse_l0 (s : ByteArray) (hs : s.size ≤ 120) : ∀ (i : Nat) (acc : List Int), i ≤ s.size → acc.length + i = s.size →
    ((∀ j : Nat, j < i → okD s j) → Ev (fun k => whetstoneref01_Parse.l0 k s acc ((i : Int) - 1)) (tr (acc ++ pd s i), 0)) ∧ (¬ (∀ j : Nat, j < i → okD s j) → Ev (fun k => whetstoneref01_Parse.l0 k s acc ((i : Int) - 1)) ([], 6))
  | 0, acc, hi, hl => ⟨fun _ => Ev.step (fun k => whetstoneref01_Parse.l0.eq_2 _ _ _ _) (ev_neg (by omega) (Ev.bind (ref_trim.ev (x := acc) (by omega)) (ev_ret (by simp [pd])))), fun h => absurd (fun j hj => absurd hj (by omega)) h⟩
  | i + 1, acc, hi, hl => by
    have hb := bt_range s (i : Int)
    have e0 : (((i + 1 : Nat) : Int) - 1) = (i : Int) := by omega
    have c1 : (i : Int) < (s.size : Int) := by omega
    by_cases hd : okD s i
    · have hd' := hd
      unfold okD at hd'
      have ih := rparse_l0 s hs i (acc ++ [bt s i - 48]) (by omega) (by simp; omega)
      have go : ∀ {r}, Ev (fun k => whetstoneref01_Parse.l0 k s (acc ++ [bt s i - 48]) ((i : Int) - 1)) r → Ev (fun k => whetstoneref01_Parse.l0 k s acc (((i + 1 : Nat) : Int) - 1)) r := by
        intro r hr
        rw [e0]
        refine Ev.step (fun k => whetstoneref01_Parse.l0.eq_2 _ _ _ _) (ev_pos (by omega) (ev_pos (by omega) (ev_pos c1 (ev_neg (by omega) (ev_neg (by omega) (ev_pos (by omega) ?_))))))
        rw [show (bt s i - 48) % 256 = bt s i - 48 by omega, wpred _ (by omega)]
        exact hr
      refine ⟨fun h => ?_, fun h => go (ih.2 (fun h' => h (fun j hj => ?_)))⟩
      · have := go (ih.1 (fun j hj => h j (by omega)))
        rw [List.append_assoc] at this
        exact this
      · rcases Nat.lt_or_ge j i with h1 | h1
        · exact h' j h1
        · rw [show j = i by omega]; exact hd
    · refine ⟨fun h => absurd (h i (by omega)) hd, fun _ => ?_⟩
      rw [e0]
      refine Ev.step (fun k => whetstoneref01_Parse.l0.eq_2 _ _ _ _) (ev_pos (by omega) (ev_pos (by omega) (ev_pos c1 (ev_ite (fun _ => ev_ret rfl) (fun h1 => ev_pos ?_ (ev_ret rfl))))))
      unfold okD at hd
      omega
theorem toList_nil {s : ByteArray} : s.toList = ([] : List UInt8) ↔ s.size = 0 := by
  rw [ByteArray.toList_eq]
  constructor
  · intro h; rw [← data_length, h]; rfl
  · intro h; rw [← data_length] at h; exact List.length_eq_zero_iff.1 h
/-- Both readers tell the same. -/
theorem parse_both {B : Int} (hB : B = 4294967296) (s : ByteArray) (hs : s.size ≤ 120) : ∃ v e, Sm B 13 v ∧ Ev (fun k => nat_Parse.f k s) (cn B v, e) ∧ Ev (fun k => whetstoneref01_Parse.f k s) (cn 10 v, e) := by
  have h2 : 2 ≤ B := by omega
  have z : Sm B 13 0 := ⟨Int.le_refl _, pow_pos' (by omega) 13⟩
  have bad1 : Ev (fun k => nat_Parse.j0 k s true) (cn B 0, 6) := by
    rw [cn_zero (Int.le_refl _)]
    exact Ev.step (fun k => nat_Parse.j0.eq_2 _ _ _) (ev_pos rfl (ev_ret rfl))
  have bad2 : Ev (fun k => whetstoneref01_Parse.j0 k s true) (cn 10 0, 6) := by
    rw [cn_zero (Int.le_refl _)]
    exact Ev.step (fun k => whetstoneref01_Parse.j0.eq_2 _ _ _) (ev_pos rfl (ev_ret rfl))
  by_cases h0 : s.size = 0
  · exact ⟨0, 6, z, ev_pos (toList_nil.2 h0) bad1, ev_pos (by omega) bad2⟩
  · have hne : ¬ s.toList = ([] : List UInt8) := fun e => h0 (toList_nil.1 e)
    have good : ∃ v e, Sm B 13 v ∧ Ev (fun k => nat_Parse.j0 k s false) (cn B v, e) ∧ Ev (fun k => whetstoneref01_Parse.j0 k s false) (cn 10 v, e) := by
      have p := parse_l0 hB s hs s.size 0 (by omega) (fun j hj => absurd hj (by omega))
      have q := rparse_l0 s hs s.size [] (Nat.le_refl _) (by simp)
      rw [show vl 10 (pd s 0) = 0 from rfl, cn_zero (Int.le_refl _)] at p
      rw [List.nil_append] at q
      by_cases hok : ∀ j : Nat, j < s.size → okD s j
      · have dp := pd_Dg s s.size hok
        have p0 := vl_nonneg (show (0 : Int) ≤ 10 by omega) dp
        have p1 := vl_lt (show (0 : Int) < 10 by omega) dp
        rw [pd_length] at p1
        have q1 := q.1 hok
        rw [tr_cn (B := 10) (by omega) dp] at q1
        refine ⟨_, 0, dec_fit hB p0 hs p1, Ev.step (fun k => nat_Parse.j0.eq_2 _ _ _) (ev_neg (by simp) (p.1 hok)), Ev.step (fun k => whetstoneref01_Parse.j0.eq_2 _ _ _) (ev_neg (by simp) ?_)⟩
        rw [wpred _ (by clear p1; omega)]
        exact q1
      · refine ⟨0, 6, z, Ev.step (fun k => nat_Parse.j0.eq_2 _ _ _) (ev_neg (by simp) ?_), Ev.step (fun k => whetstoneref01_Parse.j0.eq_2 _ _ _) (ev_neg (by simp) ?_)⟩
        · rw [cn_zero (Int.le_refl _)]; exact p.2 hok
        · rw [wpred _ (by omega), cn_zero (Int.le_refl _)]; exact q.2 hok
    by_cases hz : bt s 0 = 48
    · by_cases h1 : (s.size : Int) > 1
      · refine ⟨0, 6, z, ev_neg hne (ev_pos (by omega) (ev_pos hz ?_)), ev_neg (by omega) (ev_pos h1 (ev_pos (by omega) ?_))⟩
        · rw [decide_eq_true h1]; exact bad1
        · rw [hz]; exact bad2
      · obtain ⟨v, e, sv, g1, g2⟩ := good
        refine ⟨v, e, sv, ev_neg hne (ev_pos (by omega) (ev_pos hz ?_)), ev_neg (by omega) (ev_neg h1 g2)⟩
        rw [decide_eq_false h1]; exact g1
    · obtain ⟨v, e, sv, g1, g2⟩ := good
      refine ⟨v, e, sv, ev_neg hne (ev_pos (by omega) (ev_neg hz g1)), ev_neg (by omega) (ev_ite (fun h1 => ev_pos (by omega) ?_) (fun h1 => g2))⟩
      rw [show (bt s 0 == 48) = false by simpa using hz]
      exact g2
end Texts
theorem texts_end (a : List Int) (s : ByteArray) (n : Int) : Ev (fun k => whetstonelaw01_NatTexts.j0 k a s n true) true :=
  Ev.step (fun k => whetstonelaw01_NatTexts.j0.eq_2 _ _ _ _ _) (ev_pos rfl (Ev.bind counted_ev (ev_ret rfl)))
theorem texts_all {B : Int} (hB : B = 4294967296) {a : List Int} (ha : a.length ≤ 12) (da : Dg B a) {s : ByteArray} (hs : s.size ≤ 120) {n : Int} (h0 : 0 ≤ n) (h1 : n < 18446744073709551616) : Ev (fun k => whetstonelaw01_NatTexts.j0 k a s n false) true := by
  have h2 : 2 ≤ B := by omega
  have sa := Sm.of h2 da ha
  have sn : Sm B 2 n := ⟨h0, Int.lt_of_lt_of_le h1 (by rw [hB]; decide)⟩
  have hl : (cn 10 (vl B a)).length ≤ 10 * 12 := cn_length (by omega) (Int.lt_of_lt_of_le sa.2 (pow_fit hB 12))
  obtain ⟨v, e, sv, p1, p2⟩ := parse_both hB s hs
  refine Ev.step (fun k => whetstonelaw01_NatTexts.j0.eq_2 _ _ _ _ _) (ev_neg (by simp) ?_)
  refine Ev.bind p1 (Ev.bind p2 (Ev.bind counted_ev (ev_pos rfl ?_)))
  refine Ev.bind (text_ev hB (by omega) da) (Ev.bind (from_ev hB (by omega) da) (Ev.bind (rtext_ev sa.1 (by omega)) (ev_pos rfl (ev_pos rfl ?_))))
  refine Ev.bind (limbs_ev hB sv (by omega)) (Ev.bind (words_ev (Nat.le_trans (sv.len h2) (by omega)) rfl) (ev_pos rfl ?_))
  exact Ev.bind (nat_Of.ev hB h0 h1) (Ev.bind (small_ev h0 h1) (Ev.bind (limbs_ev hB sn (by omega)) (Ev.bind (words_ev (Nat.le_trans (sn.len h2) (by omega)) rfl) (ev_ret rfl))))
/-- whatever the row, the text and the number are, the law's call is true: what is written and read of limbs is what is written and read of digits. -/
theorem NatTexts : whetstonelaw01_NatTexts.Pure := by
  intro l0 s n _ _ d0 _ wn
  have hn : 0 ≤ n ∧ n < 18446744073709551616 := by
    have e1 : IntKind.u64.min = 0 := rfl
    have e2 : IntKind.u64.max = 18446744073709551615 := rfl
    simp [Lit.wf, e1, e2] at wn
    omega
  refine Ev.rounds (ev_ite (fun _ => texts_end _ _ _) (fun h0 => ?_))
  by_cases h : (s.size : Int) > 120
  · rw [decide_eq_true h]; exact texts_end _ _ _
  · rw [decide_eq_false h]; exact texts_all rfl (by omega) (Dg_of d0) (by omega) hn.1 hn.2

end Go.Proofs.Ythodpjgmecnalaa.Pure
