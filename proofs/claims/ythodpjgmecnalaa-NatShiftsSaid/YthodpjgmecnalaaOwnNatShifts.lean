/-
The plain law of NatShifts: whatever the row and the number are, the law's call is true: the limbs that are shifted and the digits that are doubled are the same number's. No further condition.
-/
import Derived.Test.YthodpjgmecnalaaQNatShiftsx11
set_option maxRecDepth 100000
set_option linter.unusedVariables false
set_option linter.unusedSimpArgs false
namespace Go.Proofs.Ythodpjgmecnalaa.Pure
open Go.RowKit Go.Proofs.Ythodpjgmecnalaa.QNatShifts Go.Proofs.YthodpjgmecnalaaW.PrintWords Go.Proofs.YthodpjgmecnalaaW.PrintLast

/-! ### plain lemmas: rounds -/
section Base
variable {α β : Type}
theorem ev_pos {c : Prop} [Decidable c] {g f : Nat → Option α} {r : α} (hc : c) (h : Ev g r) : Ev (fun k => if c then g k else f k) r := by
  simpa only [if_pos hc] using h
theorem ev_neg {c : Prop} [Decidable c] {g f : Nat → Option α} {r : α} (hc : ¬ c) (h : Ev f r) : Ev (fun k => if c then g k else f k) r := by
  simpa only [if_neg hc] using h
theorem ev_ite {c : Prop} [Decidable c] {g f : Nat → Option α} {r : α} (h1 : c → Ev g r) (h2 : ¬ c → Ev f r) : Ev (fun k => if c then g k else f k) r := by
  by_cases hc : c
  · exact ev_pos hc (h1 hc)
  · exact ev_neg hc (h2 hc)
theorem ev_bind {g : Nat → Option α} {f : Nat → α → Option β} {a : α} {r : β} (h : Ev g a) (k : Ev (fun n => f n a) r) : Ev (fun n => (g n).bind (f n)) r := Ev.bind h k
theorem ev_some {o : Option α} {f : Nat → α → Option β} {a : α} {r : β} (h : o = some a) (k : Ev (fun n => f n a) r) : Ev (fun n => o.bind (f n)) r := by
  subst h; exact k
theorem ev_ret {a r : α} (h : a = r) : Ev (fun _ => some a) r := h ▸ Ev.now a
theorem ev_cast {g : Nat → Option α} {a r : α} (h : Ev g a) (e : a = r) : Ev g r := e ▸ h
theorem ev_ex {g : Nat → Option α} {r : α} (h : Ev g r) : ∃ k, g k = some r := h.rounds
theorem wr {n : Int} (h : -9223372036854775808 ≤ n) (h' : n ≤ 9223372036854775807) : wrap64 n = n := by unfold wrap64; omega
theorem drc {b : List α} {i : Nat} {c : α} {t : List α} (h : b.drop i = c :: t) : i < b.length ∧ b.drop (i + 1) = t ∧ b[i]? = some c := by
  have h1 : i < b.length := by
    rcases Nat.lt_or_ge i b.length with h1 | h1
    · exact h1
    · rw [List.drop_eq_nil_of_le h1] at h; cases h
  rw [List.drop_eq_getElem_cons h1] at h
  injection h with h2 h3
  exact ⟨h1, h3, by rw [List.getElem?_eq_getElem h1, h2]⟩
theorem drn {b : List α} {i : Nat} (h : b.drop i = []) : b.length ≤ i := by
  rcases Nat.lt_or_ge i b.length with h1 | h1
  · rw [List.drop_eq_getElem_cons h1] at h; cases h
  · exact h1
theorem rd_at {b : List Int} {i : Nat} {c : Int} (h : b[i]? = some c) : rd b (i : Int) = c := by
  unfold rd; rw [Int.toNat_natCast, List.getD_eq_getElem?_getD, h]; rfl
end Base

/-! ### numbers and their places -/
def vl (B : Int) : List Int → Int
  | [] => 0
  | x :: t => x + B * vl B t
def Dg (B : Int) (l : List Int) : Prop := ∀ x ∈ l, 0 ≤ x ∧ x < B
def tr : List Int → List Int
  | [] => []
  | x :: t => if tr t = [] ∧ x = 0 then [] else x :: tr t
def can (B n : Nat) : List Int := if h : n = 0 ∨ B < 2 then [] else ((n % B : Nat) : Int) :: can B (n / B)
termination_by n
decreasing_by exact Nat.div_lt_self (by omega) (by omega)
def cn (B v : Int) : List Int := can B.toNat v.toNat
section Num
variable {B : Int} {l : List Int}
theorem vl_cons (x : Int) (t : List Int) : vl B (x :: t) = x + B * vl B t := rfl
theorem cn_zero {v : Int} (h : v ≤ 0) : cn B v = [] := by
  unfold cn; rw [can, dif_pos (Or.inl (by omega))]
theorem cn_cons {v : Int} (hB : 2 ≤ B) (h : 0 < v) : cn B v = (v % B) :: cn B (v / B) := by
  unfold cn; rw [can, dif_neg (by omega)]
  obtain ⟨b, rfl⟩ := Int.eq_ofNat_of_zero_le (show 0 ≤ B by omega)
  obtain ⟨n, rfl⟩ := Int.eq_ofNat_of_zero_le (show 0 ≤ v by omega)
  rfl
theorem Dg.cons {x : Int} (h : Dg B (x :: l)) : (0 ≤ x ∧ x < B) ∧ Dg B l := ⟨h x (by simp), fun y hy => h y (by simp [hy])⟩
theorem Dg.nil : Dg B [] := fun _ h => by cases h
theorem Dg.app {l' : List Int} (h : Dg B l) (h' : Dg B l') : Dg B (l ++ l') := fun x hx => (List.mem_append.1 hx).elim (h x) (h' x)
theorem Dg.one {x : Int} (h : 0 ≤ x) (h' : x < B) : Dg B [x] := fun y hy => by rw [List.mem_singleton.1 hy]; exact ⟨h, h'⟩
theorem Dg.snoc {x : Int} (hl : Dg B l) (h : 0 ≤ x) (h' : x < B) : Dg B (l ++ [x]) := hl.app (.one h h')
theorem Dg.zeros (hB : 0 < B) (n : Nat) : Dg B (List.replicate n 0) := fun x hx => by rw [List.eq_of_mem_replicate hx]; exact ⟨Int.le_refl _, hB⟩
theorem Dg.take (h : Dg B l) (n : Nat) : Dg B (l.take n) := fun x hx => h x (List.mem_of_mem_take hx)
theorem Dg.drop (h : Dg B l) (n : Nat) : Dg B (l.drop n) := fun x hx => h x (List.mem_of_mem_drop hx)
theorem Dg.place (h : Dg B l) (hB : 0 < B) (i : Int) : 0 ≤ rd l i ∧ rd l i < B := by
  unfold rd
  rcases Nat.lt_or_ge i.toNat l.length with hi | hi
  · rw [List.getD_eq_getElem?_getD, List.getElem?_eq_getElem hi]; exact h _ (List.getElem_mem _)
  · rw [List.getD_eq_getElem?_getD, List.getElem?_eq_none hi]; exact ⟨Int.le_refl _, hB⟩
theorem rd_nat {i : Nat} : rd l (i : Int) = l[i]?.getD 0 := by
  unfold rd; rw [Int.toNat_natCast, List.getD_eq_getElem?_getD]
theorem rd_out {i : Nat} (h : l.length ≤ i) : rd l (i : Int) = 0 := by
  rw [rd_nat, List.getElem?_eq_none h]; rfl
theorem Dg.set (h : Dg B l) {i : Nat} {y : Int} (h0 : 0 ≤ y) (h1 : y < B) : Dg B (l.set i y) := fun x hx => by
  rcases List.mem_or_eq_of_mem_set hx with h2 | rfl
  · exact h x h2
  · exact ⟨h0, h1⟩
theorem vl_nonneg (hB : 0 ≤ B) : ∀ {l : List Int}, Dg B l → 0 ≤ vl B l
  | [], _ => Int.le_refl _
  | x :: t, h => by
    have h1 := h.cons
    have h2 := Int.mul_nonneg hB (vl_nonneg hB h1.2)
    rw [vl_cons]; omega
theorem pow_pos' (hB : 0 < B) (n : Nat) : 0 < B ^ n := Int.pow_pos hB
theorem vl_lt (hB : 0 < B) : ∀ {l : List Int}, Dg B l → vl B l < B ^ l.length
  | [], _ => by simp [vl]
  | x :: t, h => by
    have h1 := h.cons
    have h2 : vl B t + 1 ≤ B ^ t.length := vl_lt hB h1.2
    have h3 := Int.mul_le_mul_of_nonneg_left h2 (show 0 ≤ B by omega)
    rw [vl_cons, List.length_cons, Int.pow_succ]
    grind
theorem vl_app (a b : List Int) : vl B (a ++ b) = vl B a + B ^ a.length * vl B b := by
  induction a with
  | nil => simp [vl]
  | cons x t ih =>
    rw [List.cons_append, vl_cons, vl_cons, ih, List.length_cons, Int.pow_succ]; grind
theorem vl_one (x : Int) : vl B [x] = x := by simp [vl]
theorem vl_snoc (a : List Int) (x : Int) : vl B (a ++ [x]) = vl B a + B ^ a.length * x := by rw [vl_app, vl_one]
theorem vl_zeros (n : Nat) : vl B (List.replicate n 0) = 0 := by
  induction n with
  | zero => rfl
  | succ n ih => rw [List.replicate_succ, vl_cons, ih]; simp
theorem vl_take_succ (l : List Int) : ∀ (i : Nat), vl B (l.take (i + 1)) = vl B (l.take i) + B ^ i * rd l i := by
  induction l with
  | nil => intro i; simp [vl, rd]
  | cons x t ih =>
    intro i
    cases i with
    | zero => simp [vl, rd]
    | succ i =>
      rw [List.take_succ_cons, List.take_succ_cons, vl_cons, vl_cons, ih i, Int.pow_succ]
      have : rd (x :: t) ((i + 1 : Nat) : Int) = rd t i := by rw [rd_nat, rd_nat]; simp
      rw [this]; grind
theorem vl_set : ∀ (l : List Int) (i : Nat) (y : Int), i < l.length → vl B (l.set i y) = vl B l + B ^ i * (y - rd l i) := by
  intro l
  induction l with
  | nil => intro i y h; simp at h
  | cons x t ih =>
    intro i y h
    cases i with
    | zero => rw [List.set_cons_zero, vl_cons, vl_cons]; have : rd (x :: t) ((0 : Nat) : Int) = x := rfl
              rw [this]; simp; omega
    | succ i =>
      rw [List.set_cons_succ, vl_cons, vl_cons, ih i y (by simpa using h), Int.pow_succ]
      have : rd (x :: t) ((i + 1 : Nat) : Int) = rd t i := by rw [rd_nat, rd_nat]; simp
      rw [this]; grind
theorem rd_set (l : List Int) (i j : Nat) (y : Int) (h : i < l.length) : rd (l.set i y) j = if i = j then y else rd l j := by
  rw [rd_nat, rd_nat, List.getElem?_set]
  by_cases e : i = j
  · subst e; simp [h]
  · simp [e]
/-- The place i of a number. -/
theorem vl_split (i : Nat) (l : List Int) : vl B l = vl B (l.take i) + B ^ i * vl B (l.drop i) := by
  rcases Nat.lt_or_ge i l.length with h | h
  · have := vl_app (B := B) (l.take i) (l.drop i)
    rw [List.take_append_drop, List.length_take, Nat.min_eq_left (by omega)] at this
    exact this
  · rw [List.take_of_length_le h, List.drop_eq_nil_of_le h]; simp [vl]
theorem tr_vl : ∀ (l : List Int), vl B (tr l) = vl B l
  | [] => rfl
  | x :: t => by
    have ih := tr_vl t
    unfold tr
    split
    · next h => rw [h.1] at ih; rw [vl_cons, ← ih, h.2]; simp [vl]
    · rw [vl_cons, vl_cons, ih]
theorem tr_Dg : ∀ {l : List Int}, Dg B l → Dg B (tr l)
  | [], h => h
  | x :: t, h => by
    have h1 := h.cons
    unfold tr
    split
    · exact .nil
    · intro y hy
      rcases List.mem_cons.1 hy with rfl | hy
      · exact h1.1
      · exact tr_Dg h1.2 y hy
theorem tr_tr : ∀ (l : List Int), tr (tr l) = tr l
  | [] => rfl
  | x :: t => by
    have ih := tr_tr t
    rw [tr]
    split
    · rfl
    · next h => rw [tr, ih, if_neg h]
theorem tr_length : ∀ (l : List Int), (tr l).length ≤ l.length
  | [] => Nat.le_refl _
  | x :: t => by
    have ih := tr_length t
    rw [tr]
    split <;> simp <;> omega
theorem tr_snoc0 : ∀ (l : List Int), tr (l ++ [0]) = tr l
  | [] => by simp [tr]
  | x :: t => by rw [List.cons_append, tr, tr_snoc0 t, ← tr]
theorem tr_snoc {x : Int} (hx : x ≠ 0) : ∀ (l : List Int), tr (l ++ [x]) = l ++ [x]
  | [] => by simp [tr, hx]
  | y :: t => by
    rw [List.cons_append, tr, tr_snoc hx t, if_neg]
    intro h; have := congrArg List.length h.1; simp at this
theorem tr_tail {x : Int} {t : List Int} (h : tr (x :: t) = x :: t) : tr t = t := by
  rw [tr] at h
  split at h
  · cases h
  · injection h
theorem cn_self (hB : 2 ≤ B) : ∀ {l : List Int}, Dg B l → tr l = l → cn B (vl B l) = l
  | [], _, _ => cn_zero (by simp [vl])
  | x :: t, h, ht => by
    have h1 := h.cons
    have h2 := vl_nonneg (by omega) h1.2
    have ht2 := tr_tail ht
    have ih := cn_self hB h1.2 ht2
    have h3 := Int.mul_nonneg (show 0 ≤ B by omega) h2
    have hv : vl B (x :: t) = x + B * vl B t := rfl
    by_cases h0 : vl B (x :: t) = 0
    · exfalso
      have hx : x = 0 := by omega
      have hm : B * vl B t = 0 := by omega
      have hz : vl B t = 0 := by
        rcases Int.mul_eq_zero.1 hm with h | h
        · omega
        · exact h
      rw [hz, cn_zero (Int.le_refl _)] at ih
      rw [← ih, tr, hx] at ht
      simp [tr] at ht
    · rw [cn_cons hB (by omega)]
      have e1 : (x + B * vl B t) % B = x := by rw [Int.add_mul_emod_self_left, Int.emod_eq_of_lt h1.1.1 h1.1.2]
      have e2 : (x + B * vl B t) / B = vl B t := by
        rw [Int.add_mul_ediv_left _ _ (by omega), Int.ediv_eq_zero_of_lt h1.1.1 h1.1.2]; omega
      rw [hv, e1, e2, ih]
theorem tr_cn (hB : 2 ≤ B) (h : Dg B l) : tr l = cn B (vl B l) := by
  rw [← cn_self hB (tr_Dg h) (tr_tr l), tr_vl]
theorem cn_all (hB : 2 ≤ B) : ∀ (n : Nat) (v : Int), v.toNat ≤ n → Dg B (cn B v) ∧ tr (cn B v) = cn B v ∧ (0 ≤ v → vl B (cn B v) = v)
  | 0, v, h => by
    rw [cn_zero (by omega)]
    exact ⟨.nil, rfl, fun _ => by simp [vl]; omega⟩
  | n + 1, v, h => by
    by_cases h0 : v ≤ 0
    · rw [cn_zero h0]
      exact ⟨.nil, rfl, fun _ => by simp [vl]; omega⟩
    · rw [cn_cons hB (by omega)]
      have hq : v / B < v := Int.ediv_lt_of_lt_mul (by omega) (by
        have := Int.mul_lt_mul_of_pos_left (show (1 : Int) < B by omega) (show 0 < v by omega); omega)
      have hq0 : 0 ≤ v / B := Int.ediv_nonneg (by omega) (by omega)
      obtain ⟨i1, i2, i3⟩ := cn_all hB n (v / B) (by omega)
      have hm := Int.emod_add_mul_ediv v B
      have hm0 := Int.emod_nonneg v (show B ≠ 0 by omega)
      have hm1 := Int.emod_lt_of_pos v (show 0 < B by omega)
      refine ⟨fun y hy => ?_, ?_, fun _ => ?_⟩
      · rcases List.mem_cons.1 hy with rfl | hy
        · exact ⟨hm0, hm1⟩
        · exact i1 y hy
      · rw [tr, i2, if_neg]
        intro ⟨h1, h2⟩
        have i3 := i3 hq0
        rw [h1] at i3
        have : vl B [] = 0 := rfl
        rw [this] at i3
        rw [← i3, h2] at hm
        simp at hm
        omega
      · rw [vl_cons, i3 hq0]; exact hm
theorem cn_Dg (hB : 2 ≤ B) (v : Int) : Dg B (cn B v) := (cn_all hB _ v (Nat.le_refl _)).1
theorem cn_tr (hB : 2 ≤ B) (v : Int) : tr (cn B v) = cn B v := (cn_all hB _ v (Nat.le_refl _)).2.1
theorem vl_cn (hB : 2 ≤ B) {v : Int} (h : 0 ≤ v) : vl B (cn B v) = v := (cn_all hB _ v (Nat.le_refl _)).2.2 h
theorem cn_nil (hB : 2 ≤ B) {v : Int} (h : 0 < v) : cn B v ≠ [] := by rw [cn_cons hB h]; simp
theorem cn_length (hB : 2 ≤ B) : ∀ {k : Nat} {v : Int}, v < B ^ k → (cn B v).length ≤ k
  | 0, v, h => by rw [cn_zero (by simp at h; omega)]; simp
  | k + 1, v, h => by
    by_cases h0 : v ≤ 0
    · rw [cn_zero h0]; simp
    · rw [cn_cons hB (by omega), List.length_cons]
      have := cn_length hB (k := k) (v := v / B) (Int.ediv_lt_of_lt_mul (by omega) (by rw [← Int.pow_succ]; exact h))
      omega
theorem rep_set (p : List Int) (m : Nat) (y : Int) : (p ++ List.replicate (m + 1) 0).set p.length y = (p ++ [y]) ++ List.replicate m 0 := by
  rw [List.replicate_succ, List.set_append_right _ _ (Nat.le_refl _)]
  simp
theorem eqc (hB : 2 ≤ B) {a b : List Int} (ha : Dg B a) (hb : Dg B b) (h : vl B a = vl B b) : tr a = tr b := by
  rw [tr_cn hB ha, tr_cn hB hb, h]
end Num

/-! ### limbs: what the program's sums and products are -/
section Limbs
variable {B : Int}
theorem takeS {l : List Int} {n : Nat} (h : n < l.length) : l.take (n + 1) = l.take n ++ [rd l (n : Int)] := by
  rw [rd_nat, List.getElem?_eq_getElem h, List.take_succ_eq_append_getElem h]; rfl
theorem trS {l : List Int} {n : Nat} (h : n < l.length) (h0 : rd l (n : Int) = 0) : tr (l.take n) = tr (l.take (n + 1)) := by
  rw [takeS h, h0, tr_snoc0]
theorem trN {l : List Int} {n : Nat} (h : n < l.length) (h0 : ¬ rd l (n : Int) = 0) : l.take (n + 1) = tr (l.take (n + 1)) := by
  rw [takeS h, tr_snoc h0]
theorem pred {n : Nat} (h : n ≤ 1000000000) : wrap64 (((n + 1 : Nat) : Int) - 1) = (n : Int) := by rw [wr (by omega) (by omega)]; omega
theorem suc {n : Nat} (h : n ≤ 1000000000) : wrap64 ((n : Int) + 1) = ((n + 1 : Nat) : Int) := by rw [wr (by omega) (by omega)]; rfl
theorem natT (n : Nat) : ((n : Int)).toNat = n := Int.toNat_natCast n
theorem nat_trim.l0_ev (x : List Int) (hx : x.length ≤ 100000000) : ∀ n, n ≤ x.length → Ev (fun k => nat_trim.l0 k x (n : Int)) (tr (x.take n))
  | 0, _ => by
    refine Ev.step (fun k => nat_trim.l0.eq_2 _ _ _) ?_
    refine ev_neg (by omega) (ev_pos (by omega) (ev_pos (by omega) (ev_ret ?_)))
    simp [tr]
  | n + 1, h => by
    refine Ev.step (fun k => nat_trim.l0.eq_2 _ _ _) ?_
    rw [pred (by omega)]
    refine ev_pos (by omega) (ev_pos (by omega) (ev_pos (by omega) (ev_ite (fun h0 => ?_) (fun h0 => ?_))))
    · exact ev_cast (nat_trim.l0_ev x hx n (by omega)) (trS (by omega) h0)
    · exact ev_pos (by omega) (ev_pos (by omega) (ev_ret (by rw [natT]; exact trN (by omega) h0)))
theorem nat_trim.ev {x : List Int} (hx : x.length ≤ 100000000) : Ev (fun k => nat_trim.f k x) (tr x) := by
  have h := nat_trim.l0_ev x hx x.length (Nat.le_refl _)
  rw [List.take_length] at h
  exact h
theorem nat_Norm.l0_ev (x : List Int) (hx : x.length ≤ 100000000) : ∀ n, n ≤ x.length → Ev (fun k => nat_Norm.l0 k x (n : Int)) (tr (x.take n))
  | 0, _ => by
    refine Ev.step (fun k => nat_Norm.l0.eq_2 _ _ _) ?_
    refine ev_neg (by omega) (ev_pos (by omega) (ev_pos (by omega) (ev_pos (by simp) (ev_ret ?_))))
    simp [tr]
  | n + 1, h => by
    refine Ev.step (fun k => nat_Norm.l0.eq_2 _ _ _) ?_
    rw [pred (by omega)]
    refine ev_pos (by omega) (ev_pos (by omega) (ev_pos (by omega) (ev_ite (fun h0 => ?_) (fun h0 => ?_))))
    · exact ev_cast (nat_Norm.l0_ev x hx n (by omega)) (trS (by omega) h0)
    · exact ev_pos (by omega) (ev_pos (by omega) (ev_pos (by rw [natT]; simp only [List.length_nil, List.length_take]; omega) (ev_ret (by rw [natT, List.nil_append]; exact trN (by omega) h0))))
theorem nat_Norm.ev {x : List Int} (hx : x.length ≤ 100000000) : Ev (fun k => nat_Norm.f k x) (tr x) := by
  have h := nat_Norm.l0_ev x hx x.length (Nat.le_refl _)
  rw [List.take_length] at h
  exact h
theorem words_l0 (a : List Int) (ha : a.length ≤ 1000000) : ∀ m i, i + m = a.length → Ev (fun k => whetstoneref01_Words.l0 k a a (i : Int)) true
  | 0, i, h => by
    refine Ev.step (fun k => whetstoneref01_Words.l0.eq_2 _ _ _ _) ?_
    exact ev_neg (by omega) (ev_ret rfl)
  | m + 1, i, h => by
    refine Ev.step (fun k => whetstoneref01_Words.l0.eq_2 _ _ _ _) ?_
    rw [suc (by omega)]
    exact ev_pos (by omega) (ev_pos (by omega) (ev_pos (by omega) (ev_pos rfl (words_l0 a ha m (i + 1) (by omega)))))
theorem words_ev {a b : List Int} (ha : a.length ≤ 1000000) (h : a = b) : Ev (fun k => whetstoneref01_Words.f k a b) true := by
  subst h
  exact ev_pos rfl (words_l0 a ha a.length 0 (by omega))
theorem add32 {x y c : Int} (hx : 0 ≤ x ∧ x < 4294967296) (hy : 0 ≤ y ∧ y < 4294967296) (hc : 0 ≤ c ∧ c ≤ 1) : bits_Add32.f x y c = some ((x + y + c) % 4294967296, (x + y + c) / 4294967296) := by
  unfold bits_Add32.f
  simp only [IntKind.wrap_u64]
  congr 2 <;> omega
theorem add_step {P V A b x y c : Int} (h : V + P * c = A + b) : V + P * ((x + y + c) % B) + P * B * ((x + y + c) / B) = (A + P * x) + (b + P * y) := by
  have := Int.emod_add_mul_ediv (x + y + c) B
  grind
theorem u64id {x : Int} (h : 0 ≤ x) (h' : x < 18446744073709551616) : IntKind.u64.wrap x = x := by rw [IntKind.wrap_u64]; omega
theorem pow_le {i j : Nat} (hB : 1 ≤ B) (h : i ≤ j) : B ^ i ≤ B ^ j := by
  obtain ⟨d, rfl⟩ := Nat.le.dest h
  rw [Int.pow_add]
  have h1 := pow_pos' (show 0 < B by omega) i
  have h2 := pow_pos' (show 0 < B by omega) d
  have := Int.mul_le_mul_of_nonneg_left (show 1 ≤ B ^ d by omega) (show 0 ≤ B ^ i by omega)
  omega
end Limbs

/-! ### how many places a number has -/
def Sm (B : Int) (n : Nat) (v : Int) : Prop := 0 ≤ v ∧ v < B ^ n
section Sizes
variable {B : Int}
theorem Sm.of (hB : 2 ≤ B) {l : List Int} {n : Nat} (h : Dg B l) (hl : l.length ≤ n) : Sm B n (vl B l) :=
  ⟨vl_nonneg (by omega) h, by have := vl_lt (show 0 < B by omega) h; have := pow_le (show 1 ≤ B by omega) hl; omega⟩
theorem Sm.add (hB : 2 ≤ B) {n m : Nat} {a b : Int} (ha : Sm B n a) (hb : Sm B m b) : Sm B (n + m + 1) (a + b) := by
  refine ⟨Int.add_nonneg ha.1 hb.1, ?_⟩
  have h1 := pow_le (show 1 ≤ B by omega) (show n ≤ n + m by omega)
  have h2 := pow_le (show 1 ≤ B by omega) (show m ≤ n + m by omega)
  have h3 := pow_pos' (show 0 < B by omega) (n + m)
  have h4 := Int.mul_le_mul_of_nonneg_left hB (show 0 ≤ B ^ (n + m) by omega)
  have := ha.2; have := hb.2
  rw [Int.pow_succ]; omega
theorem Sm.mul (hB : 2 ≤ B) {n m : Nat} {a b : Int} (ha : Sm B n a) (hb : Sm B m b) : Sm B (n + m) (a * b) := by
  refine ⟨Int.mul_nonneg ha.1 hb.1, ?_⟩
  have h1 := Int.mul_le_mul_of_nonneg_right (show a ≤ B ^ n by have := ha.2; omega) hb.1
  have h2 := Int.mul_lt_mul_of_pos_left hb.2 (pow_pos' (show 0 < B by omega) n)
  rw [Int.pow_add]; omega
theorem Sm.len (hB : 2 ≤ B) {n : Nat} {v : Int} (h : Sm B n v) : (cn B v).length ≤ n := cn_length hB h.2
theorem Sm.le (hB : 2 ≤ B) {n m : Nat} {v : Int} (h : Sm B n v) (hm : n ≤ m) : Sm B m v := ⟨h.1, by have := pow_le (show 1 ≤ B by omega) hm; have := h.2; omega⟩
theorem Sm.vl (hB : 2 ≤ B) {n : Nat} {v : Int} (h : Sm B n v) : vl B (cn B v) = v := vl_cn hB h.1
theorem Dg_of {l : List Int} (h : ∀ x ∈ l, (Lit.int .u32 x).wf = true) : Dg 4294967296 l := by
  intro x hx
  have := h x hx
  have e1 : IntKind.u32.min = 0 := rfl
  have e2 : IntKind.u32.max = 4294967295 := rfl
  simp [Lit.wf, e1, e2] at this
  omega
end Sizes
theorem counted_ev : Ev (fun k => whetstonelaw01_counted.f k) true := Ev.of (k := 60) whetstonelaw01_counted.mono (by decide +kernel)

/-! ### the reference: decimal digits -/
section Ref
theorem vl_drop {B : Int} {l : List Int} {i : Nat} (h : i < l.length) : vl B (l.drop i) = rd l i + B * vl B (l.drop (i + 1)) := by
  rw [List.drop_eq_getElem_cons h, vl_cons, rd_nat, List.getElem?_eq_getElem h]; rfl
theorem vl_drop_le {B : Int} (hB : 1 ≤ B) {l : List Int} (h : Dg B l) (i : Nat) : vl B (l.drop i) ≤ vl B l := by
  have h1 := vl_split (B := B) i l
  have h2 := vl_nonneg (show 0 ≤ B by omega) (h.take i)
  have h3 := vl_nonneg (show 0 ≤ B by omega) (h.drop i)
  have h4 := Int.mul_le_mul_of_nonneg_right (show 1 ≤ B ^ i by have := pow_pos' (show 0 < B by omega) i; omega) h3
  omega
theorem tdiv10 {x y : Int} (h : 0 ≤ x) : Int.tdiv x y = x / y := Int.tdiv_eq_ediv_of_nonneg h
theorem tmod10 {x y : Int} (h : 0 ≤ x) : Int.tmod x y = x % y := Int.tmod_eq_emod_of_nonneg h
theorem ref_trim.l0_ev (x : List Int) (hx : x.length ≤ 100000000) : ∀ n, n ≤ x.length → Ev (fun k => whetstoneref01_Trim.l0 k x (n : Int)) (tr (x.take n))
  | 0, _ => by
    refine Ev.step (fun k => whetstoneref01_Trim.l0.eq_2 _ _ _) ?_
    refine ev_neg (by omega) (ev_pos (by omega) (ev_pos (by omega) (ev_pos (by simp) (ev_ret ?_))))
    simp [tr]
  | n + 1, h => by
    refine Ev.step (fun k => whetstoneref01_Trim.l0.eq_2 _ _ _) ?_
    rw [pred (by omega)]
    refine ev_pos (by omega) (ev_pos (by omega) (ev_pos (by omega) (ev_ite (fun h0 => ?_) (fun h0 => ?_))))
    · exact ev_cast (ref_trim.l0_ev x hx n (by omega)) (trS (by omega) h0)
    · exact ev_pos (by omega) (ev_pos (by omega) (ev_pos (by rw [natT]; simp only [List.length_nil, List.length_take]; omega) (ev_ret (by rw [natT, List.nil_append]; exact trN (by omega) h0))))
theorem ref_trim.ev {x : List Int} (hx : x.length ≤ 100000000) : Ev (fun k => whetstoneref01_Trim.f k x) (tr x) := by
  have h := ref_trim.l0_ev x hx x.length (Nat.le_refl _)
  rw [List.take_length] at h
  exact h
theorem ref_trim.cn {x : List Int} (hx : x.length ≤ 100000000) (h : Dg 10 x) : Ev (fun k => whetstoneref01_Trim.f k x) (cn 10 (vl 10 x)) := ev_cast (ref_trim.ev hx) (tr_cn (by omega) h)
theorem small_l0 : ∀ (m : Nat) (n : Int) (p : List Int), n.toNat ≤ m → 0 ≤ n → n < 18446744073709551616 → p.length + m ≤ 18446744073709551616 → p.length ≤ 1000 → p.length + (cn 10 n).length ≤ 1000 → Ev (fun k => whetstoneref01_Small.l0 k n p) (p ++ cn 10 n)
  | 0, n, p, h, h0, h1, h2, h3, h4 => by
    refine Ev.step (fun k => whetstoneref01_Small.l0.eq_2 _ _ _) (ev_neg (by omega) (ev_ret ?_))
    rw [cn_zero (by omega), List.append_nil]
  | m + 1, n, p, h, h0, h1, h2, h3, h4 => by
    by_cases hn : n = 0
    · refine Ev.step (fun k => whetstoneref01_Small.l0.eq_2 _ _ _) (ev_neg (by omega) (ev_ret ?_))
      rw [cn_zero (by omega), List.append_nil]
    · refine Ev.step (fun k => whetstoneref01_Small.l0.eq_2 _ _ _) (ev_pos (by omega) (ev_pos (by omega) ?_))
      rw [cn_cons (by omega) (by omega)] at h4 ⊢
      rw [tdiv10 h0, tmod10 h0, u64id (by omega) (by omega), wr (by omega) (by omega)]
      rw [List.length_cons] at h4
      have := small_l0 m (n / 10) (p ++ [n % 10]) (by omega) (by omega) (by omega) (by simp; omega) (by simp; omega) (by simp; omega)
      rw [List.append_assoc] at this
      exact this
theorem small_ev {n : Int} (h0 : 0 ≤ n) (h1 : n < 18446744073709551616) : Ev (fun k => whetstoneref01_Small.f k n) (cn 10 n) := by
  have hl : (cn 10 n).length ≤ 20 := cn_length (by omega) (Int.lt_of_lt_of_le h1 (by decide))
  have := small_l0 n.toNat n [] (Nat.le_refl _) h0 h1 (by simp; omega) (by simp) (by simp; omega)
  exact this
theorem radd_l0 {a b : List Int} (ha : a.length ≤ 10000000) (hb : b.length ≤ 10000000) (da : Dg 10 a) (db : Dg 10 b) : ∀ (m : Nat) (p : List Int) (c : Int), p.length + m = max a.length b.length + 1 → Dg 10 p → 0 ≤ c ∧ c ≤ 1 → (m = 0 → c = 0) → vl 10 p + 10 ^ p.length * c = vl 10 (a.take p.length) + vl 10 (b.take p.length) → Ev (fun k => whetstoneref01_Add.l0 k a b p c (p.length : Int)) (cn 10 (vl 10 a + vl 10 b)) := by
  have fin : ∀ (p : List Int), max a.length b.length ≤ p.length → p.length ≤ 10000001 → Dg 10 p → vl 10 p + 10 ^ p.length * 0 = vl 10 (a.take p.length) + vl 10 (b.take p.length) → Ev (fun k => whetstoneref01_Add.l0 k a b p 0 (p.length : Int)) (cn 10 (vl 10 a + vl 10 b)) := by
    intro p h1 h2 dp hv
    refine Ev.step (fun k => whetstoneref01_Add.l0.eq_2 _ _ _ _ _ _) (ev_neg (by omega) (ev_neg (by omega) ?_))
    refine Ev.step (fun k => whetstoneref01_Add.j1.eq_2 _ _ _ _ _ _ _) (ev_neg (by simp) (Ev.bind (ref_trim.cn (x := p) (by omega) dp) (ev_ret ?_)))
    rw [List.take_of_length_le (by omega), List.take_of_length_le (by omega)] at hv
    rw [← hv]; congr 1; omega
  intro m
  induction m with
  | zero =>
    intro p c hp dp hc hm hv
    have := hm rfl
    subst this
    exact fin p (by omega) (by omega) dp hv
  | succ m ih =>
    intro p c hp dp hc hm hv
    have hx := da.place (by omega) (p.length : Int)
    have hy := db.place (by omega) (p.length : Int)
    have hs := add_step (B := 10) (x := rd a p.length) (y := rd b p.length) hv
    rw [← vl_take_succ, ← vl_take_succ] at hs
    have key : ∀ z, z = c + rd a (p.length : Int) + rd b (p.length : Int) → (p.length < max a.length b.length ∨ c = 1) → Ev (fun k => whetstoneref01_Add.l0 k a b (p ++ [Int.tmod z 10]) (wrap64 (Int.tdiv z 10)) (wrap64 ((p.length : Int) + 1))) (cn 10 (vl 10 a + vl 10 b)) := by
      intro z hz hg
      have e : rd a (p.length : Int) + rd b (p.length : Int) + c = z := by omega
      rw [e] at hs
      rw [tmod10 (by omega), tdiv10 (by omega), suc (by omega), wr (n := z / 10) (by omega) (by omega)]
      have := ih (p ++ [z % 10]) (z / 10) (by simp; omega) (dp.snoc (by omega) (by omega)) (by omega) (fun hm0 => by
        have hpl : p.length = max a.length b.length := by omega
        have e1 : rd a (p.length : Int) = 0 := rd_out (by omega)
        have e2 : rd b (p.length : Int) = 0 := rd_out (by omega)
        omega) (by
        rw [vl_snoc, List.length_append, List.length_singleton, Int.pow_succ]; exact hs)
      rw [List.length_append, List.length_singleton] at this
      exact this
    have j1 : (p.length < max a.length b.length ∨ c = 1) → Ev (fun k => whetstoneref01_Add.j1 k a b p c (p.length : Int) true) (cn 10 (vl 10 a + vl 10 b)) := by
      intro hg
      refine Ev.step (fun k => whetstoneref01_Add.j1.eq_2 _ _ _ _ _ _ _) (ev_pos rfl ?_)
      refine ev_ite (fun h0 => ev_pos (by omega) (ev_ite (fun h1 => ev_pos (by omega) ?_) (fun h1 => ev_pos (by omega) ?_))) (fun h0 => ev_ite (fun h1 => ev_pos (by omega) (ev_pos (by omega) ?_)) (fun h1 => ev_pos (by omega) ?_))
      · exact key _ (by rw [wr (n := c + _) (by omega) (by omega), wr (by omega) (by omega)]) hg
      · exact key _ (by rw [wr (by omega) (by omega), rd_out (l := b) (by omega)]; omega) hg
      · exact key _ (by rw [wr (by omega) (by omega), rd_out (l := a) (by omega)]; omega) hg
      · exact key _ (by rw [rd_out (l := a) (by omega), rd_out (l := b) (by omega)]; omega) hg
    by_cases h0 : p.length < max a.length b.length ∨ c = 1
    · refine Ev.step (fun k => whetstoneref01_Add.l0.eq_2 _ _ _ _ _ _) (ev_ite (fun _ => j1 h0) (fun h1 => ev_ite (fun _ => j1 h0) (fun h2 => ?_)))
      rw [decide_eq_true (show c > 0 by omega)]
      exact j1 h0
    · have : c = 0 := by omega
      subst this
      exact fin p (by omega) (by omega) dp hv
theorem radd_ev {a b : List Int} (ha : a.length ≤ 10000000) (hb : b.length ≤ 10000000) (da : Dg 10 a) (db : Dg 10 b) : Ev (fun k => whetstoneref01_Add.f k a b) (cn 10 (vl 10 a + vl 10 b)) :=
  radd_l0 ha hb da db (max a.length b.length + 1) [] 0 (by simp) .nil (by omega) (fun h => by omega) (by simp [vl])
theorem times_step {P V A x n c : Int} (h : V + P * c = A * n) : V + P * ((c + x * n) % 10) + P * 10 * ((c + x * n) / 10) = (A + P * x) * n := by
  have := Int.emod_add_mul_ediv (c + x * n) 10
  grind
theorem times_l0 {a : List Int} {n : Int} (hn : 0 ≤ n ∧ n ≤ 10) (ha : a.length ≤ 10000000) (da : Dg 10 a) : ∀ (m : Nat) (p : List Int) (c : Int), p.length + m = a.length + 3 → Dg 10 p → 0 ≤ c ∧ c ≤ 10 → (m ≤ 2 → c ≤ 1) → (m ≤ 1 → c = 0) → vl 10 p + 10 ^ p.length * c = vl 10 (a.take p.length) * n → Ev (fun k => whetstoneref01_Times.l0 k a n p c (p.length : Int)) (cn 10 (vl 10 a * n)) := by
  have fin : ∀ (p : List Int), a.length ≤ p.length → p.length ≤ 10000004 → Dg 10 p → vl 10 p + 10 ^ p.length * 0 = vl 10 (a.take p.length) * n → Ev (fun k => whetstoneref01_Times.l0 k a n p 0 (p.length : Int)) (cn 10 (vl 10 a * n)) := by
    intro p h1 h2 dp hv
    refine Ev.step (fun k => whetstoneref01_Times.l0.eq_2 _ _ _ _ _ _) (ev_neg (by omega) ?_)
    refine Ev.step (fun k => whetstoneref01_Times.j1.eq_2 _ _ _ _ _ _ _) (ev_neg (by simp) (Ev.bind (ref_trim.cn (x := p) (by omega) dp) (ev_ret ?_)))
    rw [List.take_of_length_le (by omega)] at hv
    rw [← hv]; congr 1; omega
  intro m
  induction m with
  | zero =>
    intro p c hp dp hc _ hm hv
    have := hm (by omega)
    subst this
    exact fin p (by omega) (by omega) dp hv
  | succ m ih =>
    intro p c hp dp hc hm2 hm hv
    have hx := da.place (by omega) (p.length : Int)
    have hs := times_step (x := rd a p.length) hv
    rw [← vl_take_succ] at hs
    have hb0 := Int.mul_nonneg hx.1 hn.1
    have hb1 : rd a (p.length : Int) * n ≤ 90 := by
      have h1 := Int.mul_le_mul_of_nonneg_right (show rd a (p.length : Int) ≤ 9 by omega) hn.1
      omega
    have key : ∀ z, z = c + rd a (p.length : Int) * n → Ev (fun k => whetstoneref01_Times.l0 k a n (p ++ [Int.tmod z 10]) (wrap64 (Int.tdiv z 10)) (wrap64 ((p.length : Int) + 1))) (cn 10 (vl 10 a * n)) := by
      intro z hz
      rw [← hz] at hs
      rw [tmod10 (by omega), tdiv10 (by omega), suc (by omega), wr (n := z / 10) (by omega) (by omega)]
      have hout : a.length ≤ p.length → z = c := by
        intro h
        rw [rd_out (l := a) h] at hz
        omega
      have := ih (p ++ [z % 10]) (z / 10) (by simp; omega) (dp.snoc (by omega) (by omega)) (by omega) (fun h => by have := hout (by omega); omega) (fun h => by have := hout (by omega); have := hm2 (by omega); omega) (by
        rw [vl_snoc, List.length_append, List.length_singleton, Int.pow_succ]; exact hs)
      rw [List.length_append, List.length_singleton] at this
      exact this
    have j1 : Ev (fun k => whetstoneref01_Times.j1 k a n p c (p.length : Int) true) (cn 10 (vl 10 a * n)) := by
      refine Ev.step (fun k => whetstoneref01_Times.j1.eq_2 _ _ _ _ _ _ _) (ev_pos rfl ?_)
      refine ev_ite (fun h0 => ev_pos (by omega) (ev_pos (by omega) ?_)) (fun h0 => ev_pos (by omega) ?_)
      · exact key _ (by rw [wr (n := rd a _ * n) (by omega) (by omega), wr (by omega) (by omega)])
      · exact key _ (by rw [rd_out (l := a) (by omega)]; omega)
    by_cases h0 : p.length < a.length ∨ 0 < c
    · refine Ev.step (fun k => whetstoneref01_Times.l0.eq_2 _ _ _ _ _ _) (ev_ite (fun _ => j1) (fun h1 => ?_))
      rw [decide_eq_true (show c > 0 by omega)]
      exact j1
    · have : c = 0 := by omega
      subst this
      exact fin p (by omega) (by omega) dp hv
theorem times_ev {a : List Int} {n : Int} (hn : 0 ≤ n ∧ n ≤ 10) (ha : a.length ≤ 10000000) (da : Dg 10 a) : Ev (fun k => whetstoneref01_Times.f k a n) (cn 10 (vl 10 a * n)) :=
  times_l0 hn ha da (a.length + 3) [] 0 (by simp) .nil (by omega) (fun h => by omega) (fun h => by omega) (by simp [vl])
/-- A number of no more than a million decimal digits. -/
def Fit (v : Int) : Prop := 0 ≤ v ∧ ∃ n : Nat, n ≤ 1000000 ∧ v < 10 ^ n
theorem Fit.len {v : Int} (h : Fit v) : (cn 10 v).length ≤ 1000000 := by
  obtain ⟨n, hn, h⟩ := h.2
  have := cn_length (B := 10) (by omega) h
  omega
theorem Fit.le {v w : Int} (h : Fit w) (h0 : 0 ≤ v) (hv : v ≤ w) : Fit v := by
  obtain ⟨n, hn, h⟩ := h.2
  exact ⟨h0, n, hn, by omega⟩
theorem D10 (v : Int) : Dg 10 (cn 10 v) := cn_Dg (by omega) v
theorem V10 {v : Int} (h : 0 ≤ v) : vl 10 (cn 10 v) = v := vl_cn (by omega) h
theorem rmul_l0 {a b : List Int} (ha : a.length ≤ 10000000) (hb : b.length ≤ 10000000) (da : Dg 10 a) (db : Dg 10 b) (hf : Fit (vl 10 a * vl 10 b)) : ∀ (i : Nat), i ≤ b.length → Ev (fun k => whetstoneref01_Mul.l0 k a b (cn 10 (vl 10 a * vl 10 (b.drop i))) ((i : Int) - 1)) (cn 10 (vl 10 a * vl 10 b))
  | 0, _ => Ev.step (fun k => whetstoneref01_Mul.l0.eq_2 _ _ _ _ _) (ev_neg (by omega) (ev_ret (by simp)))
  | i + 1, hi => by
    have hva := vl_nonneg (show (0 : Int) ≤ 10 by omega) da
    have f1 : ∀ j, Fit (vl 10 a * vl 10 (b.drop j)) := fun j => hf.le (Int.mul_nonneg hva (vl_nonneg (by omega) (db.drop j))) (Int.mul_le_mul_of_nonneg_left (vl_drop_le (by omega) db j) hva)
    have hd := db.place (by omega) (i : Int)
    have e1 := vl_drop (B := 10) (l := b) (i := i) (by omega)
    have hm := Int.mul_nonneg hva hd.1
    have e2 : vl 10 a * vl 10 (b.drop i) = vl 10 a * vl 10 (b.drop (i + 1)) * 10 + vl 10 a * rd b i := by rw [e1]; grind
    have hf1 := f1 (i + 1)
    have hf0 := f1 i
    have hft : Fit (vl 10 a * vl 10 (b.drop (i + 1)) * 10) := hf0.le (Int.mul_nonneg hf1.1 (by omega)) (by omega)
    have hfm : Fit (vl 10 a * rd b i) := hf0.le hm (by have := hft.1; omega)
    refine Ev.step (fun k => whetstoneref01_Mul.l0.eq_2 _ _ _ _ _) (ev_pos (by omega) (Ev.bind (times_ev (a := cn 10 (vl 10 a * vl 10 (b.drop (i + 1)))) (n := 10) (by omega) (by have := hf1.len; omega) (D10 _)) ?_))
    rw [show (((i + 1 : Nat) : Int) - 1) = (i : Int) by omega]
    refine ev_pos (by omega) (ev_pos (by omega) (Ev.bind (times_ev (a := a) (n := rd b i) (by omega) ha da) ?_))
    rw [V10 hf1.1, wr (by omega) (by omega)]
    refine Ev.bind (radd_ev (by have := hft.len; omega) (by have := hfm.len; omega) (D10 _) (D10 _)) ?_
    rw [V10 hft.1, V10 hfm.1, ← e2]
    exact rmul_l0 ha hb da db hf i (by omega)
theorem rmul_ev {a b : List Int} (ha : a.length ≤ 10000000) (hb : b.length ≤ 10000000) (da : Dg 10 a) (db : Dg 10 b) (hf : Fit (vl 10 a * vl 10 b)) : Ev (fun k => whetstoneref01_Mul.f k a b) (cn 10 (vl 10 a * vl 10 b)) := by
  have := rmul_l0 ha hb da db hf b.length (Nat.le_refl _)
  rw [List.drop_length, show vl 10 a * vl 10 [] = 0 by simp [vl], cn_zero (Int.le_refl _)] at this
  unfold whetstoneref01_Mul.f
  rw [wr (by omega) (by omega)]
  exact this
end Ref

/-! ### comparing, taking away, dividing -/
section Ref2
def cmpI (v w : Int) : Int := if v < w then -1 else if w < v then 1 else 0
theorem top_step {B : Int} (hB : 2 ≤ B) {P a b x y : Int} (hP : 0 < P) (h0 : 0 ≤ a) (h1 : a < P) (h2 : 0 ≤ b) (h3 : b < P) : (if x < y then -1 else if y < x then 1 else cmpI a b) = cmpI (a + P * x) (b + P * y) := by
  unfold cmpI
  rcases Int.lt_trichotomy x y with h | h | h
  · have := Int.mul_le_mul_of_nonneg_left (show x + 1 ≤ y by omega) (show 0 ≤ P by omega)
    rw [Int.mul_add, Int.mul_one] at this
    rw [if_pos h, if_pos (by omega)]
  · subst h
    rw [if_neg (Int.lt_irrefl x), if_neg (Int.lt_irrefl x)]
    by_cases h4 : a < b
    · rw [if_pos h4, if_pos (by omega)]
    · rw [if_neg h4, if_neg (show ¬ a + P * x < b + P * x by omega)]
      by_cases h5 : b < a
      · rw [if_pos h5, if_pos (by omega)]
      · rw [if_neg h5, if_neg (by omega)]
  · have := Int.mul_le_mul_of_nonneg_left (show y + 1 ≤ x by omega) (show 0 ≤ P by omega)
    rw [Int.mul_add, Int.mul_one] at this
    rw [if_neg (by omega), if_pos h, if_neg (by omega), if_pos (by omega)]
theorem top_take {B : Int} (hB : 2 ≤ B) {x y : List Int} (dx : Dg B x) (dy : Dg B y) (n : Nat) : (if rd x n < rd y n then -1 else if rd y n < rd x n then 1 else cmpI (vl B (x.take n)) (vl B (y.take n))) = cmpI (vl B (x.take (n + 1))) (vl B (y.take (n + 1))) := by
  have h1 := vl_lt (show 0 < B by omega) (dx.take n)
  have h2 := vl_lt (show 0 < B by omega) (dy.take n)
  have h3 := pow_le (show 1 ≤ B by omega) (show (x.take n).length ≤ n by simp; omega)
  have h4 := pow_le (show 1 ≤ B by omega) (show (y.take n).length ≤ n by simp; omega)
  rw [vl_take_succ, vl_take_succ, top_step hB (pow_pos' (show 0 < B by omega) n) (vl_nonneg (by omega) (dx.take n)) (by omega) (vl_nonneg (by omega) (dy.take n)) (by omega)]
theorem top_low {B : Int} (hB : 2 ≤ B) {l : List Int} (h : Dg B l) (ht : tr l = l) (hl : l ≠ []) : B ^ (l.length - 1) ≤ vl B l := by
  have hlen : 0 < l.length := List.length_pos_iff.2 hl
  have e : l = l.take (l.length - 1) ++ [rd l ((l.length - 1 : Nat) : Int)] := by
    have := takeS (l := l) (n := l.length - 1) (by omega)
    rwa [show l.length - 1 + 1 = l.length by omega, List.take_length] at this
  have hd := h.place (show 0 < B by omega) ((l.length - 1 : Nat) : Int)
  by_cases h0 : rd l ((l.length - 1 : Nat) : Int) = 0
  · exfalso
    rw [h0] at e
    rw [e, tr_snoc0] at ht
    have := tr_length (l.take (l.length - 1))
    rw [ht] at this
    simp at this
    omega
  · have h1 := vl_take_succ (B := B) l (l.length - 1)
    rw [show l.length - 1 + 1 = l.length by omega, List.take_length] at h1
    have h2 := vl_nonneg (show 0 ≤ B by omega) (h.take (l.length - 1))
    have h3 := Int.mul_le_mul_of_nonneg_left (show 1 ≤ rd l ((l.length - 1 : Nat) : Int) by omega) (show 0 ≤ B ^ (l.length - 1) by have := pow_pos' (show 0 < B by omega) (l.length - 1); omega)
    omega
theorem shorter {B : Int} (hB : 2 ≤ B) {x y : List Int} (dx : Dg B x) (dy : Dg B y) (ty : tr y = y) (h : x.length < y.length) : vl B x < vl B y := by
  have h1 := vl_lt (show 0 < B by omega) dx
  have h2 := top_low hB dy ty (by intro e; rw [e] at h; simp at h)
  have h3 := pow_le (show 1 ≤ B by omega) (show x.length ≤ y.length - 1 by omega)
  omega
theorem nat_Cmp.g_ev {B : Int} (hB : 2 ≤ B) {x y : List Int} (dx : Dg B x) (dy : Dg B y) : ∀ n, nat_Cmp.g n x y = cmpI (vl B (x.take n)) (vl B (y.take n))
  | 0 => rfl
  | n + 1 => by
    unfold nat_Cmp.g
    rw [nat_Cmp.g_ev hB dx dy n, ← rd_nat, ← rd_nat]
    exact top_take hB dx dy n
theorem cmp_len {B : Int} (hB : 2 ≤ B) {x y : List Int} (dx : Dg B x) (dy : Dg B y) (tx : tr x = x) (ty : tr y = y) : (if x.length < y.length then -1 else if y.length < x.length then 1 else nat_Cmp.g x.length x y) = cmpI (vl B x) (vl B y) := by
  rcases Nat.lt_trichotomy x.length y.length with h | h | h
  · rw [if_pos h]; unfold cmpI; rw [if_pos (shorter hB dx dy ty h)]
  · rw [if_neg (by omega), if_neg (by omega), nat_Cmp.g_ev hB dx dy, List.take_of_length_le (by omega), List.take_of_length_le (by omega)]
  · have := shorter hB dy dx tx h
    rw [if_neg (by omega), if_pos h]; unfold cmpI; rw [if_neg (by omega), if_pos this]
theorem nat_Cmp.ev {B : Int} (hB : 2 ≤ B) {x y : List Int} (hx : x.length ≤ 10000000) (hy : y.length ≤ 10000000) (dx : Dg B x) (dy : Dg B y) : Ev (fun k => nat_Cmp.f k x y) (cmpI (vl B x) (vl B y)) := by
  refine Ev.bind (nat_trim.ev (by omega)) (Ev.bind (nat_trim.ev (by omega)) (ev_ret ?_))
  rw [cmp_len hB (tr_Dg dx) (tr_Dg dy) (tr_tr x) (tr_tr y), tr_vl, tr_vl]
theorem rcmp_l0 {x y : List Int} (hl : x.length = y.length) (hx : x.length ≤ 100000000) : ∀ n, n ≤ x.length → Ev (fun k => whetstoneref01_Cmp.l0 k x y ((n : Int) - 1)) (nat_Cmp.g n x y)
  | 0, _ => Ev.step (fun k => whetstoneref01_Cmp.l0.eq_2 _ _ _ _) (ev_neg (by omega) (ev_ret rfl))
  | n + 1, h => by
    refine Ev.step (fun k => whetstoneref01_Cmp.l0.eq_2 _ _ _ _) ?_
    rw [show (((n + 1 : Nat) : Int) - 1) = (n : Int) by omega]
    refine ev_pos (by omega) (ev_pos (by omega) (ev_pos (by omega) (ev_pos (by omega) (ev_ite (fun h0 => ?_) (fun h0 => ev_ite (fun h1 => ?_) (fun h1 => ?_))))))
    · refine ev_ret ?_
      unfold nat_Cmp.g; rw [← rd_nat, ← rd_nat, if_pos h0]
    · refine ev_ret ?_
      unfold nat_Cmp.g; rw [← rd_nat, ← rd_nat, if_neg h0, if_pos h1]
    · unfold nat_Cmp.g
      rw [← rd_nat, ← rd_nat, if_neg h0, if_neg h1, wr (by omega) (by omega)]
      exact rcmp_l0 hl hx n (by omega)
theorem rcmp_ev {x y : List Int} (hx : x.length ≤ 10000000) (hy : y.length ≤ 10000000) (dx : Dg 10 x) (dy : Dg 10 y) : Ev (fun k => whetstoneref01_Cmp.f k x y) (cmpI (vl 10 x) (vl 10 y)) := by
  have e := cmp_len (by omega) (tr_Dg dx) (tr_Dg dy) (tr_tr x) (tr_tr y)
  rw [tr_vl, tr_vl] at e
  have l1 := tr_length x
  have l2 := tr_length y
  refine Ev.bind (ref_trim.ev (x := x) (by omega)) (Ev.bind (ref_trim.ev (x := y) (by omega)) ?_)
  refine ev_ite (fun h => ?_) (fun h => ev_ite (fun h1 => ev_ret ?_) (fun h1 => ev_ret ?_))
  · rw [if_neg (by omega), if_neg (by omega)] at e
    rw [wr (by omega) (by omega), ← e]
    exact rcmp_l0 (by omega) (by omega) _ (Nat.le_refl _)
  · rw [← e, if_pos (by omega)]
  · rw [← e, if_neg (by omega), if_pos (by omega)]
/-- What is taken away from a greater number has no more places that count. -/
theorem take_less {B : Int} (hB : 2 ≤ B) {a b : List Int} (da : Dg B a) (db : Dg B b) (h : vl B b ≤ vl B a) : vl B (b.take a.length) = vl B b := by
  have h1 := vl_split (B := B) a.length b
  have h2 := vl_lt (show 0 < B by omega) da
  have h3 := vl_nonneg (show 0 ≤ B by omega) (db.take a.length)
  have h4 := vl_nonneg (show 0 ≤ B by omega) (db.drop a.length)
  have hP := pow_pos' (show 0 < B by omega) a.length
  rcases (show vl B (b.drop a.length) = 0 ∨ 1 ≤ vl B (b.drop a.length) by omega) with h5 | h5
  · rw [h5] at h1; omega
  · have := Int.mul_le_mul_of_nonneg_left h5 (show 0 ≤ B ^ a.length by omega); omega
theorem sub_step {B P V A b x y c q d : Int} (h : V - P * c = A - b) (e : q - B * d = x - y - c) : V + P * q - P * B * d = (A + P * x) - (b + P * y) := by grind
theorem sub_end {B : Int} (hB : 2 ≤ B) {p : List Int} {c v : Int} (dp : Dg B p) (hc : 0 ≤ c ∧ c ≤ 1) (hv : vl B p - B ^ p.length * c = v) (h0 : 0 ≤ v) : vl B p = v := by
  have h1 := vl_lt (show 0 < B by omega) dp
  rcases (show c = 0 ∨ c = 1 by omega) with rfl | rfl
  · omega
  · omega
theorem rsub_l0 {a b : List Int} (ha : a.length ≤ 10000000) (hb : b.length ≤ 10000000) (da : Dg 10 a) (db : Dg 10 b) (hle : vl 10 b ≤ vl 10 a) : ∀ (m : Nat) (p : List Int) (c : Int), p.length + m = a.length → Dg 10 p → 0 ≤ c ∧ c ≤ 1 → vl 10 p - 10 ^ p.length * c = vl 10 (a.take p.length) - vl 10 (b.take p.length) → Ev (fun k => whetstoneref01_Sub.l0 k a b p c (p.length : Int)) (cn 10 (vl 10 a - vl 10 b))
  | 0, p, c, hp, dp, hc, hv => by
    refine Ev.step (fun k => whetstoneref01_Sub.l0.eq_2 _ _ _ _ _ _) (ev_neg (by omega) (Ev.bind (ref_trim.cn (x := p) (by omega) dp) (ev_ret ?_)))
    rw [List.take_of_length_le (show a.length ≤ p.length by omega), show p.length = a.length by omega, take_less (by omega) da db hle, show a.length = p.length by omega] at hv
    rw [sub_end (by omega) dp hc hv (by omega)]
  | m + 1, p, c, hp, dp, hc, hv => by
    have hx := da.place (by omega) (p.length : Int)
    have hy := db.place (by omega) (p.length : Int)
    have key : ∀ q d, q - 10 * d = rd a (p.length : Int) - rd b (p.length : Int) - c → 0 ≤ q ∧ q < 10 → 0 ≤ d ∧ d ≤ 1 → Ev (fun k => whetstoneref01_Sub.l0 k a b (p ++ [q]) d (wrap64 ((p.length : Int) + 1))) (cn 10 (vl 10 a - vl 10 b)) := by
      intro q d e hq hd
      have hs := sub_step (B := 10) hv e
      rw [← vl_take_succ, ← vl_take_succ] at hs
      rw [suc (by omega)]
      have := rsub_l0 ha hb da db hle m (p ++ [q]) d (by simp; omega) (dp.snoc (by omega) (by omega)) hd (by
        rw [vl_snoc, List.length_append, List.length_singleton, Int.pow_succ]; exact hs)
      rw [List.length_append, List.length_singleton] at this
      exact this
    have w1 : wrap64 (rd a (p.length : Int) - c) = rd a (p.length : Int) - c := wr (by omega) (by omega)
    refine Ev.step (fun k => whetstoneref01_Sub.l0.eq_2 _ _ _ _ _ _) (ev_pos (by omega) (ev_pos (by omega) ?_))
    rw [w1]
    refine ev_ite (fun h0 => ?_) (fun h0 => ?_)
    · rw [show wrap64 (rd a (p.length : Int) - c - rd b (p.length : Int)) = rd a (p.length : Int) - c - rd b (p.length : Int) from wr (by omega) (by omega)]
      refine ev_ite (fun h1 => ev_pos (by omega) ?_) (fun h1 => ev_pos (by omega) ?_)
      · rw [wr (n := _ + 10) (by omega) (by omega)]; exact key _ 1 (by omega) (by omega) (by omega)
      · exact key _ 0 (by omega) (by omega) (by omega)
    · have e := rd_out (l := b) (i := p.length) (by omega)
      refine ev_ite (fun h1 => ev_pos (by omega) ?_) (fun h1 => ev_pos (by omega) ?_)
      · rw [wr (n := _ + 10) (by omega) (by omega)]; exact key _ 1 (by omega) (by omega) (by omega)
      · exact key _ 0 (by omega) (by omega) (by omega)
theorem rsub_ev {a b : List Int} (ha : a.length ≤ 10000000) (hb : b.length ≤ 10000000) (da : Dg 10 a) (db : Dg 10 b) (hle : vl 10 b ≤ vl 10 a) : Ev (fun k => whetstoneref01_Sub.f k a b) (cn 10 (vl 10 a - vl 10 b)) :=
  rsub_l0 ha hb da db hle a.length [] 0 (by simp) .nil (by omega) (by simp [vl])
/-- How many places a quotient's limb has: subtracting as often as it goes. -/
theorem rdiv_l1 {a b : List Int} (ha : a.length ≤ 1000000) (hb : b.length ≤ 1000000) (db : Dg 10 b) (hv : 0 < vl 10 b) {i : Nat} {qs : List Int} (hi : i + 1 + qs.length ≤ 1000000) {r : Int} (K : Int → Int → Prop)
    (next : ∀ c r', 0 ≤ c → 0 ≤ r' → r' < vl 10 b → r = c * vl 10 b + r' → Ev (fun k => whetstoneref01_DivMod.l0 k a b ((List.replicate i 0 ++ [c]) ++ qs) (cn 10 r') ((i : Int) - 1)) (cn 10 (vl 10 a / vl 10 b), cn 10 (vl 10 a % vl 10 b))) :
    ∀ (m : Nat) (c r' : Int), r'.toNat ≤ m → 0 ≤ c → c + m ≤ 1000 + r.toNat → 0 ≤ r' → r = c * vl 10 b + r' → c ≤ 1000 → r' < 10 * vl 10 b → c + 10 ≤ 30 → c * vl 10 b ≤ r → r < 10 * vl 10 b → Ev (fun k => whetstoneref01_DivMod.l1 k a b ((List.replicate i 0 ++ [c]) ++ qs) (cn 10 r') (i : Int)) (cn 10 (vl 10 a / vl 10 b), cn 10 (vl 10 a % vl 10 b)) := by
  have lr : ∀ r', 0 ≤ r' → r' < 10 * vl 10 b → (cn 10 r').length ≤ 1000001 := by
    intro r' h0 h
    refine cn_length (by omega) ?_
    have h1 := vl_lt (show (0 : Int) < 10 by omega) db
    have h2 := pow_le (show (1 : Int) ≤ 10 by omega) hb
    rw [Int.pow_succ]
    omega
  intro m
  induction m with
  | zero =>
    intro c r' h h0 _ h1 e _ h2 _ _ _
    refine Ev.step (fun k => whetstoneref01_DivMod.l1.eq_2 _ _ _ _ _ _) (Ev.bind (rcmp_ev (by have := lr r' h1 h2; omega) (by omega) (D10 _) db) ?_)
    rw [V10 h1, show cmpI r' (vl 10 b) = -1 by unfold cmpI; rw [if_pos (by omega)]]
    refine ev_neg (by omega) ?_
    rw [wr (by omega) (by omega)]
    exact next c r' h0 h1 (by omega) e
  | succ m ih =>
    intro c r' h h0 hcm h1 e hc1 h2 hc2 hcr hr
    refine Ev.step (fun k => whetstoneref01_DivMod.l1.eq_2 _ _ _ _ _ _) (Ev.bind (rcmp_ev (by have := lr r' h1 h2; omega) (by omega) (D10 _) db) ?_)
    rw [V10 h1]
    by_cases hlt : r' < vl 10 b
    · rw [show cmpI r' (vl 10 b) = -1 by unfold cmpI; rw [if_pos (by omega)]]
      refine ev_neg (by omega) ?_
      rw [wr (by omega) (by omega)]
      exact next c r' h0 h1 (by omega) e
    · have hc9 : c ≤ 8 := by
        rcases (show c ≤ 8 ∨ 9 ≤ c by omega) with h | h
        · exact h
        · have := Int.mul_le_mul_of_nonneg_right h (show 0 ≤ vl 10 b by omega); omega
      refine ev_pos (by unfold cmpI; split <;> (try split) <;> omega) ?_
      refine Ev.bind (rsub_ev (by have := lr r' h1 h2; omega) (by omega) (D10 _) db (by rw [V10 h1]; omega)) ?_
      rw [V10 h1]
      have erd : rd ((List.replicate i 0 ++ [c]) ++ qs) (i : Int) = c := by
        rw [rd_nat, List.append_assoc, List.getElem?_append_right (by simp)]
        simp
      refine ev_pos (by omega) (ev_pos (by simp; omega) ?_)
      rw [erd, natT, wr (by omega) (by omega), show ((List.replicate i (0 : Int) ++ [c]) ++ qs).set i (c + 1) = (List.replicate i 0 ++ [c + 1]) ++ qs by
        rw [List.append_assoc, List.append_assoc, List.set_append_right _ _ (by simp)]; simp]
      exact ih (c + 1) (r' - vl 10 b) (by omega) (by omega) (by omega) (by omega) (by rw [Int.add_mul, Int.one_mul]; omega) (by omega) (by omega) (by omega) (by rw [Int.add_mul, Int.one_mul]; omega) hr
theorem rdiv_l0 {a b : List Int} (ha : a.length ≤ 1000000) (hb : b.length ≤ 1000000) (da : Dg 10 a) (db : Dg 10 b) (hv : 0 < vl 10 b) : ∀ (i : Nat) (qs : List Int) (r : Int), i + qs.length = a.length → Dg 10 qs → 0 ≤ r → r < vl 10 b → vl 10 (a.drop i) = vl 10 qs * vl 10 b + r → Ev (fun k => whetstoneref01_DivMod.l0 k a b (List.replicate i 0 ++ qs) (cn 10 r) ((i : Int) - 1)) (cn 10 (vl 10 a / vl 10 b), cn 10 (vl 10 a % vl 10 b))
  | 0, qs, r, hi, dq, h0, h1, hd => by
    refine Ev.step (fun k => whetstoneref01_DivMod.l0.eq_2 _ _ _ _ _ _) (ev_neg (by omega) (Ev.bind (ref_trim.cn (x := [] ++ qs) (by simp; omega) dq) (ev_ret ?_)))
    rw [List.drop_zero] at hd
    have e1 : vl 10 a / vl 10 b = vl 10 qs := by
      rw [hd, Int.mul_comm, Int.add_comm, Int.add_mul_ediv_left _ _ (by omega), Int.ediv_eq_zero_of_lt h0 h1]; omega
    have e2 : vl 10 a % vl 10 b = r := by
      rw [hd, Int.mul_comm, Int.add_comm, Int.add_mul_emod_self_left, Int.emod_eq_of_lt h0 h1]
    rw [e1, e2]; rfl
  | i + 1, qs, r, hi, dq, h0, h1, hd => by
    have hx := da.place (by omega) (i : Int)
    have hbn := vl_lt (show (0 : Int) < 10 by omega) db
    have hbp := pow_le (show (1 : Int) ≤ 10 by omega) hb
    have lr : (cn 10 r).length ≤ 1000000 := cn_length (by omega) (by omega)
    have lr10 : (cn 10 (r * 10)).length ≤ 1000001 := cn_length (by omega) (by rw [Int.pow_succ]; omega)
    have lx : (cn 10 (rd a i)).length ≤ 1 := cn_length (by omega) (by omega)
    refine Ev.step (fun k => whetstoneref01_DivMod.l0.eq_2 _ _ _ _ _ _) (ev_pos (by omega) (Ev.bind (times_ev (a := cn 10 r) (n := 10) (by omega) (by omega) (D10 _)) ?_))
    rw [show (((i + 1 : Nat) : Int) - 1) = (i : Int) by omega, V10 h0]
    refine ev_pos (by omega) (ev_pos (by omega) ?_)
    rw [u64id (by omega) (by omega)]
    refine Ev.bind (small_ev (by omega) (by omega)) (Ev.bind (radd_ev (by omega) (by omega) (D10 _) (D10 _)) ?_)
    rw [V10 (by omega), V10 (by omega)]
    have := rdiv_l1 (a := a) ha hb db hv (i := i) (qs := qs) (by omega) (r := r * 10 + rd a i) (fun _ _ => True) (fun c r' c0 r0 r1 e => by
      rw [List.append_assoc]
      have c9 : c ≤ 9 := by
        rcases (show c ≤ 9 ∨ 10 ≤ c by omega) with h | h
        · exact h
        · have := Int.mul_le_mul_of_nonneg_right h (show 0 ≤ vl 10 b by omega); omega
      refine rdiv_l0 ha hb da db hv i ([c] ++ qs) r' (by simp; omega) (Dg.app (.one c0 (by omega)) dq) r0 r1 ?_
      rw [vl_drop (by omega), hd, vl_app, vl_one]
      simp only [List.length_singleton]
      generalize vl 10 b = vb at *
      generalize vl 10 qs = vq at *
      generalize rd a i = x at *
      grind) (r * 10 + rd a i).toNat 0 (r * 10 + rd a i) (Nat.le_refl _) (by omega) (by omega) (by omega) (by omega) (by omega) (by omega) (by omega) (by omega) (by omega)
    rw [show List.replicate (i + 1) 0 ++ qs = (List.replicate i 0 ++ [0]) ++ qs by rw [List.replicate_succ']]
    exact this
theorem rdiv_ev {a b : List Int} (ha : a.length ≤ 1000000) (hb : b.length ≤ 1000000) (da : Dg 10 a) (db : Dg 10 b) (hv : 0 < vl 10 b) : Ev (fun k => whetstoneref01_DivMod.f k a b) (cn 10 (vl 10 a / vl 10 b), cn 10 (vl 10 a % vl 10 b)) := by
  have := rdiv_l0 ha hb da db hv a.length [] 0 (by simp) .nil (by omega) hv (by rw [List.drop_length]; simp [vl])
  rw [List.append_nil, cn_zero (Int.le_refl _)] at this
  refine ev_pos (by omega) ?_
  rw [natT, wr (by omega) (by omega)]
  exact ev_pos (by omega) this
end Ref2

/-! ### limbs and digits -/
section Ref3
theorem number_l0 {a : List Int} (da : Dg 10 a) (ha : a.length ≤ 1000000) (hv : vl 10 a < 18446744073709551616) : ∀ i : Nat, i ≤ a.length → Ev (fun k => whetstoneref01_Number.l0 k a (vl 10 (a.drop i)) ((i : Int) - 1)) (vl 10 a)
  | 0, _ => Ev.step (fun k => whetstoneref01_Number.l0.eq_2 _ _ _ _) (ev_neg (by omega) (ev_ret rfl))
  | i + 1, h => by
    have hx := da.place (by omega) (i : Int)
    have e := vl_drop (B := 10) (l := a) (i := i) (by omega)
    have h0 := vl_nonneg (show (0 : Int) ≤ 10 by omega) (da.drop (i + 1))
    have h1 := vl_drop_le (show (1 : Int) ≤ 10 by omega) da i
    refine Ev.step (fun k => whetstoneref01_Number.l0.eq_2 _ _ _ _) ?_
    rw [show (((i + 1 : Nat) : Int) - 1) = (i : Int) by omega]
    refine ev_pos (by omega) (ev_pos (by omega) (ev_pos (by omega) ?_))
    rw [u64id (x := rd a i) (by omega) (by omega), u64id (x := _ * 10) (by omega) (by omega), u64id (x := _ + rd a i) (by omega) (by omega), wr (by omega) (by omega), show vl 10 (a.drop (i + 1)) * 10 + rd a i = vl 10 (a.drop i) by omega]
    exact number_l0 da ha hv i (by omega)
theorem number_ev {v : Int} (h0 : 0 ≤ v) (h1 : v < 18446744073709551616) : Ev (fun k => whetstoneref01_Number.f k (cn 10 v)) v := by
  have hl : (cn 10 v).length ≤ 20 := cn_length (by omega) (Int.lt_of_lt_of_le h1 (by decide))
  have := number_l0 (D10 v) (by omega) (by rw [V10 h0]; exact h1) (cn 10 v).length (Nat.le_refl _)
  rw [List.drop_length, V10 h0] at this
  unfold whetstoneref01_Number.f
  rw [wr (by omega) (by omega)]
  exact this
theorem pow_fit {B : Int} (hB : B = 4294967296) (n : Nat) : B ^ n ≤ 10 ^ (10 * n) := by
  induction n with
  | zero => simp
  | succ n ih =>
    rw [Nat.mul_add, Int.pow_succ, Int.pow_add]
    have h1 := pow_pos' (show 0 < B by omega) n
    have h2 := pow_pos' (show (0 : Int) < 10 by omega) (10 * n)
    have h3 := Int.mul_le_mul_of_nonneg_left (show B ≤ 10 ^ (10 * 1) by rw [hB]; decide) (show 0 ≤ B ^ n by omega)
    have h4 := Int.mul_le_mul_of_nonneg_right ih (show (0 : Int) ≤ 10 ^ (10 * 1) by decide)
    omega
theorem Sm.fit {B : Int} (hB : B = 4294967296) {n : Nat} {v : Int} (h : Sm B n v) (hn : n ≤ 100000) : Fit v := ⟨h.1, 10 * n, by omega, by have := pow_fit hB n; have := h.2; omega⟩
theorem limb10 : Ev (fun k => whetstoneref01_Small.f k 4294967296) (cn 10 4294967296) := small_ev (by omega) (by omega)
theorem len10 : (cn 10 4294967296).length ≤ 10 := cn_length (by omega) (by decide)
theorem from_l0 {B : Int} (hB : B = 4294967296) {l : List Int} (hl : l.length ≤ 50000) (dl : Dg B l) : ∀ i : Nat, i ≤ l.length → Ev (fun k => whetstoneref01_From.l0 k l (cn 10 (vl B (l.drop i))) (cn 10 4294967296) ((i : Int) - 1)) (cn 10 (vl B l))
  | 0, _ => Ev.step (fun k => whetstoneref01_From.l0.eq_2 _ _ _ _ _) (ev_neg (by omega) (ev_ret rfl))
  | i + 1, h => by
    have hx := dl.place (show 0 < B by omega) (i : Int)
    have e := vl_drop (B := B) (l := l) (i := i) (by omega)
    have s1 := Sm.of (show 2 ≤ B by omega) (dl.drop (i + 1)) (n := l.length) (by rw [List.length_drop]; omega)
    have s0 := Sm.of (show 2 ≤ B by omega) (dl.drop i) (n := l.length) (by rw [List.length_drop]; omega)
    have f1 : Fit (vl B (l.drop (i + 1)) * 4294967296) := (s0.fit hB (by omega)).le (Int.mul_nonneg s1.1 (by omega)) (by rw [e, hB]; omega)
    have lx : (cn 10 (rd l i)).length ≤ 10 := cn_length (by omega) (by have : (10 : Int) ^ 10 = 10000000000 := by decide
                                                                       omega)
    refine Ev.step (fun k => whetstoneref01_From.l0.eq_2 _ _ _ _ _) ?_
    rw [show (((i + 1 : Nat) : Int) - 1) = (i : Int) by omega]
    have hm := rmul_ev (a := cn 10 (vl B (l.drop (i + 1)))) (b := cn 10 4294967296) (by have := (s1.fit hB (by omega)).len; omega) (by have := len10; omega) (D10 _) (D10 _) (by rw [V10 s1.1, V10 (by omega)]; exact f1)
    rw [V10 s1.1, V10 (by omega)] at hm
    refine ev_pos (by omega) (Ev.bind hm (ev_pos (by omega) (ev_pos (by omega) ?_)))
    rw [u64id (by omega) (by omega)]
    refine Ev.bind (small_ev (by omega) (by omega)) (Ev.bind (radd_ev (by have := f1.len; omega) (by omega) (D10 _) (D10 _)) ?_)
    rw [V10 f1.1, V10 (by omega), wr (by omega) (by omega), show vl B (l.drop (i + 1)) * 4294967296 + rd l i = vl B (l.drop i) by rw [e, hB]; omega]
    exact from_l0 hB hl dl i (by omega)
theorem from_ev {B : Int} (hB : B = 4294967296) {l : List Int} (hl : l.length ≤ 50000) (dl : Dg B l) : Ev (fun k => whetstoneref01_From.f k l) (cn 10 (vl B l)) := by
  refine Ev.bind limb10 ?_
  have := from_l0 hB hl dl l.length (Nat.le_refl _)
  rw [List.drop_length, show vl B [] = 0 from rfl, cn_zero (Int.le_refl _)] at this
  rw [wr (by omega) (by omega)]
  exact this
theorem limbs_l0 {B : Int} (hB : B = 4294967296) : ∀ (n : Nat) (v : Int) (acc : List Int), n ≤ 100000 → Sm B n v → acc.length + n ≤ 1000000 → Ev (fun k => whetstoneref01_Limbs.l0 k acc (cn 10 v) (cn 10 4294967296)) (acc ++ cn B v) := by
  have zero : ∀ (v : Int) (acc : List Int), v = 0 → Ev (fun k => whetstoneref01_Limbs.l0 k acc (cn 10 v) (cn 10 4294967296)) (acc ++ cn B v) := by
    intro v acc h
    subst h
    rw [cn_zero (Int.le_refl _), cn_zero (Int.le_refl _), List.append_nil]
    exact Ev.step (fun k => whetstoneref01_Limbs.l0.eq_2 _ _ _ _) (ev_neg (by simp) (ev_ret rfl))
  intro n
  induction n with
  | zero =>
    intro v acc _ h hl
    exact zero v acc (by have := h.1; have := h.2; simp at *; omega)
  | succ n ih =>
    intro v acc hn h hl
    by_cases h0 : v = 0
    · exact zero v acc h0
    · have hv0 := h.1
      have hp : 0 < (cn 10 v).length := List.length_pos_iff.2 (cn_nil (by omega) (by omega))
      have hfit := (h.fit hB hn).len
      have hd := rdiv_ev (a := cn 10 v) (b := cn 10 4294967296) hfit (by have := len10; omega) (D10 _) (D10 _) (by rw [V10 (by omega)]; omega)
      rw [V10 hv0, V10 (by omega)] at hd
      refine Ev.step (fun k => whetstoneref01_Limbs.l0.eq_2 _ _ _ _) (ev_pos (by omega) (Ev.bind hd (Ev.bind (number_ev (by omega) (by omega)) (ev_pos (by omega) ?_))))
      have := ih (v / 4294967296) (acc ++ [v % 4294967296 % 4294967296]) (by omega) ⟨by omega, Int.ediv_lt_of_lt_mul (by omega) (by have := h.2; rw [Int.pow_succ, hB] at this; rw [hB]; exact this)⟩ (by simp; omega)
      rw [cn_cons (B := B) (by omega) (show 0 < v by omega)]
      have em : v % 4294967296 % 4294967296 = v % B := by rw [hB]; omega
      rw [List.append_assoc, em, ← hB] at this
      rw [hB] at *
      have em2 : v % 4294967296 % 4294967296 = v % 4294967296 := by omega
      rw [em2]
      exact this
theorem limbs_ev {B : Int} (hB : B = 4294967296) {n : Nat} {v : Int} (h : Sm B n v) (hn : n ≤ 100000) : Ev (fun k => whetstoneref01_Limbs.f k (cn 10 v)) (cn B v) := by
  have hf := (h.fit hB hn).len
  have h1 := ref_trim.cn (x := cn 10 v) (by omega) (D10 _)
  rw [V10 h.1] at h1
  exact Ev.bind h1 (Ev.bind limb10 (limbs_l0 hB n v [] hn h (by simp; omega)))
end Ref3

/-! ### bits of a limb -/
section Bits32
theorem b32 (v : BitVec 32) : IntKind.u32.wrap (v.toNat : Int) = v.toNat := by rw [IntKind.wrap_u32]; have := v.isLt; omega
theorem b64 (v : BitVec 64) : IntKind.u64.wrap (v.toNat : Int) = v.toNat := by rw [IntKind.wrap_u64]; have := v.isLt; omega
theorem and64 (x y : Int) : Go.bits .and .u64 x y = ((BitVec.ofInt 64 x &&& BitVec.ofInt 64 y).toNat : Int) := b64 _
theorem or64 (x y : Int) : Go.bits .or .u64 x y = ((BitVec.ofInt 64 x ||| BitVec.ofInt 64 y).toNat : Int) := b64 _
theorem ofN64 {x : Int} (h : 0 ≤ x) (h' : x < 18446744073709551616) : ((BitVec.ofInt 64 x).toNat : Int) = x := by
  rw [BitVec.toNat_ofInt]; omega
/-- A limb behind another one: the two as one number. -/
theorem join64 {x y : Int} (hx : 0 ≤ x ∧ x < 4294967296) (hy : 0 ≤ y ∧ y < 4294967296) : Go.bits .or .u64 (IntKind.u64.wrap (x * 4294967296)) y = x * 4294967296 + y := by
  rw [or64, IntKind.wrap_u64]
  have e1 : x * 4294967296 % 18446744073709551616 = x * 4294967296 := by omega
  rw [e1, BitVec.toNat_or]
  have h1 := ofN64 (x := x * 4294967296) (by omega) (by omega)
  have h2 := ofN64 (x := y) (by omega) (by omega)
  have h3 : (BitVec.ofInt 64 (x * 4294967296)).toNat = 2 ^ 32 * x.toNat := by omega
  have h4 : (BitVec.ofInt 64 y).toNat = y.toNat := by omega
  rw [h3, h4, ← Nat.two_pow_add_eq_or_of_lt (show y.toNat < 2 ^ 32 by omega)]
  omega
theorem low32 {x : Int} (hx : 0 ≤ x ∧ x < 18446744073709551616) : Go.bits .and .u64 x 4294967295 = x % 4294967296 := by
  rw [and64, BitVec.toNat_and]
  have h1 := ofN64 (x := x) hx.1 hx.2
  have h2 : (BitVec.ofInt 64 4294967295).toNat = 2 ^ 32 - 1 := by decide
  rw [h2, Nat.and_two_pow_sub_one_eq_mod]
  omega
end Bits32

/-! ### bits of a limb: the borrow -/
section Bits32b
theorem and32 (x y : Int) : Go.bits .and .u32 x y = ((BitVec.ofInt 32 x &&& BitVec.ofInt 32 y).toNat : Int) := b32 _
theorem or32 (x y : Int) : Go.bits .or .u32 x y = ((BitVec.ofInt 32 x ||| BitVec.ofInt 32 y).toNat : Int) := b32 _
theorem xor32 (x y : Int) : Go.bits .xor .u32 x y = ((BitVec.ofInt 32 x ^^^ BitVec.ofInt 32 y).toNat : Int) := b32 _
theorem ofb32 (v : BitVec 32) : BitVec.ofInt 32 (v.toNat : Int) = v := by
  rw [BitVec.ofInt_natCast]; simp
theorem ofN32 {x : Int} (h : 0 ≤ x) (h' : x < 4294967296) : ((BitVec.ofInt 32 x).toNat : Int) = x := by
  rw [BitVec.toNat_ofInt]; omega
theorem top32 (v : BitVec 32) : (v.toNat : Int) / 2147483648 = if v.msb then 1 else 0 := by
  have h := v.isLt
  rw [BitVec.msb_eq_decide]
  by_cases hv : 2147483648 ≤ v.toNat
  · rw [decide_eq_true hv]; simp only [if_true]; omega
  · rw [decide_eq_false hv]; simp only [Bool.false_eq_true, if_false]; omega
theorem msb32 {x : Int} (h : 0 ≤ x) (h' : x < 4294967296) : (BitVec.ofInt 32 x).msb = decide (2147483648 ≤ x) := by
  have := ofN32 h h'
  rw [BitVec.msb_eq_decide]
  by_cases hv : 2147483648 ≤ x
  · rw [decide_eq_true hv, decide_eq_true (show 2 ^ (32 - 1) ≤ (BitVec.ofInt 32 x).toNat by omega)]
  · rw [decide_eq_false hv, decide_eq_false (show ¬ 2 ^ (32 - 1) ≤ (BitVec.ofInt 32 x).toNat by omega)]
theorem borrow32 {x y d : Int} (hx : 0 ≤ x ∧ x < 4294967296) (hy : 0 ≤ y ∧ y < 4294967296) (hd : 0 ≤ d ∧ d < 4294967296) : (Go.bits .or .u32 (Go.bits .and .u32 (Go.bits .xor .u32 4294967295 x) y) (Go.bits .and .u32 (Go.bits .xor .u32 4294967295 (Go.bits .xor .u32 x y)) d)) / 2147483648 = if (x < 2147483648 ∧ 2147483648 ≤ y) ∨ ((x < 2147483648 ↔ y < 2147483648) ∧ 2147483648 ≤ d) then 1 else 0 := by
  rw [or32, top32]
  simp only [and32, xor32, ofb32, BitVec.msb_or, BitVec.msb_and, BitVec.msb_xor]
  rw [msb32 hx.1 hx.2, msb32 hy.1 hy.2, msb32 hd.1 hd.2, msb32 (by omega) (by omega)]
  by_cases h1 : 2147483648 ≤ x <;> by_cases h2 : 2147483648 ≤ y <;> by_cases h3 : 2147483648 ≤ d <;> simp [h1, h2, h3] <;> omega
end Bits32b

/-! ### limbs: dividing by one limb, shifting -/
section NatShort
theorem short_run {B : Int} (hB : B = 4294967296) {l : List Int} {d : Int} (dl : Dg B l) (hd : 0 < d ∧ d < B) : ∀ k, k ≤ l.length → ∃ qs, (nat_short.run l d k).1 = List.replicate (l.length - k) 0 ++ qs ∧ qs.length = k ∧ Dg B qs ∧ 0 ≤ (nat_short.run l d k).2 ∧ (nat_short.run l d k).2 < d ∧ vl B qs * d + (nat_short.run l d k).2 = vl B (l.drop (l.length - k))
  | 0, _ => ⟨[], by simp [nat_short.run], rfl, .nil, by simp [nat_short.run], by simp [nat_short.run]; omega, by simp [nat_short.run, vl]⟩
  | k + 1, h => by
    obtain ⟨qs, h1, h2, h3, h4, h5, h6⟩ := short_run hB dl hd k (by omega)
    have hx := dl.place (show 0 < B by omega) ((l.length - 1 - k : Nat) : Int)
    have e1 : l[l.length - 1 - k]?.getD 0 = rd l ((l.length - 1 - k : Nat) : Int) := rd_nat.symm
    have e2 := vl_drop (B := B) (l := l) (i := l.length - 1 - k) (by omega)
    rw [show l.length - 1 - k + 1 = l.length - k by omega] at e2
    unfold nat_short.run
    rw [e1]
    generalize (nat_short.run l d k).2 = r at *
    generalize rd l ((l.length - 1 - k : Nat) : Int) = x at *
    have et : nat_short.t d r x = r * 4294967296 + x := by
      unfold nat_short.t
      rw [u64id (x := x) (by omega) (by omega)]
      exact join64 (by omega) (by omega)
    have hlt : r * 4294967296 + x < d * 4294967296 := by omega
    have hq0 : 0 ≤ (r * 4294967296 + x) / d := Int.ediv_nonneg (by omega) (by omega)
    have hq1 : (r * 4294967296 + x) / d < 4294967296 := Int.ediv_lt_of_lt_mul hd.1 (by omega)
    have hm := Int.emod_add_mul_ediv (r * 4294967296 + x) d
    have hm0 := Int.emod_nonneg (r * 4294967296 + x) (show d ≠ 0 by omega)
    have hm1 := Int.emod_lt_of_pos (r * 4294967296 + x) hd.1
    rw [et, u64id (x := d) (by omega) (by omega), tdiv10 (x := r * 4294967296 + x) (by omega), tmod10 (x := r * 4294967296 + x) (by omega), u64id (x := (r * 4294967296 + x) / d) hq0 (by omega), show IntKind.u32.wrap ((r * 4294967296 + x) / d) = (r * 4294967296 + x) / d by rw [IntKind.wrap_u32]; omega]
    refine ⟨(r * 4294967296 + x) / d :: qs, ?_, by simp [h2], ?_, hm0, hm1, ?_⟩
    · dsimp only
      rw [h1, show l.length - k = (l.length - (k + 1)) + 1 by omega, List.replicate_succ', List.append_assoc, List.set_append_right _ _ (by simp; omega)]
      simp only [List.length_replicate]
      rw [show l.length - 1 - k - (l.length - (k + 1)) = 0 by omega]
      rfl
    · intro y hy
      rcases List.mem_cons.1 hy with rfl | hy
      · exact ⟨hq0, by omega⟩
      · exact h3 y hy
    · dsimp only
      rw [vl_cons, show l.length - (k + 1) = l.length - 1 - k by omega, e2, ← h6]
      generalize (r * 4294967296 + x) / d = q at *
      generalize (r * 4294967296 + x) % d = m at *
      generalize vl B qs = vq at *
      rw [hB]
      grind
theorem nat_short.ev {B : Int} (hB : B = 4294967296) {l : List Int} {d : Int} (hl : l.length ≤ 1000000) (dl : Dg B l) (hd : 0 < d ∧ d < B) : Ev (fun k => nat_short.f k l d) (cn B (vl B l / d), vl B l % d) := by
  obtain ⟨qs, h1, h2, h3, h4, h5, h6⟩ := short_run hB dl hd l.length (Nat.le_refl _)
  rw [Nat.sub_self, List.drop_zero] at h6
  rw [Nat.sub_self] at h1
  have hq : vl B l / d = vl B qs := by
    rw [← h6, Int.mul_comm, Int.add_comm, Int.add_mul_ediv_left _ _ (by omega), Int.ediv_eq_zero_of_lt h4 h5]; omega
  have hr : vl B l % d = (nat_short.run l d l.length).2 := by
    rw [← h6, Int.mul_comm, Int.add_comm, Int.add_mul_emod_self_left, Int.emod_eq_of_lt h4 h5]
  refine ev_pos (by omega) (ev_neg (by rw [u64id (by omega) (by omega)]; omega) ?_)
  rw [h1, List.replicate_zero, List.nil_append]
  refine Ev.bind (nat_trim.ev (x := qs) (by omega)) (ev_ret ?_)
  rw [tr_cn (B := B) (by omega) h3, hq, hr, show IntKind.u32.wrap (nat_short.run l d l.length).2 = (nat_short.run l d l.length).2 by rw [IntKind.wrap_u32]; omega]
end NatShort

/-! ### limbs: shifting -/
section NatLeft
theorem pow2_nat (n : Nat) : (2 : Int) ^ n = ((2 ^ n : Nat) : Int) := by simp
theorem or32_disj {c y : Int} {n : Nat} (hn : n < 32) (hc : 0 ≤ c ∧ c < 2 ^ n) (hy : 0 ≤ y ∧ y < 4294967296) (hd : y % 2 ^ n = 0) : Go.bits .or .u32 c y = c + y := by
  have hp : (2 : Int) ^ n ≤ 2 ^ 31 := pow_le (by omega) (by omega)
  rw [or32, BitVec.toNat_or]
  have h1 := ofN32 (x := c) hc.1 (by omega)
  have h2 := ofN32 (x := y) hy.1 hy.2
  have h3 : (BitVec.ofInt 32 c).toNat = c.toNat := by omega
  have h4 : (BitVec.ofInt 32 y).toNat = 2 ^ n * (y / 2 ^ n).toNat := by
    have e := Int.emod_add_mul_ediv y (2 ^ n)
    have h0 : 0 ≤ y / 2 ^ n := Int.ediv_nonneg hy.1 (by have := pow_pos' (show (0 : Int) < 2 by omega) n; omega)
    rw [hd, Int.zero_add, pow2_nat] at e
    have : (((2 ^ n * (y / 2 ^ n).toNat : Nat)) : Int) = y := by
      rw [Int.natCast_mul, Int.toNat_of_nonneg h0]
      rw [pow2_nat]
      exact e
    omega
  have h5 := Nat.two_pow_add_eq_or_of_lt (i := n) (b := c.toNat) (by have h6 := hc.2; rw [pow2_nat] at h6; omega) (y / 2 ^ n).toNat
  rw [h3, h4, Nat.or_comm, ← h5]
  omega
theorem shl_id {x : Int} {n : Nat} (hx : 0 ≤ x ∧ x < 4294967296) (hn : n < 32) : shl .u64 (IntKind.u64.wrap x) (n : Int) = x * 2 ^ n := by
  have hp : (2 : Int) ^ n ≤ 2 ^ 31 := pow_le (by omega) (by omega)
  have hp0 := pow_pos' (show (0 : Int) < 2 by omega) n
  unfold shl
  rw [natT, show min n IntKind.u64.bits = n from Nat.min_eq_left (by simp [IntKind.bits]; omega), u64id (x := x) (by omega) (by omega)]
  have h1 := Int.mul_le_mul_of_nonneg_left hp hx.1
  have h2 := Int.mul_nonneg hx.1 (show 0 ≤ (2 : Int) ^ n by omega)
  exact u64id h2 (by omega)
theorem shift_low {x : Int} {n : Nat} (hn : n < 32) : x * 2 ^ n % 4294967296 % 2 ^ n = 0 := by
  have : (4294967296 : Int) = 2 ^ (32 - n) * 2 ^ n := by
    rw [← Int.pow_add, Nat.sub_add_cancel (by omega)]; rfl
  rw [Int.emod_emod_of_dvd _ ⟨2 ^ (32 - n), by rw [Int.mul_comm]; exact this⟩, Int.mul_emod_left]
theorem left_step {V P c T x S : Int} (B : Int) (h : V + P * c = T * S) : V + P * (c + x * S % B) + P * B * (x * S / B) = (T + P * x) * S := by
  have := Int.emod_add_mul_ediv (x * S) B
  grind
theorem nat_left.l0_ev {B : Int} (hB : B = 4294967296) {n : Nat} (hn : n < 32) {a : List Int} (ha : a.length ≤ 1000000) (da : Dg B a) : ∀ (m : Nat) (p : List Int) (c : Int), p.length + m = a.length → Dg B p → 0 ≤ c ∧ c < 2 ^ n → vl B p + B ^ p.length * c = vl B (a.take p.length) * 2 ^ n → ∃ r, Ev (fun k => nat_left.l0 k (n : Int) ((p ++ [c]) ++ List.replicate m 0) a (a.length : Int) (p.length : Int)) r ∧ Dg B r ∧ r.length = a.length + 1 ∧ vl B r = vl B a * 2 ^ n
  | 0, p, c, hp, dp, hc, hv => by
    have hpn : (2 : Int) ^ n ≤ 2 ^ 31 := pow_le (by omega) (by omega)
    refine ⟨p ++ [c], Ev.step (fun k => nat_left.l0.eq_2 _ _ _ _ _ _) (ev_neg (by omega) (ev_ret (by simp))), dp.snoc hc.1 (by omega), by simp; omega, ?_⟩
    rw [vl_snoc, hv, List.take_of_length_le (by omega)]
  | m + 1, p, c, hp, dp, hc, hv => by
    have hpn : (2 : Int) ^ n ≤ 2 ^ 31 := pow_le (by omega) (by omega)
    have hp0 := pow_pos' (show (0 : Int) < 2 by omega) n
    have hx := da.place (show 0 < B by omega) (p.length : Int)
    have hs := left_step (x := rd a p.length) B hv
    rw [← vl_take_succ] at hs
    have hxs := Int.mul_nonneg hx.1 (show 0 ≤ (2 : Int) ^ n by omega)
    have hxs2 := Int.mul_le_mul_of_nonneg_left hpn hx.1
    have hlow := shift_low (x := rd a p.length) hn
    have hhi : rd a p.length * 2 ^ n / 4294967296 < 2 ^ n := Int.ediv_lt_of_lt_mul (by omega) (by rw [Int.mul_comm]; exact Int.mul_lt_mul_of_pos_left (by omega) hp0)
    have hsum : c + rd a p.length * 2 ^ n % 4294967296 < 4294967296 := by
      have e : (4294967296 : Int) = 2 ^ (32 - n) * 2 ^ n := by rw [← Int.pow_add, Nat.sub_add_cancel (by omega)]; rfl
      have h1 := Int.emod_add_mul_ediv (rd a p.length * 2 ^ n % 4294967296) (2 ^ n)
      rw [hlow, Int.zero_add] at h1
      have h2 : rd a p.length * 2 ^ n % 4294967296 / 2 ^ n < 2 ^ (32 - n) := Int.ediv_lt_of_lt_mul hp0 (by rw [Int.mul_comm, Int.mul_comm (2 ^ n), ← e]; omega)
      have h3 := Int.mul_le_mul_of_nonneg_left (show rd a p.length * 2 ^ n % 4294967296 / 2 ^ n + 1 ≤ 2 ^ (32 - n) by omega) (show 0 ≤ (2 : Int) ^ n by omega)
      rw [Int.mul_comm (2 ^ n) (2 ^ (32 - n)), ← e, Int.mul_add, h1] at h3
      omega
    obtain ⟨r, h1, h2, h3, h4⟩ := nat_left.l0_ev hB hn ha da m (p ++ [c + rd a p.length * 2 ^ n % 4294967296]) (rd a p.length * 2 ^ n / 4294967296) (by simp; omega) (dp.snoc (by omega) (by omega)) ⟨by omega, hhi⟩ (by
      rw [vl_snoc, List.length_append, List.length_singleton, Int.pow_succ, ← hB]; exact hs)
    refine ⟨r, Ev.step (fun k => nat_left.l0.eq_2 _ _ _ _ _ _) ?_, h2, h3, h4⟩
    rw [List.length_append, List.length_singleton] at h1
    have erd : rd ((p ++ [c]) ++ List.replicate (m + 1) 0) (p.length : Int) = c := by
      rw [rd_nat, List.append_assoc, List.getElem?_append_right (by simp)]; simp
    rw [suc (by omega), natT, natT, erd, shl_id (by omega) hn, or32_disj hn hc (by omega) hlow, show rd a p.length * 2 ^ n / 4294967296 % 4294967296 = rd a p.length * 2 ^ n / 4294967296 by omega]
    have eset : (((p ++ [c]) ++ List.replicate (m + 1) 0).set p.length (c + rd a p.length * 2 ^ n % 4294967296)).set (p.length + 1) (rd a p.length * 2 ^ n / 4294967296) = ((p ++ [c + rd a p.length * 2 ^ n % 4294967296]) ++ [rd a p.length * 2 ^ n / 4294967296]) ++ List.replicate m 0 := by
      rw [List.append_assoc, List.set_append_right _ _ (by simp), Nat.sub_self]
      simp only [List.replicate_succ, List.singleton_append, List.set_cons_zero]
      rw [List.set_append_right _ _ (by simp)]
      simp
    rw [eset]
    exact ev_pos (by omega) (ev_pos (by omega) (ev_pos (by omega) (ev_pos (by omega) (ev_pos (by simp; omega) (ev_pos (by omega) (ev_pos (by simp; omega) h1))))))
theorem nat_left.ev {B : Int} (hB : B = 4294967296) {n : Nat} (hn : n < 32) {a : List Int} (ha : a.length ≤ 1000000) (da : Dg B a) : ∃ r, Ev (fun k => nat_left.f k a (n : Int)) r ∧ Dg B r ∧ r.length = a.length + 1 ∧ vl B r = vl B a * 2 ^ n := by
  obtain ⟨r, h1, h2⟩ := nat_left.l0_ev hB hn ha da a.length [] 0 (by simp) .nil ⟨by omega, pow_pos' (by omega) n⟩ (by simp [vl])
  refine ⟨r, ?_, h2⟩
  unfold nat_left.f
  rw [suc (by omega), natT]
  exact ev_pos (by omega) (ev_pos (by omega) h1)
end NatLeft

/-! ### limbs: small numbers -/
section NatOf
variable {B : Int}
theorem wpred (n : Nat) (h : n ≤ 1000000000) : wrap64 ((n : Int) - 1) = (n : Int) - 1 := wr (by omega) (by omega)
theorem nat_Of.ev (hB : B = 4294967296) {x : Int} (h0 : 0 ≤ x) (h1 : x < 18446744073709551616) : Ev (fun k => nat_Of.f k x) (cn B x) := by
  have d : Dg B [x % 4294967296, x / 4294967296 % 4294967296] := by
    intro y hy
    simp only [List.mem_cons, List.not_mem_nil, or_false] at hy
    rcases hy with rfl | rfl <;> omega
  have := nat_Norm.ev (x := [x % 4294967296, x / 4294967296 % 4294967296]) (by simp)
  rw [tr_cn (by omega) d] at this
  refine Ev.bind this (ev_ret ?_)
  congr 1
  simp [vl]
  rw [hB]; omega
/-- The last place of a row without noughts at its end. -/
theorem last_pos {l : List Int} (d : Dg B l) (hB : 0 < B) (ht : tr l = l) {m : Nat} (h : l.length = m + 1) : 0 < rd l (m : Int) := by
  have hd := d.place hB (m : Int)
  rcases (show rd l (m : Int) = 0 ∨ 0 < rd l (m : Int) by omega) with h0 | h0
  · exfalso
    have h1 := trS (l := l) (n := m) (by omega) h0
    rw [show m + 1 = l.length by omega, List.take_length, ht] at h1
    have := tr_length (l.take m)
    rw [h1] at this
    simp at this
    omega
  · exact h0
end NatOf

/-! ### shifting, and how many binary digits -/
section Shifts
variable {B : Int}
theorem IsZero_ev {B : Int} (h2 : 2 ≤ B) {a : List Int} (ha : a.length ≤ 1000000) (da : Dg B a) : Ev (fun k => nat_IsZero.f k a) (((cn B (vl B a)).length : Int) == 0) := by
  have := nat_trim.ev (x := a) (by omega)
  rw [tr_cn h2 da] at this
  exact Ev.bind this (ev_ret rfl)
theorem pow2_32 (hB : B = 4294967296) (q : Nat) : B ^ q = 2 ^ (32 * q) := by
  rw [Int.pow_mul, hB]; rfl
theorem nat_Shift.ev (hB : B = 4294967296) {a : List Int} (ha : a.length ≤ 1000) (da : Dg B a) {n : Nat} (hn : n ≤ 65536) : Ev (fun k => nat_Shift.f k a (n : Int)) (cn B (vl B a * 2 ^ n), 0) := by
  have h2 : 2 ≤ B := by omega
  have la := tr_length a
  have ha0 := vl_nonneg (show 0 ≤ B by omega) da
  refine ev_neg (by omega) ?_
  rw [decide_eq_false (show ¬ (n : Int) > 65536 by omega)]
  refine Ev.step (fun k => nat_Shift.j0.eq_2 _ _ _ _) (ev_neg (by simp) (Ev.bind (IsZero_ev h2 (by omega) da) ?_))
  by_cases h0 : vl B a = 0
  · rw [h0, cn_zero (Int.le_refl _), Int.zero_mul, cn_zero (Int.le_refl _)]
    exact ev_pos rfl (ev_ret rfl)
  · have hp : 0 < (cn B (vl B a)).length := List.length_pos_iff.2 (cn_nil h2 (by omega))
    refine ev_neg (by simp; intro e; rw [e] at hp; simp at hp) ?_
    have e1 : wrap64 (Int.tdiv (n : Int) 32) = ((n / 32 : Nat) : Int) := by
      rw [tdiv10 (by omega), wr (n := (n : Int) / 32) (by omega) (by omega)]; omega
    have e2 : IntKind.u64.wrap (Int.tmod (n : Int) 32) = ((n % 32 : Nat) : Int) := by
      rw [tmod10 (by omega), u64id (by omega) (by omega)]; omega
    rw [e1, e2, natT]
    obtain ⟨r, r1, r2, r3, r4⟩ := nat_left.ev hB (n := n % 32) (by omega) (a := tr a) (by omega) (tr_Dg da)
    refine ev_pos (Int.natCast_nonneg _) (ev_pos (by clear e1 e2; omega) (ev_some rfl (Ev.bind (nat_trim.ev (x := a) (by omega)) (Ev.bind r1 (ev_pos (by simp; clear e1 e2; omega) ?_)))))
    refine Ev.bind (nat_trim.ev (x := List.replicate (n / 32) 0 ++ r) (by simp; clear e1 e2; omega)) (ev_ret ?_)
    rw [tr_cn h2 (Dg.app (.zeros (by omega) _) r2), vl_app, vl_zeros, r4, tr_vl, List.length_replicate, pow2_32 hB, Int.zero_add]
    congr 2
    rw [Int.mul_comm, Int.mul_assoc, ← Int.pow_add, Nat.mod_add_div]
theorem nat_Shift.bad {a : List Int} {n : Int} (h : n < 0 ∨ n > 65536) : Ev (fun k => nat_Shift.f k a n) ([], 1) := by
  have j : Ev (fun k => nat_Shift.j0 k a n true) ([], 1) := Ev.step (fun k => nat_Shift.j0.eq_2 _ _ _ _) (ev_pos rfl (ev_ret rfl))
  refine ev_ite (fun _ => j) (fun h1 => ?_)
  rw [decide_eq_true (show n > 65536 by omega)]
  exact j
theorem rshift_l0 {n : Nat} (hn : n ≤ 1000) : ∀ (m i : Nat) (v : Int), i + m = n → Fit (v * 2 ^ m) → 0 ≤ v → Ev (fun k => whetstoneref01_Shift.l0 k (n : Int) (cn 10 v) (i : Int)) (cn 10 (v * 2 ^ m))
  | 0, i, v, h, hf, hv => Ev.step (fun k => whetstoneref01_Shift.l0.eq_2 _ _ _ _) (ev_neg (by omega) (ev_ret (by simp)))
  | m + 1, i, v, h, hf, hv => by
    have e : v * 2 ^ (m + 1) = v * 2 * 2 ^ m := by rw [Int.pow_succ]; grind
    have h1 : v ≤ v * 2 ^ (m + 1) := by
      have := Int.mul_le_mul_of_nonneg_left (show 1 ≤ (2 : Int) ^ (m + 1) from pow_pos' (by omega) _) hv
      omega
    have hl := (hf.le hv h1).len
    have ht := times_ev (a := cn 10 v) (n := 2) (by omega) (by omega) (D10 _)
    rw [V10 hv] at ht
    refine Ev.step (fun k => whetstoneref01_Shift.l0.eq_2 _ _ _ _) (ev_pos (by clear h1; omega) (Ev.bind ht ?_))
    rw [suc (by clear h1; omega), e]
    exact rshift_l0 hn m (i + 1) (v * 2) (by clear h1; omega) (e ▸ hf) (by clear h1; omega)
theorem rshift_ev {n : Nat} (hn : n ≤ 1000) {v : Int} (hf : Fit (v * 2 ^ n)) (hv : 0 ≤ v) : Ev (fun k => whetstoneref01_Shift.f k (cn 10 v) (n : Int)) (cn 10 (v * 2 ^ n)) := by
  have h1 : v ≤ v * 2 ^ n := by
    have := Int.mul_le_mul_of_nonneg_left (show 1 ≤ (2 : Int) ^ n from pow_pos' (by omega) _) hv
    omega
  have hl := (hf.le hv h1).len
  have ht := ref_trim.cn (x := cn 10 v) (by clear h1; omega) (D10 _)
  rw [V10 hv] at ht
  exact Ev.bind ht (rshift_l0 hn n 0 v (by clear h1; omega) hf hv)
/-- How often a number can be halved. -/
def bl (n : Nat) : Nat := if h : n = 0 then 0 else bl (n / 2) + 1
termination_by n
decreasing_by omega
theorem bl_zero : bl 0 = 0 := by rw [bl, dif_pos rfl]
theorem bl_pos {n : Nat} (h : n ≠ 0) : bl n = bl (n / 2) + 1 := by rw [bl, dif_neg h]
theorem bl_le : ∀ (k n : Nat), n < 2 ^ k → bl n ≤ k
  | 0, n, h => by rw [show n = 0 by simpa using h, bl_zero]; exact Nat.le_refl _
  | k + 1, n, h => by
    by_cases h0 : n = 0
    · rw [h0, bl_zero]; exact Nat.zero_le _
    · rw [bl_pos h0]
      have := bl_le k (n / 2) (by rw [Nat.pow_succ] at h; omega)
      omega
theorem bl_lib : ∀ (x : Nat), x < 2 ^ 64 → Lib.bitLen x = bl x := by
  intro x
  induction x using Nat.strongRecOn with
  | _ x ih =>
    intro h
    by_cases h0 : x = 0
    · subst h0; rw [bl_zero]; decide
    · rw [Lib.bitLen_half x h0 h, bl_pos h0, ih (x / 2) (by omega) (by omega)]; omega
theorem bl_shift : ∀ (k x y : Nat), y < 2 ^ k → x ≠ 0 → bl (y + 2 ^ k * x) = k + bl x
  | 0, x, y, h, hx => by
    have : y = 0 := by simpa using h
    rw [this]; simp
  | k + 1, x, y, h, hx => by
    have hp := Nat.two_pow_pos k
    have e : (y + 2 ^ (k + 1) * x) / 2 = y / 2 + 2 ^ k * x := by
      rw [Nat.pow_succ, show y + 2 ^ k * 2 * x = y + 2 * (2 ^ k * x) by rw [Nat.mul_comm (2 ^ k) 2, Nat.mul_assoc]]
      omega
    have hne : y + 2 ^ (k + 1) * x ≠ 0 := by
      have := Nat.mul_pos (Nat.two_pow_pos (k + 1)) (Nat.pos_of_ne_zero hx)
      omega
    rw [bl_pos hne, e, bl_shift k x (y / 2) (by rw [Nat.pow_succ] at h; omega) hx]; omega
theorem nat_Bits.ev (hB : B = 4294967296) {a : List Int} (ha : a.length ≤ 1000) (da : Dg B a) : Ev (fun k => nat_Bits.f k a) ((bl (vl B a).toNat : Nat) : Int) := by
  have h2 : 2 ≤ B := by omega
  have hB0 : 0 < B := by omega
  have la := tr_length a
  have ta := tr_tr a
  have da' := tr_Dg da
  have va := tr_vl (B := B) a
  refine Ev.bind (nat_trim.ev (x := a) (by omega)) ?_
  rw [← va]
  generalize tr a = x at *
  clear va
  by_cases h0 : x.length = 0
  · rw [List.length_eq_zero_iff.1 h0]
    refine ev_pos rfl (ev_ret ?_)
    rw [show (vl B []).toNat = 0 from rfl, bl_zero]; rfl
  · obtain ⟨m, hm⟩ : ∃ m, x.length = m + 1 := ⟨x.length - 1, by omega⟩
    have hp := last_pos da' hB0 ta hm
    have hd := da'.place hB0 (m : Int)
    have hlt := Int.lt_of_lt_of_le hd.2 (Int.le_of_eq hB)
    have e1 : wrap64 ((x.length : Int) - 1) = (m : Int) := by rw [wr (n := (x.length : Int) - 1) (by omega) (by omega)]; omega
    have hx : vl B x = vl B (x.take m) + B ^ m * rd x (m : Int) := by
      have := vl_take_succ (B := B) x m
      rw [List.take_of_length_le (show x.length ≤ m + 1 by clear e1; omega)] at this
      exact this
    have ht0 := vl_nonneg (Int.le_of_lt hB0) (da'.take m)
    have ht1 := vl_lt hB0 (da'.take m)
    rw [List.length_take, Nat.min_eq_left (by clear e1; omega), pow2_32 hB] at ht1
    rw [pow2_32 hB] at hx
    have hbl : bl (vl B x).toNat = 32 * m + bl (rd x (m : Int)).toNat := by
      have e : (vl B x).toNat = (vl B (x.take m)).toNat + 2 ^ (32 * m) * (rd x (m : Int)).toNat := by
        rw [hx, pow2_nat]
        rw [Int.toNat_add ht0 (Int.mul_nonneg (Int.natCast_nonneg _) hd.1), Int.toNat_mul (Int.natCast_nonneg _) hd.1, Int.toNat_natCast]
      rw [e, bl_shift _ _ _ (by rw [pow2_nat] at ht1; clear e1 hx; omega) (by clear e1 hx; omega)]
    have hle : bl (rd x (m : Int)).toNat ≤ 32 := bl_le 32 _ (by clear e1 hx hbl; omega)
    refine ev_neg (by clear e1 hx hbl; omega) ?_
    rw [e1]
    refine ev_pos (Int.natCast_nonneg _) (ev_pos (by clear e1 hx hbl; omega) (ev_some (a := ((bl (rd x (m : Int)).toNat : Nat) : Int)) ?_ (ev_ret ?_)))
    · unfold bits_Len32.f
      rw [if_pos (by clear e1 hx hbl; omega), bl_lib _ (by clear e1 hx hbl; omega)]
    · rw [hbl]
      have hm1 : m ≤ 1000 := by clear e1 hx hbl; omega
      generalize bl (rd x (m : Int)).toNat = z at *
      clear e1 hx hbl ht0 ht1 hd hp hlt
      rw [wr (n := 32 * (m : Int)) (by omega) (by omega), wr (n := 32 * (m : Int) + (z : Int)) (by omega) (by omega)]
      omega
theorem len2 : (cn 10 2).length ≤ 1000000 := Nat.le_trans (cn_length (k := 1) (by omega) (by decide)) (by omega)
theorem rbits_l0 : ∀ (m : Nat) (v c : Int), 0 ≤ v → v < 2 ^ m → m ≤ 10000 → 0 ≤ c → c + m ≤ 1000000 → Ev (fun k => whetstoneref01_Bits.l0 k c (cn 10 v) (cn 10 2)) (c + (bl v.toNat : Nat)) := by
  have zero : ∀ c : Int, Ev (fun k => whetstoneref01_Bits.l0 k c (cn 10 0) (cn 10 2)) (c + (bl (0 : Int).toNat : Nat)) := by
    intro c
    rw [cn_zero (Int.le_refl _)]
    refine Ev.step (fun k => whetstoneref01_Bits.l0.eq_2 _ _ _ _) (ev_neg (by simp) (ev_ret ?_))
    rw [show (0 : Int).toNat = 0 from rfl, bl_zero]; simp
  intro m
  induction m with
  | zero =>
    intro v c h0 h1 _ _ _
    have : v = 0 := by simp at h1; omega
    subst this
    exact zero c
  | succ m ih =>
    intro v c h0 h1 hm c0 c1
    by_cases hv : v = 0
    · subst hv; exact zero c
    · have hp : 0 < (cn 10 v).length := List.length_pos_iff.2 (cn_nil (by omega) (by omega))
      have hl : (cn 10 v).length ≤ 10000 := cn_length (by omega) (by
        have k1 : (2 : Int) ^ (m + 1) ≤ 10 ^ (m + 1) := by
          clear ih h1 zero
          induction m with
          | zero => decide
          | succ m ih2 =>
            rw [Int.pow_succ, Int.pow_succ 10]
            have := ih2 (by omega)
            have k3 := pow_pos' (show (0 : Int) < 2 by omega) (m + 1)
            omega
        have k2 := pow_le (B := 10) (by omega) hm
        omega)
      have hd := rdiv_ev (a := cn 10 v) (b := cn 10 2) (by omega) len2 (D10 _) (D10 _) (by rw [V10 (by omega)]; omega)
      rw [V10 h0, V10 (by omega)] at hd
      refine Ev.step (fun k => whetstoneref01_Bits.l0.eq_2 _ _ _ _) (ev_pos (by omega) (Ev.bind hd ?_))
      rw [wr (n := c + 1) (by omega) (by omega)]
      have := ih (v / 2) (c + 1) (by omega) (by rw [Int.pow_succ] at h1; omega) (by omega) (by omega)
      refine ev_cast (this (by omega)) ?_
      have e1 : bl v.toNat = bl (v / 2).toNat + 1 := by rw [bl_pos (show v.toNat ≠ 0 by omega)]; congr 2; omega
      rw [e1]; omega
theorem rbits_ev {v : Int} {m : Nat} (hm : m ≤ 10000) (h0 : 0 ≤ v) (h1 : v < 2 ^ m) (hf : Fit v) : Ev (fun k => whetstoneref01_Bits.f k (cn 10 v)) ((bl v.toNat : Nat) : Int) := by
  have hl := hf.len
  have ht := ref_trim.cn (x := cn 10 v) (by clear h1; omega) (D10 _)
  rw [V10 h0] at ht
  refine Ev.bind ht (Ev.bind (small_ev (n := 2) (by decide) (by decide)) ?_)
  have := rbits_l0 m v 0 h0 h1 hm (by decide) (by clear h1; omega)
  rw [Int.zero_add] at this
  exact this
end Shifts
theorem shifts_end (a : List Int) (n : Int) : Ev (fun k => whetstonelaw01_NatShifts.j0 k a n true) true :=
  Ev.step (fun k => whetstonelaw01_NatShifts.j0.eq_2 _ _ _ _) (ev_pos rfl (Ev.bind counted_ev (ev_ret rfl)))
theorem shifts_bad (a : List Int) {n : Int} (h : n < 0 ∨ n > 65536) : Ev (fun k => whetstonelaw01_NatShifts.j0 k a n false) true := by
  have j : Ev (fun k => whetstonelaw01_NatShifts.j1 k a n [] 1 true) true := Ev.step (fun k => whetstonelaw01_NatShifts.j1.eq_2 _ _ _ _ _ _) (ev_pos rfl (Ev.bind counted_ev (ev_pos rfl (ev_pos rfl (ev_ret rfl)))))
  refine Ev.step (fun k => whetstonelaw01_NatShifts.j0.eq_2 _ _ _ _) (ev_neg (by simp) (Ev.bind (nat_Shift.bad h) (ev_ite (fun _ => j) (fun h1 => ?_))))
  rw [decide_eq_true (show n > 65536 by omega)]
  exact j
theorem shifts_all {B : Int} (hB : B = 4294967296) {a : List Int} (ha : a.length ≤ 12) (da : Dg B a) {n : Nat} (hn : n ≤ 300) : Ev (fun k => whetstonelaw01_NatShifts.j0 k a (n : Int) false) true := by
  have h2 : 2 ≤ B := by omega
  have sa := Sm.of h2 da ha
  have ss : Sm B (12 + 10) (vl B a * 2 ^ n) := sa.mul h2 ⟨Int.le_of_lt (pow_pos' (by omega) n), by
    rw [pow2_32 hB]
    have := pow_le (B := 2) (by omega) (show n + 1 ≤ 32 * 10 by omega)
    have hp := pow_pos' (show (0 : Int) < 2 by omega) n
    rw [Int.pow_succ] at this
    omega⟩
  refine Ev.step (fun k => whetstonelaw01_NatShifts.j0.eq_2 _ _ _ _) (ev_neg (by simp) (Ev.bind (nat_Shift.ev hB (by omega) da (by omega)) (ev_neg (by omega) ?_)))
  rw [decide_eq_false (show ¬ (n : Int) > 65536 by omega)]
  refine Ev.step (fun k => whetstonelaw01_NatShifts.j1.eq_2 _ _ _ _ _ _) (ev_neg (by simp) ?_)
  refine Ev.bind (from_ev hB (by omega) da) (Ev.bind counted_ev (ev_pos rfl (ev_pos rfl ?_)))
  refine Ev.bind (rshift_ev (by omega) (ss.fit hB (by omega)) sa.1) (Ev.bind (limbs_ev hB ss (by omega)) ?_)
  refine Ev.bind (words_ev (Nat.le_trans (ss.len h2) (by omega)) rfl) (ev_pos rfl ?_)
  refine Ev.bind (nat_Bits.ev hB (by omega) da) (Ev.bind (rbits_ev (m := 32 * 12) (by omega) sa.1 (by rw [← pow2_32 hB]; exact sa.2) (sa.fit hB (by omega))) (ev_ret ?_))
  simp
/-- whatever the row and the number are, the law's call is true: the limbs that are shifted and the digits that are doubled are the same number's. -/
theorem NatShifts : whetstonelaw01_NatShifts.Pure := by
  intro l0 a1 _ _ d0 _
  refine Ev.rounds (ev_ite (fun _ => shifts_end _ _) (fun h0 => ev_ite (fun h1 => ?_) (fun h1 => ?_)))
  · by_cases h : a1 ≤ 65536
    · rw [decide_eq_true h]; exact shifts_end _ _
    · rw [decide_eq_false h]; exact shifts_bad _ (Or.inr (by omega))
  · by_cases h : a1 < 0
    · exact shifts_bad _ (Or.inl h)
    · obtain ⟨n, rfl⟩ := Int.eq_ofNat_of_zero_le (show 0 ≤ a1 by omega)
      exact shifts_all rfl (by omega) (Dg_of d0) (by omega)

end Go.Proofs.Ythodpjgmecnalaa.Pure
