/-
The plain law of NatRings: whatever the three rows are, the law's call is true: sums and products are told as numbers, and numbers' laws do the rest. No further condition.
-/
import Derived.Test.YthodpjgmecnalaaQNatRingsx7
set_option maxRecDepth 100000
set_option linter.unusedVariables false
set_option linter.unusedSimpArgs false
namespace Go.Proofs.Ythodpjgmecnalaa.Pure
open Go.RowKit Go.Proofs.Ythodpjgmecnalaa.QNatRings Go.Proofs.YthodpjgmecnalaaW.PrintWords Go.Proofs.YthodpjgmecnalaaW.PrintLast

/-! ### plain lemmas: rounds -/
section Base
variable {α β : Type}
theorem ev_pos {c : Prop} [Decidable c] {g f : Nat → Option α} {r : α} (hc : c) (h : Ev g r) : Ev (fun k => if c then g k else f k) r := by
  simpa only [if_pos hc] using h
theorem ev_neg {c : Prop} [Decidable c] {g f : Nat → Option α} {r : α} (hc : ¬ c) (h : Ev f r) : Ev (fun k => if c then g k else f k) r := by
  simpa only [if_neg hc] using h
theorem ev_ite {c : Prop} [Decidable c] {g f : Nat → Option α} {r : α} (h1 : c → Ev g r) (h2 : ¬ c → Ev f r) : Ev (fun k => if c then g k else f k) r := by
  by_cases hc : c
  · exact ev_pos hc (h1 hc)
  · exact ev_neg hc (h2 hc)
theorem ev_bind {g : Nat → Option α} {f : Nat → α → Option β} {a : α} {r : β} (h : Ev g a) (k : Ev (fun n => f n a) r) : Ev (fun n => (g n).bind (f n)) r := Ev.bind h k
theorem ev_some {o : Option α} {f : Nat → α → Option β} {a : α} {r : β} (h : o = some a) (k : Ev (fun n => f n a) r) : Ev (fun n => o.bind (f n)) r := by
  subst h; exact k
theorem ev_ret {a r : α} (h : a = r) : Ev (fun _ => some a) r := h ▸ Ev.now a
theorem ev_cast {g : Nat → Option α} {a r : α} (h : Ev g a) (e : a = r) : Ev g r := e ▸ h
theorem ev_ex {g : Nat → Option α} {r : α} (h : Ev g r) : ∃ k, g k = some r := h.rounds
theorem wr {n : Int} (h : -9223372036854775808 ≤ n) (h' : n ≤ 9223372036854775807) : wrap64 n = n := by unfold wrap64; omega
theorem drc {b : List α} {i : Nat} {c : α} {t : List α} (h : b.drop i = c :: t) : i < b.length ∧ b.drop (i + 1) = t ∧ b[i]? = some c := by
  have h1 : i < b.length := by
    rcases Nat.lt_or_ge i b.length with h1 | h1
    · exact h1
    · rw [List.drop_eq_nil_of_le h1] at h; cases h
  rw [List.drop_eq_getElem_cons h1] at h
  injection h with h2 h3
  exact ⟨h1, h3, by rw [List.getElem?_eq_getElem h1, h2]⟩
theorem drn {b : List α} {i : Nat} (h : b.drop i = []) : b.length ≤ i := by
  rcases Nat.lt_or_ge i b.length with h1 | h1
  · rw [List.drop_eq_getElem_cons h1] at h; cases h
  · exact h1
theorem rd_at {b : List Int} {i : Nat} {c : Int} (h : b[i]? = some c) : rd b (i : Int) = c := by
  unfold rd; rw [Int.toNat_natCast, List.getD_eq_getElem?_getD, h]; rfl
end Base

/-! ### numbers and their places -/
def vl (B : Int) : List Int → Int
  | [] => 0
  | x :: t => x + B * vl B t
def Dg (B : Int) (l : List Int) : Prop := ∀ x ∈ l, 0 ≤ x ∧ x < B
def tr : List Int → List Int
  | [] => []
  | x :: t => if tr t = [] ∧ x = 0 then [] else x :: tr t
def can (B n : Nat) : List Int := if h : n = 0 ∨ B < 2 then [] else ((n % B : Nat) : Int) :: can B (n / B)
termination_by n
decreasing_by exact Nat.div_lt_self (by omega) (by omega)
def cn (B v : Int) : List Int := can B.toNat v.toNat
section Num
variable {B : Int} {l : List Int}
theorem vl_cons (x : Int) (t : List Int) : vl B (x :: t) = x + B * vl B t := rfl
theorem cn_zero {v : Int} (h : v ≤ 0) : cn B v = [] := by
  unfold cn; rw [can, dif_pos (Or.inl (by omega))]
theorem cn_cons {v : Int} (hB : 2 ≤ B) (h : 0 < v) : cn B v = (v % B) :: cn B (v / B) := by
  unfold cn; rw [can, dif_neg (by omega)]
  obtain ⟨b, rfl⟩ := Int.eq_ofNat_of_zero_le (show 0 ≤ B by omega)
  obtain ⟨n, rfl⟩ := Int.eq_ofNat_of_zero_le (show 0 ≤ v by omega)
  rfl
theorem Dg.cons {x : Int} (h : Dg B (x :: l)) : (0 ≤ x ∧ x < B) ∧ Dg B l := ⟨h x (by simp), fun y hy => h y (by simp [hy])⟩
theorem Dg.nil : Dg B [] := fun _ h => by cases h
theorem Dg.app {l' : List Int} (h : Dg B l) (h' : Dg B l') : Dg B (l ++ l') := fun x hx => (List.mem_append.1 hx).elim (h x) (h' x)
theorem Dg.one {x : Int} (h : 0 ≤ x) (h' : x < B) : Dg B [x] := fun y hy => by rw [List.mem_singleton.1 hy]; exact ⟨h, h'⟩
theorem Dg.snoc {x : Int} (hl : Dg B l) (h : 0 ≤ x) (h' : x < B) : Dg B (l ++ [x]) := hl.app (.one h h')
theorem Dg.zeros (hB : 0 < B) (n : Nat) : Dg B (List.replicate n 0) := fun x hx => by rw [List.eq_of_mem_replicate hx]; exact ⟨Int.le_refl _, hB⟩
theorem Dg.take (h : Dg B l) (n : Nat) : Dg B (l.take n) := fun x hx => h x (List.mem_of_mem_take hx)
theorem Dg.drop (h : Dg B l) (n : Nat) : Dg B (l.drop n) := fun x hx => h x (List.mem_of_mem_drop hx)
theorem Dg.place (h : Dg B l) (hB : 0 < B) (i : Int) : 0 ≤ rd l i ∧ rd l i < B := by
  unfold rd
  rcases Nat.lt_or_ge i.toNat l.length with hi | hi
  · rw [List.getD_eq_getElem?_getD, List.getElem?_eq_getElem hi]; exact h _ (List.getElem_mem _)
  · rw [List.getD_eq_getElem?_getD, List.getElem?_eq_none hi]; exact ⟨Int.le_refl _, hB⟩
theorem rd_nat {i : Nat} : rd l (i : Int) = l[i]?.getD 0 := by
  unfold rd; rw [Int.toNat_natCast, List.getD_eq_getElem?_getD]
theorem rd_out {i : Nat} (h : l.length ≤ i) : rd l (i : Int) = 0 := by
  rw [rd_nat, List.getElem?_eq_none h]; rfl
theorem Dg.set (h : Dg B l) {i : Nat} {y : Int} (h0 : 0 ≤ y) (h1 : y < B) : Dg B (l.set i y) := fun x hx => by
  rcases List.mem_or_eq_of_mem_set hx with h2 | rfl
  · exact h x h2
  · exact ⟨h0, h1⟩
theorem vl_nonneg (hB : 0 ≤ B) : ∀ {l : List Int}, Dg B l → 0 ≤ vl B l
  | [], _ => Int.le_refl _
  | x :: t, h => by
    have h1 := h.cons
    have h2 := Int.mul_nonneg hB (vl_nonneg hB h1.2)
    rw [vl_cons]; omega
theorem pow_pos' (hB : 0 < B) (n : Nat) : 0 < B ^ n := Int.pow_pos hB
theorem vl_lt (hB : 0 < B) : ∀ {l : List Int}, Dg B l → vl B l < B ^ l.length
  | [], _ => by simp [vl]
  | x :: t, h => by
    have h1 := h.cons
    have h2 : vl B t + 1 ≤ B ^ t.length := vl_lt hB h1.2
    have h3 := Int.mul_le_mul_of_nonneg_left h2 (show 0 ≤ B by omega)
    rw [vl_cons, List.length_cons, Int.pow_succ]
    grind
theorem vl_app (a b : List Int) : vl B (a ++ b) = vl B a + B ^ a.length * vl B b := by
  induction a with
  | nil => simp [vl]
  | cons x t ih =>
    rw [List.cons_append, vl_cons, vl_cons, ih, List.length_cons, Int.pow_succ]; grind
theorem vl_one (x : Int) : vl B [x] = x := by simp [vl]
theorem vl_snoc (a : List Int) (x : Int) : vl B (a ++ [x]) = vl B a + B ^ a.length * x := by rw [vl_app, vl_one]
theorem vl_zeros (n : Nat) : vl B (List.replicate n 0) = 0 := by
  induction n with
  | zero => rfl
  | succ n ih => rw [List.replicate_succ, vl_cons, ih]; simp
theorem vl_take_succ (l : List Int) : ∀ (i : Nat), vl B (l.take (i + 1)) = vl B (l.take i) + B ^ i * rd l i := by
  induction l with
  | nil => intro i; simp [vl, rd]
  | cons x t ih =>
    intro i
    cases i with
    | zero => simp [vl, rd]
    | succ i =>
      rw [List.take_succ_cons, List.take_succ_cons, vl_cons, vl_cons, ih i, Int.pow_succ]
      have : rd (x :: t) ((i + 1 : Nat) : Int) = rd t i := by rw [rd_nat, rd_nat]; simp
      rw [this]; grind
theorem vl_set : ∀ (l : List Int) (i : Nat) (y : Int), i < l.length → vl B (l.set i y) = vl B l + B ^ i * (y - rd l i) := by
  intro l
  induction l with
  | nil => intro i y h; simp at h
  | cons x t ih =>
    intro i y h
    cases i with
    | zero => rw [List.set_cons_zero, vl_cons, vl_cons]; have : rd (x :: t) ((0 : Nat) : Int) = x := rfl
              rw [this]; simp; omega
    | succ i =>
      rw [List.set_cons_succ, vl_cons, vl_cons, ih i y (by simpa using h), Int.pow_succ]
      have : rd (x :: t) ((i + 1 : Nat) : Int) = rd t i := by rw [rd_nat, rd_nat]; simp
      rw [this]; grind
theorem rd_set (l : List Int) (i j : Nat) (y : Int) (h : i < l.length) : rd (l.set i y) j = if i = j then y else rd l j := by
  rw [rd_nat, rd_nat, List.getElem?_set]
  by_cases e : i = j
  · subst e; simp [h]
  · simp [e]
/-- The place i of a number. -/
theorem vl_split (i : Nat) (l : List Int) : vl B l = vl B (l.take i) + B ^ i * vl B (l.drop i) := by
  rcases Nat.lt_or_ge i l.length with h | h
  · have := vl_app (B := B) (l.take i) (l.drop i)
    rw [List.take_append_drop, List.length_take, Nat.min_eq_left (by omega)] at this
    exact this
  · rw [List.take_of_length_le h, List.drop_eq_nil_of_le h]; simp [vl]
theorem tr_vl : ∀ (l : List Int), vl B (tr l) = vl B l
  | [] => rfl
  | x :: t => by
    have ih := tr_vl t
    unfold tr
    split
    · next h => rw [h.1] at ih; rw [vl_cons, ← ih, h.2]; simp [vl]
    · rw [vl_cons, vl_cons, ih]
theorem tr_Dg : ∀ {l : List Int}, Dg B l → Dg B (tr l)
  | [], h => h
  | x :: t, h => by
    have h1 := h.cons
    unfold tr
    split
    · exact .nil
    · intro y hy
      rcases List.mem_cons.1 hy with rfl | hy
      · exact h1.1
      · exact tr_Dg h1.2 y hy
theorem tr_tr : ∀ (l : List Int), tr (tr l) = tr l
  | [] => rfl
  | x :: t => by
    have ih := tr_tr t
    rw [tr]
    split
    · rfl
    · next h => rw [tr, ih, if_neg h]
theorem tr_length : ∀ (l : List Int), (tr l).length ≤ l.length
  | [] => Nat.le_refl _
  | x :: t => by
    have ih := tr_length t
    rw [tr]
    split <;> simp <;> omega
theorem tr_snoc0 : ∀ (l : List Int), tr (l ++ [0]) = tr l
  | [] => by simp [tr]
  | x :: t => by rw [List.cons_append, tr, tr_snoc0 t, ← tr]
theorem tr_snoc {x : Int} (hx : x ≠ 0) : ∀ (l : List Int), tr (l ++ [x]) = l ++ [x]
  | [] => by simp [tr, hx]
  | y :: t => by
    rw [List.cons_append, tr, tr_snoc hx t, if_neg]
    intro h; have := congrArg List.length h.1; simp at this
theorem tr_tail {x : Int} {t : List Int} (h : tr (x :: t) = x :: t) : tr t = t := by
  rw [tr] at h
  split at h
  · cases h
  · injection h
theorem cn_self (hB : 2 ≤ B) : ∀ {l : List Int}, Dg B l → tr l = l → cn B (vl B l) = l
  | [], _, _ => cn_zero (by simp [vl])
  | x :: t, h, ht => by
    have h1 := h.cons
    have h2 := vl_nonneg (by omega) h1.2
    have ht2 := tr_tail ht
    have ih := cn_self hB h1.2 ht2
    have h3 := Int.mul_nonneg (show 0 ≤ B by omega) h2
    have hv : vl B (x :: t) = x + B * vl B t := rfl
    by_cases h0 : vl B (x :: t) = 0
    · exfalso
      have hx : x = 0 := by omega
      have hm : B * vl B t = 0 := by omega
      have hz : vl B t = 0 := by
        rcases Int.mul_eq_zero.1 hm with h | h
        · omega
        · exact h
      rw [hz, cn_zero (Int.le_refl _)] at ih
      rw [← ih, tr, hx] at ht
      simp [tr] at ht
    · rw [cn_cons hB (by omega)]
      have e1 : (x + B * vl B t) % B = x := by rw [Int.add_mul_emod_self_left, Int.emod_eq_of_lt h1.1.1 h1.1.2]
      have e2 : (x + B * vl B t) / B = vl B t := by
        rw [Int.add_mul_ediv_left _ _ (by omega), Int.ediv_eq_zero_of_lt h1.1.1 h1.1.2]; omega
      rw [hv, e1, e2, ih]
theorem tr_cn (hB : 2 ≤ B) (h : Dg B l) : tr l = cn B (vl B l) := by
  rw [← cn_self hB (tr_Dg h) (tr_tr l), tr_vl]
theorem cn_all (hB : 2 ≤ B) : ∀ (n : Nat) (v : Int), v.toNat ≤ n → Dg B (cn B v) ∧ tr (cn B v) = cn B v ∧ (0 ≤ v → vl B (cn B v) = v)
  | 0, v, h => by
    rw [cn_zero (by omega)]
    exact ⟨.nil, rfl, fun _ => by simp [vl]; omega⟩
  | n + 1, v, h => by
    by_cases h0 : v ≤ 0
    · rw [cn_zero h0]
      exact ⟨.nil, rfl, fun _ => by simp [vl]; omega⟩
    · rw [cn_cons hB (by omega)]
      have hq : v / B < v := Int.ediv_lt_of_lt_mul (by omega) (by
        have := Int.mul_lt_mul_of_pos_left (show (1 : Int) < B by omega) (show 0 < v by omega); omega)
      have hq0 : 0 ≤ v / B := Int.ediv_nonneg (by omega) (by omega)
      obtain ⟨i1, i2, i3⟩ := cn_all hB n (v / B) (by omega)
      have hm := Int.emod_add_mul_ediv v B
      have hm0 := Int.emod_nonneg v (show B ≠ 0 by omega)
      have hm1 := Int.emod_lt_of_pos v (show 0 < B by omega)
      refine ⟨fun y hy => ?_, ?_, fun _ => ?_⟩
      · rcases List.mem_cons.1 hy with rfl | hy
        · exact ⟨hm0, hm1⟩
        · exact i1 y hy
      · rw [tr, i2, if_neg]
        intro ⟨h1, h2⟩
        have i3 := i3 hq0
        rw [h1] at i3
        have : vl B [] = 0 := rfl
        rw [this] at i3
        rw [← i3, h2] at hm
        simp at hm
        omega
      · rw [vl_cons, i3 hq0]; exact hm
theorem cn_Dg (hB : 2 ≤ B) (v : Int) : Dg B (cn B v) := (cn_all hB _ v (Nat.le_refl _)).1
theorem cn_tr (hB : 2 ≤ B) (v : Int) : tr (cn B v) = cn B v := (cn_all hB _ v (Nat.le_refl _)).2.1
theorem vl_cn (hB : 2 ≤ B) {v : Int} (h : 0 ≤ v) : vl B (cn B v) = v := (cn_all hB _ v (Nat.le_refl _)).2.2 h
theorem cn_nil (hB : 2 ≤ B) {v : Int} (h : 0 < v) : cn B v ≠ [] := by rw [cn_cons hB h]; simp
theorem cn_length (hB : 2 ≤ B) : ∀ {k : Nat} {v : Int}, v < B ^ k → (cn B v).length ≤ k
  | 0, v, h => by rw [cn_zero (by simp at h; omega)]; simp
  | k + 1, v, h => by
    by_cases h0 : v ≤ 0
    · rw [cn_zero h0]; simp
    · rw [cn_cons hB (by omega), List.length_cons]
      have := cn_length hB (k := k) (v := v / B) (Int.ediv_lt_of_lt_mul (by omega) (by rw [← Int.pow_succ]; exact h))
      omega
theorem rep_set (p : List Int) (m : Nat) (y : Int) : (p ++ List.replicate (m + 1) 0).set p.length y = (p ++ [y]) ++ List.replicate m 0 := by
  rw [List.replicate_succ, List.set_append_right _ _ (Nat.le_refl _)]
  simp
theorem eqc (hB : 2 ≤ B) {a b : List Int} (ha : Dg B a) (hb : Dg B b) (h : vl B a = vl B b) : tr a = tr b := by
  rw [tr_cn hB ha, tr_cn hB hb, h]
end Num

/-! ### limbs: what the program's sums and products are -/
section Limbs
variable {B : Int}
theorem takeS {l : List Int} {n : Nat} (h : n < l.length) : l.take (n + 1) = l.take n ++ [rd l (n : Int)] := by
  rw [rd_nat, List.getElem?_eq_getElem h, List.take_succ_eq_append_getElem h]; rfl
theorem trS {l : List Int} {n : Nat} (h : n < l.length) (h0 : rd l (n : Int) = 0) : tr (l.take n) = tr (l.take (n + 1)) := by
  rw [takeS h, h0, tr_snoc0]
theorem trN {l : List Int} {n : Nat} (h : n < l.length) (h0 : ¬ rd l (n : Int) = 0) : l.take (n + 1) = tr (l.take (n + 1)) := by
  rw [takeS h, tr_snoc h0]
theorem pred {n : Nat} (h : n ≤ 1000000000) : wrap64 (((n + 1 : Nat) : Int) - 1) = (n : Int) := by rw [wr (by omega) (by omega)]; omega
theorem suc {n : Nat} (h : n ≤ 1000000000) : wrap64 ((n : Int) + 1) = ((n + 1 : Nat) : Int) := by rw [wr (by omega) (by omega)]; rfl
theorem natT (n : Nat) : ((n : Int)).toNat = n := Int.toNat_natCast n
theorem nat_trim.l0_ev (x : List Int) (hx : x.length ≤ 100000000) : ∀ n, n ≤ x.length → Ev (fun k => nat_trim.l0 k x (n : Int)) (tr (x.take n))
  | 0, _ => by
    refine Ev.step (fun k => nat_trim.l0.eq_2 _ _ _) ?_
    refine ev_neg (by omega) (ev_pos (by omega) (ev_pos (by omega) (ev_ret ?_)))
    simp [tr]
  | n + 1, h => by
    refine Ev.step (fun k => nat_trim.l0.eq_2 _ _ _) ?_
    rw [pred (by omega)]
    refine ev_pos (by omega) (ev_pos (by omega) (ev_pos (by omega) (ev_ite (fun h0 => ?_) (fun h0 => ?_))))
    · exact ev_cast (nat_trim.l0_ev x hx n (by omega)) (trS (by omega) h0)
    · exact ev_pos (by omega) (ev_pos (by omega) (ev_ret (by rw [natT]; exact trN (by omega) h0)))
theorem nat_trim.ev {x : List Int} (hx : x.length ≤ 100000000) : Ev (fun k => nat_trim.f k x) (tr x) := by
  have h := nat_trim.l0_ev x hx x.length (Nat.le_refl _)
  rw [List.take_length] at h
  exact h
theorem nat_Norm.l0_ev (x : List Int) (hx : x.length ≤ 100000000) : ∀ n, n ≤ x.length → Ev (fun k => nat_Norm.l0 k x (n : Int)) (tr (x.take n))
  | 0, _ => by
    refine Ev.step (fun k => nat_Norm.l0.eq_2 _ _ _) ?_
    refine ev_neg (by omega) (ev_pos (by omega) (ev_pos (by omega) (ev_pos (by simp) (ev_ret ?_))))
    simp [tr]
  | n + 1, h => by
    refine Ev.step (fun k => nat_Norm.l0.eq_2 _ _ _) ?_
    rw [pred (by omega)]
    refine ev_pos (by omega) (ev_pos (by omega) (ev_pos (by omega) (ev_ite (fun h0 => ?_) (fun h0 => ?_))))
    · exact ev_cast (nat_Norm.l0_ev x hx n (by omega)) (trS (by omega) h0)
    · exact ev_pos (by omega) (ev_pos (by omega) (ev_pos (by rw [natT]; simp only [List.length_nil, List.length_take]; omega) (ev_ret (by rw [natT, List.nil_append]; exact trN (by omega) h0))))
theorem nat_Norm.ev {x : List Int} (hx : x.length ≤ 100000000) : Ev (fun k => nat_Norm.f k x) (tr x) := by
  have h := nat_Norm.l0_ev x hx x.length (Nat.le_refl _)
  rw [List.take_length] at h
  exact h
theorem words_l0 (a : List Int) (ha : a.length ≤ 1000000) : ∀ m i, i + m = a.length → Ev (fun k => whetstoneref01_Words.l0 k a a (i : Int)) true
  | 0, i, h => by
    refine Ev.step (fun k => whetstoneref01_Words.l0.eq_2 _ _ _ _) ?_
    exact ev_neg (by omega) (ev_ret rfl)
  | m + 1, i, h => by
    refine Ev.step (fun k => whetstoneref01_Words.l0.eq_2 _ _ _ _) ?_
    rw [suc (by omega)]
    exact ev_pos (by omega) (ev_pos (by omega) (ev_pos (by omega) (ev_pos rfl (words_l0 a ha m (i + 1) (by omega)))))
theorem words_ev {a b : List Int} (ha : a.length ≤ 1000000) (h : a = b) : Ev (fun k => whetstoneref01_Words.f k a b) true := by
  subst h
  exact ev_pos rfl (words_l0 a ha a.length 0 (by omega))
theorem add32 {x y c : Int} (hx : 0 ≤ x ∧ x < 4294967296) (hy : 0 ≤ y ∧ y < 4294967296) (hc : 0 ≤ c ∧ c ≤ 1) : bits_Add32.f x y c = some ((x + y + c) % 4294967296, (x + y + c) / 4294967296) := by
  unfold bits_Add32.f
  simp only [IntKind.wrap_u64]
  congr 2 <;> omega
theorem add_step {P V A b x y c : Int} (h : V + P * c = A + b) : V + P * ((x + y + c) % B) + P * B * ((x + y + c) / B) = (A + P * x) + (b + P * y) := by
  have := Int.emod_add_mul_ediv (x + y + c) B
  grind
theorem nat_Add.l0_ev (hB : B = 4294967296) {a b : List Int} (ha : a.length ≤ 1000000) (hba : b.length ≤ a.length) (da : Dg B a) (db : Dg B b) : ∀ (m : Nat) (p : List Int) (c : Int), p.length + m = a.length → Dg B p → 0 ≤ c ∧ c ≤ 1 → vl B p + B ^ p.length * c = vl B (a.take p.length) + vl B (b.take p.length) → Ev (fun k => nat_Add.l0 k a b (p ++ List.replicate (m + 1) 0) c (a.length : Int) (p.length : Int)) (cn B (vl B a + vl B b))
  | 0, p, c, hp, dp, hc, hv => by
    refine Ev.step (fun k => nat_Add.l0.eq_2 _ _ _ _ _ _ _) ?_
    refine ev_neg (by omega) (ev_pos (by omega) (ev_pos (by simp; omega) ?_))
    rw [show (a.length : Int) = (p.length : Int) by omega, natT, rep_set, List.replicate_zero, List.append_nil]
    refine Ev.bind (nat_trim.ev (x := p ++ [c]) (by simp; omega)) (ev_ret ?_)
    rw [tr_cn (B := B) (by omega) (dp.snoc hc.1 (by omega)), vl_snoc, hv, List.take_of_length_le (by omega), List.take_of_length_le (by omega)]
  | m + 1, p, c, hp, dp, hc, hv => by
    have hx := da.place (by omega) (p.length : Int)
    have hy := db.place (by omega) (p.length : Int)
    have hs := add_step (B := B) (x := rd a p.length) (y := rd b p.length) hv
    rw [← vl_take_succ, ← vl_take_succ] at hs
    have key : ∀ z, z = rd b (p.length : Int) → Ev (fun k => (bits_Add32.f (rd a (p.length : Int)) z c).bind fun bt => if (p.length : Int) < ((p ++ List.replicate (m + 1 + 1) 0).length : Int) then (nat_Add.l0 k a b ((p ++ List.replicate (m + 1 + 1) 0).set (p.length : Int).toNat bt.1) bt.2 (a.length : Int) (wrap64 ((p.length : Int) + 1))) else none) (cn B (vl B a + vl B b)) := by
      intro z hz
      subst hz
      refine ev_some (add32 (by omega) (by omega) hc) ?_
      refine ev_pos (by simp; omega) ?_
      rw [natT, rep_set, suc (by omega)]
      have := nat_Add.l0_ev hB ha hba da db m (p ++ [(rd a (p.length : Int) + rd b (p.length : Int) + c) % 4294967296]) ((rd a (p.length : Int) + rd b (p.length : Int) + c) / 4294967296) (by simp; omega) (dp.snoc (by omega) (by omega)) (by omega) (by
        rw [vl_snoc, List.length_append, List.length_singleton, Int.pow_succ, ← hB]; exact hs)
      rw [List.length_append, List.length_singleton] at this
      exact this
    refine Ev.step (fun k => nat_Add.l0.eq_2 _ _ _ _ _ _ _) ?_
    refine ev_pos (by omega) (ev_ite (fun h0 => ?_) (fun h0 => ?_))
    · exact ev_pos (by omega) (ev_pos (by omega) (key _ rfl))
    · exact ev_pos (by omega) (ev_pos (by omega) (key _ (rd_out (by omega)).symm))
theorem nat_Add.j0_ev (hB : B = 4294967296) {a b : List Int} (ha : a.length ≤ 1000000) (hba : b.length ≤ a.length) (da : Dg B a) (db : Dg B b) : Ev (fun k => nat_Add.j0 k a b) (cn B (vl B a + vl B b)) := by
  refine Ev.step (fun k => nat_Add.j0.eq_2 _ _ _) ?_
  rw [suc (by omega), natT]
  refine ev_pos (by omega) (ev_pos (by omega) ?_)
  exact nat_Add.l0_ev hB ha hba da db a.length [] 0 (by simp) .nil (by omega) (by simp [vl])
theorem nat_Add.ev (hB : B = 4294967296) {a b : List Int} (ha : a.length ≤ 1000000) (hb : b.length ≤ 1000000) (da : Dg B a) (db : Dg B b) : Ev (fun k => nat_Add.f k a b) (cn B (vl B a + vl B b)) := by
  unfold nat_Add.f
  refine ev_ite (fun h => ?_) (fun h => ?_)
  · rw [Int.add_comm]; exact nat_Add.j0_ev hB hb (by omega) db da
  · exact nat_Add.j0_ev hB ha (by omega) da db
theorem u64id {x : Int} (h : 0 ≤ x) (h' : x < 18446744073709551616) : IntKind.u64.wrap x = x := by rw [IntKind.wrap_u64]; omega
theorem pow_le {i j : Nat} (hB : 1 ≤ B) (h : i ≤ j) : B ^ i ≤ B ^ j := by
  obtain ⟨d, rfl⟩ := Nat.le.dest h
  rw [Int.pow_add]
  have h1 := pow_pos' (show 0 < B by omega) i
  have h2 := pow_pos' (show 0 < B by omega) d
  have := Int.mul_le_mul_of_nonneg_left (show 1 ≤ B ^ d by omega) (show 0 ≤ B ^ i by omega)
  omega
theorem carry_step {V P T r t c : Int} (h : V + P * c = T) (ht : t = r + c) : V + P * (t % B - r) + P * B * (t / B) = T := by
  have := Int.emod_add_mul_ediv t B
  grind
theorem mul_fits {x y r c : Int} (hx : 0 ≤ x ∧ x < 4294967296) (hy : 0 ≤ y ∧ y < 4294967296) (hr : 0 ≤ r ∧ r < 4294967296) (hc : 0 ≤ c ∧ c < 4294967296) : 0 ≤ x * y ∧ x * y + r + c < 18446744073709551616 := by
  have h1 := Int.mul_nonneg hx.1 hy.1
  have h2 := Int.mul_le_mul_of_nonneg_left (show y ≤ 4294967295 by omega) hx.1
  omega
theorem nat_addTo.l1_ev (hB : B = 4294967296) (T : Int) : ∀ (m i : Nat) (row : List Int) (c : Int), i + m = row.length → row.length ≤ 1000000 → Dg B row → 0 ≤ c ∧ c < B → vl B row + B ^ i * c = T → T < B ^ row.length → ∃ r, Ev (fun k => nat_addTo.l1 k row c (i : Int)) r ∧ Dg B r ∧ r.length = row.length ∧ vl B r = T
  | 0, i, row, c, hi, hl, dr, hc, hv, hT => by
    have h0 : c = 0 := by
      have h1 := vl_nonneg (show 0 ≤ B by omega) dr
      have h2 := pow_pos' (show 0 < B by omega) i
      have e : i = row.length := by omega
      rw [← e] at hT
      rcases (show 0 < c ∨ c ≤ 0 by omega) with h | h
      · have := Int.mul_le_mul_of_nonneg_left (show 1 ≤ c by omega) (show 0 ≤ B ^ i by omega)
        omega
      · omega
    subst h0
    refine ⟨row, Ev.step (fun k => nat_addTo.l1.eq_2 _ _ _ _) (ev_neg (by omega) (ev_ret rfl)), dr, rfl, by simpa using hv⟩
  | m + 1, i, row, c, hi, hl, dr, hc, hv, hT => by
    have hr := dr.place (show 0 < B by omega) (i : Int)
    by_cases h0 : c = 0
    · subst h0
      refine ⟨row, Ev.step (fun k => nat_addTo.l1.eq_2 _ _ _ _) (ev_neg (by omega) (ev_ret rfl)), dr, rfl, by simpa using hv⟩
    · have hs := carry_step (B := B) (r := rd row i) (t := rd row i + c) hv rfl
      rw [← vl_set row i _ (by omega), ← Int.pow_succ] at hs
      obtain ⟨r, h1, h2, h3, h4⟩ := nat_addTo.l1_ev hB T m (i + 1) (row.set i ((rd row i + c) % B)) ((rd row i + c) / B) (by simp; omega) (by simp; omega) (dr.set (by subst hB; omega) (by subst hB; omega)) (by subst hB; omega) hs (by simpa using hT)
      refine ⟨r, Ev.step (fun k => nat_addTo.l1.eq_2 _ _ _ _) (ev_pos (by omega) (ev_pos (by omega) (ev_pos (by omega) ?_))), h2, by simpa using h3, h4⟩
      rw [natT, suc (by omega), u64id (x := rd row i) (by omega) (by omega), u64id (by omega) (by omega), ← hB]
      exact h1
theorem nat_addTo.l0_ev (hB : B = 4294967296) (row0 : List Int) (s : Nat) (x : Int) (b : List Int) (hx : 0 ≤ x ∧ x < B) (db : Dg B b) (hl : row0.length ≤ 1000000) (hsb : s + b.length ≤ row0.length) (hT : vl B row0 + x * (B ^ s * vl B b) < B ^ row0.length) : ∀ (m i : Nat) (row : List Int) (c : Int), i + m = b.length → row.length = row0.length → Dg B row → 0 ≤ c ∧ c < B → vl B row + B ^ (s + i) * c = vl B row0 + x * (B ^ s * vl B (b.take i)) → ∃ r, Ev (fun k => nat_addTo.l0 k row (s : Int) x b c b (b.length : Int) (i : Int)) r ∧ Dg B r ∧ r.length = row0.length ∧ vl B r = vl B row0 + x * (B ^ s * vl B b)
  | 0, i, row, c, hi, hr, dr, hc, hv => by
    rw [show b.take i = b from List.take_of_length_le (by omega), show i = b.length by omega] at hv
    obtain ⟨r, h1, h2, h3, h4⟩ := nat_addTo.l1_ev hB _ (row.length - (s + b.length)) (s + b.length) row c (by omega) (by omega) dr hc hv (by rw [hr]; exact hT)
    refine ⟨r, Ev.step (fun k => nat_addTo.l0.eq_2 _ _ _ _ _ _ _ _ _) (ev_neg (by omega) ?_), h2, by omega, h4⟩
    rw [wr (by omega) (by omega), show (s : Int) + (b.length : Int) = ((s + b.length : Nat) : Int) by omega]
    exact h1
  | m + 1, i, row, c, hi, hr, dr, hc, hv => by
    have hr0 := dr.place (show 0 < B by omega) ((s + i : Nat) : Int)
    have hy := db.place (show 0 < B by omega) (i : Int)
    have hf := mul_fits (x := x) (y := rd b i) (r := rd row ((s + i : Nat) : Int)) (c := c) (by omega) (by omega) (by omega) (by omega)
    have hq : (x * rd b i + rd row ((s + i : Nat) : Int) + c) / B < B := Int.ediv_lt_of_lt_mul (by omega) (by rw [hB]; omega)
    have hm0 := Int.emod_nonneg (x * rd b i + rd row ((s + i : Nat) : Int) + c) (show B ≠ 0 by omega)
    have hm1 := Int.emod_lt_of_pos (x * rd b i + rd row ((s + i : Nat) : Int) + c) (show 0 < B by omega)
    have hs : vl B (row.set (s + i) ((x * rd b i + rd row ((s + i : Nat) : Int) + c) % B)) + B ^ (s + (i + 1)) * ((x * rd b i + rd row ((s + i : Nat) : Int) + c) / B) = vl B row0 + x * (B ^ s * vl B (b.take (i + 1))) := by
      rw [vl_set row (s + i) _ (by omega), vl_take_succ, ← Nat.add_assoc, Int.pow_succ]
      have h1 := Int.emod_add_mul_ediv (x * rd b i + rd row ((s + i : Nat) : Int) + c) B
      have h2 : B ^ (s + i) = B ^ s * B ^ i := Int.pow_add _ _ _
      generalize B ^ (s + i) = P at *
      generalize (x * rd b i + rd row ((s + i : Nat) : Int) + c) % B = q at *
      generalize (x * rd b i + rd row ((s + i : Nat) : Int) + c) / B = q' at *
      generalize rd row ((s + i : Nat) : Int) = rr at *
      generalize rd b i = y at *
      generalize B ^ s = S at *
      generalize B ^ i = I at *
      grind
    obtain ⟨r, h1, h2, h3, h4⟩ := nat_addTo.l0_ev hB row0 s x b hx db hl hsb hT m (i + 1) (row.set (s + i) ((x * rd b i + rd row ((s + i : Nat) : Int) + c) % B)) ((x * rd b i + rd row ((s + i : Nat) : Int) + c) / B) (by omega) (by simp; omega) (dr.set hm0 hm1) ⟨Int.ediv_nonneg (by omega) (by omega), hq⟩ hs
    refine ⟨r, Ev.step (fun k => nat_addTo.l0.eq_2 _ _ _ _ _ _ _ _ _) ?_, h2, h3, h4⟩
    rw [show wrap64 ((s : Int) + (i : Int)) = ((s + i : Nat) : Int) by rw [wr (by omega) (by omega)]; omega, natT, suc (by omega), u64id (x := x) (by omega) (by omega), u64id (x := rd b i) (by omega) (by omega), u64id (x := rd row _) (by omega) (by omega), u64id (x := x * rd b i) (by omega) (by omega), u64id (x := x * rd b i + _) (by omega) (by omega), u64id (x := x * rd b i + _ + _) (by omega) (by omega), ← hB]
    exact ev_pos (by omega) (ev_pos (by omega) (ev_pos (by omega) (ev_pos (by omega) (ev_pos (by omega) h1))))
theorem nat_addTo.ev (hB : B = 4294967296) {row : List Int} {s : Nat} {x : Int} {b : List Int} (hx : 0 ≤ x ∧ x < B) (dr : Dg B row) (db : Dg B b) (hl : row.length ≤ 1000000) (hsb : s + b.length ≤ row.length) (hT : vl B row + x * (B ^ s * vl B b) < B ^ row.length) : ∃ r, Ev (fun k => nat_addTo.f k row (s : Int) x b) r ∧ Dg B r ∧ r.length = row.length ∧ vl B r = vl B row + x * (B ^ s * vl B b) :=
  nat_addTo.l0_ev hB row s x b hx db hl hsb hT b.length 0 row 0 (by omega) rfl dr (by omega) (by simp [vl])
theorem nat_Mul.l0_ev (hB : B = 4294967296) {a b : List Int} (ha : a.length + b.length ≤ 1000000) (da : Dg B a) (db : Dg B b) : ∀ (m i : Nat) (row : List Int), i + m = a.length → row.length = a.length + b.length → Dg B row → vl B row = vl B (a.take i) * vl B b → Ev (fun k => nat_Mul.l0 k b row a (a.length : Int) (i : Int)) (cn B (vl B a * vl B b))
  | 0, i, row, hi, hr, dr, hv => by
    refine Ev.step (fun k => nat_Mul.l0.eq_2 _ _ _ _ _ _) (ev_neg (by omega) (Ev.bind (nat_trim.ev (x := row) (by omega)) (ev_ret ?_)))
    rw [tr_cn (by omega) dr, hv, List.take_of_length_le (by omega)]
  | m + 1, i, row, hi, hr, dr, hv => by
    have hx := da.place (show 0 < B by omega) (i : Int)
    have e : vl B row + rd a i * (B ^ i * vl B b) = vl B (a.take (i + 1)) * vl B b := by rw [hv, vl_take_succ]; grind
    have hT : vl B row + rd a i * (B ^ i * vl B b) < B ^ row.length := by
      rw [e, hr]
      have h1 := vl_lt (show 0 < B by omega) (da.take (i + 1))
      rw [List.length_take, Nat.min_eq_left (by omega)] at h1
      have h2 := vl_lt (show 0 < B by omega) db
      have h3 := vl_nonneg (show 0 ≤ B by omega) db
      have h4 := pow_pos' (show 0 < B by omega) (i + 1)
      have h5 := Int.mul_le_mul_of_nonneg_right (show vl B (a.take (i + 1)) ≤ B ^ (i + 1) by omega) h3
      have h6 := Int.mul_lt_mul_of_pos_left h2 h4
      have h7 := pow_le (show 1 ≤ B by omega) (show i + 1 + b.length ≤ a.length + b.length by omega)
      rw [Int.pow_add _ (i + 1)] at h7
      omega
    obtain ⟨r, h1, h2, h3, h4⟩ := nat_addTo.ev hB (s := i) hx dr db (by omega) (by omega) hT
    refine Ev.step (fun k => nat_Mul.l0.eq_2 _ _ _ _ _ _) (ev_pos (by omega) (ev_pos (by omega) (ev_pos (by omega) (Ev.bind h1 ?_))))
    rw [suc (by omega)]
    exact nat_Mul.l0_ev hB ha da db m (i + 1) r (by omega) (by omega) h2 (by rw [h4, e])
theorem vl_empty {a : List Int} (h : a.length = 0) : vl B a = 0 := by rw [List.length_eq_zero_iff.1 h]; rfl
theorem nat_Mul.ev (hB : B = 4294967296) {a b : List Int} (ha : a.length + b.length ≤ 1000000) (da : Dg B a) (db : Dg B b) : Ev (fun k => nat_Mul.f k a b) (cn B (vl B a * vl B b)) := by
  have la := tr_length a
  have lb := tr_length b
  have hj : tr a ≠ [] → tr b ≠ [] → Ev (fun k => nat_Mul.j0 k (tr a) (tr b) false) (cn B (vl B a * vl B b)) := by
    intro h1 h2
    refine Ev.step (fun k => nat_Mul.j0.eq_2 _ _ _ _) (ev_neg (by simp) ?_)
    rw [show wrap64 (((tr a).length : Int) + ((tr b).length : Int)) = (((tr a).length + (tr b).length : Nat) : Int) by rw [wr (by omega) (by omega)]; omega, natT]
    refine ev_pos (by omega) (ev_pos (by omega) ?_)
    have := nat_Mul.l0_ev hB (a := tr a) (b := tr b) (by omega) (tr_Dg da) (tr_Dg db) (tr a).length 0 (List.replicate ((tr a).length + (tr b).length) 0) (by omega) (by simp) (.zeros (by omega) _) (by rw [vl_zeros]; simp [vl])
    rw [tr_vl, tr_vl] at this
    exact this
  have hz : vl B a * vl B b = 0 → Ev (fun k => nat_Mul.j0 k (tr a) (tr b) true) (cn B (vl B a * vl B b)) := by
    intro h
    rw [h, cn_zero (Int.le_refl _)]
    exact Ev.step (fun k => nat_Mul.j0.eq_2 _ _ _ _) (ev_pos rfl (ev_ret rfl))
  refine Ev.bind (nat_trim.ev (x := a) (by omega)) (Ev.bind (nat_trim.ev (x := b) (by omega)) ?_)
  refine ev_ite (fun h => hz ?_) (fun h => ?_)
  · rw [← tr_vl a, vl_empty (by omega)]; simp
  · by_cases hb : (tr b).length = 0
    · rw [show (((tr b).length : Int) == 0) = true by simp [hb]]
      exact hz (by rw [← tr_vl b, vl_empty hb]; simp)
    · rw [show (((tr b).length : Int) == 0) = false by simp; intro e; exact hb (by rw [e]; rfl)]
      exact hj (fun e => h (by rw [e]; rfl)) (fun e => hb (by rw [e]; rfl))
end Limbs

/-! ### how many places a number has -/
def Sm (B : Int) (n : Nat) (v : Int) : Prop := 0 ≤ v ∧ v < B ^ n
section Sizes
variable {B : Int}
theorem Sm.of (hB : 2 ≤ B) {l : List Int} {n : Nat} (h : Dg B l) (hl : l.length ≤ n) : Sm B n (vl B l) :=
  ⟨vl_nonneg (by omega) h, by have := vl_lt (show 0 < B by omega) h; have := pow_le (show 1 ≤ B by omega) hl; omega⟩
theorem Sm.add (hB : 2 ≤ B) {n m : Nat} {a b : Int} (ha : Sm B n a) (hb : Sm B m b) : Sm B (n + m + 1) (a + b) := by
  refine ⟨Int.add_nonneg ha.1 hb.1, ?_⟩
  have h1 := pow_le (show 1 ≤ B by omega) (show n ≤ n + m by omega)
  have h2 := pow_le (show 1 ≤ B by omega) (show m ≤ n + m by omega)
  have h3 := pow_pos' (show 0 < B by omega) (n + m)
  have h4 := Int.mul_le_mul_of_nonneg_left hB (show 0 ≤ B ^ (n + m) by omega)
  have := ha.2; have := hb.2
  rw [Int.pow_succ]; omega
theorem Sm.mul (hB : 2 ≤ B) {n m : Nat} {a b : Int} (ha : Sm B n a) (hb : Sm B m b) : Sm B (n + m) (a * b) := by
  refine ⟨Int.mul_nonneg ha.1 hb.1, ?_⟩
  have h1 := Int.mul_le_mul_of_nonneg_right (show a ≤ B ^ n by have := ha.2; omega) hb.1
  have h2 := Int.mul_lt_mul_of_pos_left hb.2 (pow_pos' (show 0 < B by omega) n)
  rw [Int.pow_add]; omega
theorem Sm.len (hB : 2 ≤ B) {n : Nat} {v : Int} (h : Sm B n v) : (cn B v).length ≤ n := cn_length hB h.2
theorem Sm.le (hB : 2 ≤ B) {n m : Nat} {v : Int} (h : Sm B n v) (hm : n ≤ m) : Sm B m v := ⟨h.1, by have := pow_le (show 1 ≤ B by omega) hm; have := h.2; omega⟩
theorem Sm.vl (hB : 2 ≤ B) {n : Nat} {v : Int} (h : Sm B n v) : vl B (cn B v) = v := vl_cn hB h.1
theorem Dg_of {l : List Int} (h : ∀ x ∈ l, (Lit.int .u32 x).wf = true) : Dg 4294967296 l := by
  intro x hx
  have := h x hx
  have e1 : IntKind.u32.min = 0 := rfl
  have e2 : IntKind.u32.max = 4294967295 := rfl
  simp [Lit.wf, e1, e2] at this
  omega
end Sizes
theorem counted_ev : Ev (fun k => whetstonelaw01_counted.f k) true := Ev.of (k := 60) whetstonelaw01_counted.mono (by decide +kernel)

theorem rings_end (l0 l1 l2 : List Int) : Ev (fun k => whetstonelaw01_NatRings.j0 k l0 l1 l2 true) true :=
  Ev.step (fun k => whetstonelaw01_NatRings.j0.eq_2 _ _ _ _ _) (ev_pos rfl (Ev.bind counted_ev (ev_ret rfl)))
theorem rings_all {B : Int} (hB : B = 4294967296) {a b c : List Int} (ha : a.length ≤ 12) (hb : b.length ≤ 12) (hc : c.length ≤ 12) (da : Dg B a) (db : Dg B b) (dc : Dg B c) : Ev (fun k => whetstonelaw01_NatRings.j0 k a b c false) true := by
  have h2 : 2 ≤ B := by omega
  have sa := Sm.of h2 da ha
  have sb := Sm.of h2 db hb
  have sc := Sm.of h2 dc hc
  have add : ∀ {x y : List Int} {n m : Nat} {v w : Int}, Dg B x → Dg B y → x.length ≤ n → y.length ≤ m → vl B x = v → vl B y = w → n ≤ 1000 → m ≤ 1000 → Ev (fun k => nat_Add.f k x y) (cn B (v + w)) := by
    intro x y n m v w hx hy hn hm e1 e2 _ _
    rw [← e1, ← e2]; exact nat_Add.ev hB (by omega) (by omega) hx hy
  have mul : ∀ {x y : List Int} {n m : Nat} {v w : Int}, Dg B x → Dg B y → x.length ≤ n → y.length ≤ m → vl B x = v → vl B y = w → n ≤ 1000 → m ≤ 1000 → Ev (fun k => nat_Mul.f k x y) (cn B (v * w)) := by
    intro x y n m v w hx hy hn hm e1 e2 _ _
    rw [← e1, ← e2]; exact nat_Mul.ev hB (by omega) hx hy
  have D : ∀ v, Dg B (cn B v) := cn_Dg h2
  have sab := sa.add h2 sb
  have scb := sc.add h2 sb
  have pab := sa.mul h2 sb
  have pba := sb.mul h2 sa
  have sbc := sb.add h2 sc
  have pca := sc.mul h2 sa
  refine Ev.step (fun k => whetstonelaw01_NatRings.j0.eq_2 _ _ _ _ _) (ev_neg (by simp) ?_)
  refine Ev.bind (add da db ha hb rfl rfl (by omega) (by omega)) ?_
  refine Ev.bind (add (D _) dc (sab.len h2) hc (sab.vl h2) rfl (by omega) (by omega)) ?_
  refine Ev.bind (add dc db hc hb rfl rfl (by omega) (by omega)) ?_
  refine Ev.bind (add da (D _) ha (scb.len h2) rfl (scb.vl h2) (by omega) (by omega)) ?_
  refine Ev.bind (words_ev (by have := ((sab.add h2 sc).len h2); omega) (by congr 1; omega)) (ev_pos rfl ?_)
  refine Ev.bind (mul da db ha hb rfl rfl (by omega) (by omega)) ?_
  refine Ev.bind (mul (D _) dc (pab.len h2) hc (pab.vl h2) rfl (by omega) (by omega)) ?_
  refine Ev.bind (mul db da hb ha rfl rfl (by omega) (by omega)) ?_
  refine Ev.bind (mul dc (D _) hc (pba.len h2) rfl (pba.vl h2) (by omega) (by omega)) ?_
  refine Ev.bind (words_ev (by have := ((pab.mul h2 sc).len h2); omega) (by congr 1; grind)) (ev_pos rfl ?_)
  refine Ev.bind (add db dc hb hc rfl rfl (by omega) (by omega)) ?_
  refine Ev.bind (mul da (D _) ha (sbc.len h2) rfl (sbc.vl h2) (by omega) (by omega)) ?_
  refine Ev.bind (mul da db ha hb rfl rfl (by omega) (by omega)) ?_
  refine Ev.bind (mul dc da hc ha rfl rfl (by omega) (by omega)) ?_
  refine Ev.bind (add (D _) (D _) (pab.len h2) (pca.len h2) (pab.vl h2) (pca.vl h2) (by omega) (by omega)) ?_
  exact Ev.bind (words_ev (by have := ((sa.mul h2 sbc).len h2); omega) (by congr 1; grind)) (ev_ret rfl)
/-- whatever the three rows are, the law's call is true: sums and products are told as numbers, and numbers' laws do the rest. -/
theorem NatRings : whetstonelaw01_NatRings.Pure := by
  intro l0 l1 l2 _ _ d0 _ _ d1 _ _ d2
  refine Ev.rounds (Ev.bind counted_ev (ev_pos rfl ?_))
  refine ev_ite (fun _ => rings_end _ _ _) (fun h0 => ev_ite (fun _ => rings_end _ _ _) (fun h1 => ?_))
  by_cases h : (l2.length : Int) > 12
  · rw [decide_eq_true h]; exact rings_end _ _ _
  · rw [decide_eq_false h]; exact rings_all rfl (by omega) (by omega) (by omega) (Dg_of d0) (Dg_of d1) (Dg_of d2)

end Go.Proofs.Ythodpjgmecnalaa.Pure
