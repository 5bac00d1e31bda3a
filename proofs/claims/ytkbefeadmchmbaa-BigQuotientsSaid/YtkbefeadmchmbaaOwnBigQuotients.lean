/-
The plain law of BigQuotients: whatever the two numbers are, the law's call is true: quotients and rests, rounded each way, of limbs and of digits are the same numbers'. No further condition.
-/
import Derived.Test.YtkbefeadmchmbaaQBigQuotientsx23
set_option maxRecDepth 100000
set_option linter.unusedVariables false
set_option linter.unusedSimpArgs false
namespace Go.Proofs.Ytkbefeadmchmbaa.Pure
open Go.RowKit Go.Proofs.Ytkbefeadmchmbaa.QBigQuotients Go.Proofs.YtkbefeadmchmbaaW.PrintWords Go.Proofs.YtkbefeadmchmbaaW.PrintLast

/-! ### plain lemmas: rounds -/
section Base
variable {α β : Type}
theorem ev_pos {c : Prop} [Decidable c] {g f : Nat → Option α} {r : α} (hc : c) (h : Ev g r) : Ev (fun k => if c then g k else f k) r := by
  simpa only [if_pos hc] using h
theorem ev_neg {c : Prop} [Decidable c] {g f : Nat → Option α} {r : α} (hc : ¬ c) (h : Ev f r) : Ev (fun k => if c then g k else f k) r := by
  simpa only [if_neg hc] using h
theorem ev_ite {c : Prop} [Decidable c] {g f : Nat → Option α} {r : α} (h1 : c → Ev g r) (h2 : ¬ c → Ev f r) : Ev (fun k => if c then g k else f k) r := by
  by_cases hc : c
  · exact ev_pos hc (h1 hc)
  · exact ev_neg hc (h2 hc)
theorem ev_some {o : Option α} {f : Nat → α → Option β} {a : α} {r : β} (h : o = some a) (k : Ev (fun n => f n a) r) : Ev (fun n => o.bind (f n)) r := by
  subst h; exact k
theorem ev_ret {a r : α} (h : a = r) : Ev (fun _ => some a) r := h ▸ Ev.now a
theorem ev_cast {g : Nat → Option α} {a r : α} (h : Ev g a) (e : a = r) : Ev g r := e ▸ h
theorem wr {n : Int} (h : -9223372036854775808 ≤ n) (h' : n ≤ 9223372036854775807) : wrap64 n = n := by unfold wrap64; omega
end Base
/-! ### numbers and their places -/
def vl (B : Int) : List Int → Int
  | [] => 0
  | x :: t => x + B * vl B t
def Dg (B : Int) (l : List Int) : Prop := ∀ x ∈ l, 0 ≤ x ∧ x < B
def tr : List Int → List Int
  | [] => []
  | x :: t => if tr t = [] ∧ x = 0 then [] else x :: tr t
def can (B n : Nat) : List Int := if h : n = 0 ∨ B < 2 then [] else ((n % B : Nat) : Int) :: can B (n / B)
termination_by n
decreasing_by exact Nat.div_lt_self (by omega) (by omega)
def cn (B v : Int) : List Int := can B.toNat v.toNat
section Num
variable {B : Int} {l : List Int}
theorem vl_cons (x : Int) (t : List Int) : vl B (x :: t) = x + B * vl B t := rfl
theorem cn_zero {v : Int} (h : v ≤ 0) : cn B v = [] := by
  unfold cn; rw [can, dif_pos (Or.inl (by omega))]
theorem cn_cons {v : Int} (hB : 2 ≤ B) (h : 0 < v) : cn B v = (v % B) :: cn B (v / B) := by
  unfold cn; rw [can, dif_neg (by omega)]
  obtain ⟨b, rfl⟩ := Int.eq_ofNat_of_zero_le (show 0 ≤ B by omega)
  obtain ⟨n, rfl⟩ := Int.eq_ofNat_of_zero_le (show 0 ≤ v by omega)
  rfl
theorem Dg.cons {x : Int} (h : Dg B (x :: l)) : (0 ≤ x ∧ x < B) ∧ Dg B l := ⟨h x (by simp), fun y hy => h y (by simp [hy])⟩
theorem Dg.nil : Dg B [] := fun _ h => by cases h
theorem Dg.app {l' : List Int} (h : Dg B l) (h' : Dg B l') : Dg B (l ++ l') := fun x hx => (List.mem_append.1 hx).elim (h x) (h' x)
theorem Dg.one {x : Int} (h : 0 ≤ x) (h' : x < B) : Dg B [x] := fun y hy => by rw [List.mem_singleton.1 hy]; exact ⟨h, h'⟩
theorem Dg.snoc {x : Int} (hl : Dg B l) (h : 0 ≤ x) (h' : x < B) : Dg B (l ++ [x]) := hl.app (.one h h')
theorem Dg.zeros (hB : 0 < B) (n : Nat) : Dg B (List.replicate n 0) := fun x hx => by rw [List.eq_of_mem_replicate hx]; exact ⟨Int.le_refl _, hB⟩
theorem Dg.take (h : Dg B l) (n : Nat) : Dg B (l.take n) := fun x hx => h x (List.mem_of_mem_take hx)
theorem Dg.drop (h : Dg B l) (n : Nat) : Dg B (l.drop n) := fun x hx => h x (List.mem_of_mem_drop hx)
theorem Dg.place (h : Dg B l) (hB : 0 < B) (i : Int) : 0 ≤ rd l i ∧ rd l i < B := by
  unfold rd
  rcases Nat.lt_or_ge i.toNat l.length with hi | hi
  · rw [List.getD_eq_getElem?_getD, List.getElem?_eq_getElem hi]; exact h _ (List.getElem_mem _)
  · rw [List.getD_eq_getElem?_getD, List.getElem?_eq_none hi]; exact ⟨Int.le_refl _, hB⟩
theorem rd_nat {i : Nat} : rd l (i : Int) = l[i]?.getD 0 := by
  unfold rd; rw [Int.toNat_natCast, List.getD_eq_getElem?_getD]
theorem rd_out {i : Nat} (h : l.length ≤ i) : rd l (i : Int) = 0 := by
  rw [rd_nat, List.getElem?_eq_none h]; rfl
theorem Dg.set (h : Dg B l) {i : Nat} {y : Int} (h0 : 0 ≤ y) (h1 : y < B) : Dg B (l.set i y) := fun x hx => by
  rcases List.mem_or_eq_of_mem_set hx with h2 | rfl
  · exact h x h2
  · exact ⟨h0, h1⟩
theorem vl_nonneg (hB : 0 ≤ B) : ∀ {l : List Int}, Dg B l → 0 ≤ vl B l
  | [], _ => Int.le_refl _
  | x :: t, h => by
    have h1 := h.cons
    have h2 := Int.mul_nonneg hB (vl_nonneg hB h1.2)
    rw [vl_cons]; omega
theorem pow_pos' (hB : 0 < B) (n : Nat) : 0 < B ^ n := Int.pow_pos hB
theorem vl_lt (hB : 0 < B) : ∀ {l : List Int}, Dg B l → vl B l < B ^ l.length
  | [], _ => by simp [vl]
  | x :: t, h => by
    have h1 := h.cons
    have h2 : vl B t + 1 ≤ B ^ t.length := vl_lt hB h1.2
    have h3 := Int.mul_le_mul_of_nonneg_left h2 (show 0 ≤ B by omega)
    rw [vl_cons, List.length_cons, Int.pow_succ]
    grind
theorem vl_app (a b : List Int) : vl B (a ++ b) = vl B a + B ^ a.length * vl B b := by
  induction a with
  | nil => simp [vl]
  | cons x t ih =>
    rw [List.cons_append, vl_cons, vl_cons, ih, List.length_cons, Int.pow_succ]; grind
theorem vl_one (x : Int) : vl B [x] = x := by simp [vl]
theorem vl_snoc (a : List Int) (x : Int) : vl B (a ++ [x]) = vl B a + B ^ a.length * x := by rw [vl_app, vl_one]
theorem vl_zeros (n : Nat) : vl B (List.replicate n 0) = 0 := by
  induction n with
  | zero => rfl
  | succ n ih => rw [List.replicate_succ, vl_cons, ih]; simp
theorem vl_take_succ (l : List Int) : ∀ (i : Nat), vl B (l.take (i + 1)) = vl B (l.take i) + B ^ i * rd l i := by
  induction l with
  | nil => intro i; simp [vl, rd]
  | cons x t ih =>
    intro i
    cases i with
    | zero => simp [vl, rd]
    | succ i =>
      rw [List.take_succ_cons, List.take_succ_cons, vl_cons, vl_cons, ih i, Int.pow_succ]
      have : rd (x :: t) ((i + 1 : Nat) : Int) = rd t i := by rw [rd_nat, rd_nat]; simp
      rw [this]; grind
theorem vl_set : ∀ (l : List Int) (i : Nat) (y : Int), i < l.length → vl B (l.set i y) = vl B l + B ^ i * (y - rd l i) := by
  intro l
  induction l with
  | nil => intro i y h; simp at h
  | cons x t ih =>
    intro i y h
    cases i with
    | zero => rw [List.set_cons_zero, vl_cons, vl_cons]; have : rd (x :: t) ((0 : Nat) : Int) = x := rfl
              rw [this]; simp; omega
    | succ i =>
      rw [List.set_cons_succ, vl_cons, vl_cons, ih i y (by simpa using h), Int.pow_succ]
      have : rd (x :: t) ((i + 1 : Nat) : Int) = rd t i := by rw [rd_nat, rd_nat]; simp
      rw [this]; grind
/-- The place i of a number. -/
theorem vl_split (i : Nat) (l : List Int) : vl B l = vl B (l.take i) + B ^ i * vl B (l.drop i) := by
  rcases Nat.lt_or_ge i l.length with h | h
  · have := vl_app (B := B) (l.take i) (l.drop i)
    rw [List.take_append_drop, List.length_take, Nat.min_eq_left (by omega)] at this
    exact this
  · rw [List.take_of_length_le h, List.drop_eq_nil_of_le h]; simp [vl]
theorem tr_vl : ∀ (l : List Int), vl B (tr l) = vl B l
  | [] => rfl
  | x :: t => by
    have ih := tr_vl t
    unfold tr
    split
    · next h => rw [h.1] at ih; rw [vl_cons, ← ih, h.2]; simp [vl]
    · rw [vl_cons, vl_cons, ih]
theorem tr_Dg : ∀ {l : List Int}, Dg B l → Dg B (tr l)
  | [], h => h
  | x :: t, h => by
    have h1 := h.cons
    unfold tr
    split
    · exact .nil
    · intro y hy
      rcases List.mem_cons.1 hy with rfl | hy
      · exact h1.1
      · exact tr_Dg h1.2 y hy
theorem tr_tr : ∀ (l : List Int), tr (tr l) = tr l
  | [] => rfl
  | x :: t => by
    have ih := tr_tr t
    rw [tr]
    split
    · rfl
    · next h => rw [tr, ih, if_neg h]
theorem tr_length : ∀ (l : List Int), (tr l).length ≤ l.length
  | [] => Nat.le_refl _
  | x :: t => by
    have ih := tr_length t
    rw [tr]
    split <;> simp <;> omega
theorem tr_snoc0 : ∀ (l : List Int), tr (l ++ [0]) = tr l
  | [] => by simp [tr]
  | x :: t => by rw [List.cons_append, tr, tr_snoc0 t, ← tr]
theorem tr_snoc {x : Int} (hx : x ≠ 0) : ∀ (l : List Int), tr (l ++ [x]) = l ++ [x]
  | [] => by simp [tr, hx]
  | y :: t => by
    rw [List.cons_append, tr, tr_snoc hx t, if_neg]
    intro h; have := congrArg List.length h.1; simp at this
theorem tr_tail {x : Int} {t : List Int} (h : tr (x :: t) = x :: t) : tr t = t := by
  rw [tr] at h
  split at h
  · cases h
  · injection h
theorem cn_self (hB : 2 ≤ B) : ∀ {l : List Int}, Dg B l → tr l = l → cn B (vl B l) = l
  | [], _, _ => cn_zero (by simp [vl])
  | x :: t, h, ht => by
    have h1 := h.cons
    have h2 := vl_nonneg (by omega) h1.2
    have ht2 := tr_tail ht
    have ih := cn_self hB h1.2 ht2
    have h3 := Int.mul_nonneg (show 0 ≤ B by omega) h2
    have hv : vl B (x :: t) = x + B * vl B t := rfl
    by_cases h0 : vl B (x :: t) = 0
    · exfalso
      have hx : x = 0 := by omega
      have hm : B * vl B t = 0 := by omega
      have hz : vl B t = 0 := by
        rcases Int.mul_eq_zero.1 hm with h | h
        · omega
        · exact h
      rw [hz, cn_zero (Int.le_refl _)] at ih
      rw [← ih, tr, hx] at ht
      simp [tr] at ht
    · rw [cn_cons hB (by omega)]
      have e1 : (x + B * vl B t) % B = x := by rw [Int.add_mul_emod_self_left, Int.emod_eq_of_lt h1.1.1 h1.1.2]
      have e2 : (x + B * vl B t) / B = vl B t := by
        rw [Int.add_mul_ediv_left _ _ (by omega), Int.ediv_eq_zero_of_lt h1.1.1 h1.1.2]; omega
      rw [hv, e1, e2, ih]
theorem tr_cn (hB : 2 ≤ B) (h : Dg B l) : tr l = cn B (vl B l) := by
  rw [← cn_self hB (tr_Dg h) (tr_tr l), tr_vl]
theorem cn_all (hB : 2 ≤ B) : ∀ (n : Nat) (v : Int), v.toNat ≤ n → Dg B (cn B v) ∧ tr (cn B v) = cn B v ∧ (0 ≤ v → vl B (cn B v) = v)
  | 0, v, h => by
    rw [cn_zero (by omega)]
    exact ⟨.nil, rfl, fun _ => by simp [vl]; omega⟩
  | n + 1, v, h => by
    by_cases h0 : v ≤ 0
    · rw [cn_zero h0]
      exact ⟨.nil, rfl, fun _ => by simp [vl]; omega⟩
    · rw [cn_cons hB (by omega)]
      have hq : v / B < v := Int.ediv_lt_of_lt_mul (by omega) (by
        have := Int.mul_lt_mul_of_pos_left (show (1 : Int) < B by omega) (show 0 < v by omega); omega)
      have hq0 : 0 ≤ v / B := Int.ediv_nonneg (by omega) (by omega)
      obtain ⟨i1, i2, i3⟩ := cn_all hB n (v / B) (by omega)
      have hm := Int.emod_add_mul_ediv v B
      have hm0 := Int.emod_nonneg v (show B ≠ 0 by omega)
      have hm1 := Int.emod_lt_of_pos v (show 0 < B by omega)
      refine ⟨fun y hy => ?_, ?_, fun _ => ?_⟩
      · rcases List.mem_cons.1 hy with rfl | hy
        · exact ⟨hm0, hm1⟩
        · exact i1 y hy
      · rw [tr, i2, if_neg]
        intro ⟨h1, h2⟩
        have i3 := i3 hq0
        rw [h1] at i3
        have : vl B [] = 0 := rfl
        rw [this] at i3
        rw [← i3, h2] at hm
        simp at hm
        omega
      · rw [vl_cons, i3 hq0]; exact hm
theorem cn_Dg (hB : 2 ≤ B) (v : Int) : Dg B (cn B v) := (cn_all hB _ v (Nat.le_refl _)).1
theorem vl_cn (hB : 2 ≤ B) {v : Int} (h : 0 ≤ v) : vl B (cn B v) = v := (cn_all hB _ v (Nat.le_refl _)).2.2 h
theorem cn_nil (hB : 2 ≤ B) {v : Int} (h : 0 < v) : cn B v ≠ [] := by rw [cn_cons hB h]; simp
theorem cn_length (hB : 2 ≤ B) : ∀ {k : Nat} {v : Int}, v < B ^ k → (cn B v).length ≤ k
  | 0, v, h => by rw [cn_zero (by simp at h; omega)]; simp
  | k + 1, v, h => by
    by_cases h0 : v ≤ 0
    · rw [cn_zero h0]; simp
    · rw [cn_cons hB (by omega), List.length_cons]
      have := cn_length hB (k := k) (v := v / B) (Int.ediv_lt_of_lt_mul (by omega) (by rw [← Int.pow_succ]; exact h))
      omega
theorem rep_set (p : List Int) (m : Nat) (y : Int) : (p ++ List.replicate (m + 1) 0).set p.length y = (p ++ [y]) ++ List.replicate m 0 := by
  rw [List.replicate_succ, List.set_append_right _ _ (Nat.le_refl _)]
  simp
end Num
/-! ### limbs: what the program's sums and products are -/
section Limbs
variable {B : Int}
theorem takeS {l : List Int} {n : Nat} (h : n < l.length) : l.take (n + 1) = l.take n ++ [rd l (n : Int)] := by
  rw [rd_nat, List.getElem?_eq_getElem h, List.take_succ_eq_append_getElem h]; rfl
theorem trS {l : List Int} {n : Nat} (h : n < l.length) (h0 : rd l (n : Int) = 0) : tr (l.take n) = tr (l.take (n + 1)) := by
  rw [takeS h, h0, tr_snoc0]
theorem trN {l : List Int} {n : Nat} (h : n < l.length) (h0 : ¬ rd l (n : Int) = 0) : l.take (n + 1) = tr (l.take (n + 1)) := by
  rw [takeS h, tr_snoc h0]
theorem pred {n : Nat} (h : n ≤ 1000000000) : wrap64 (((n + 1 : Nat) : Int) - 1) = (n : Int) := by rw [wr (by omega) (by omega)]; omega
theorem suc {n : Nat} (h : n ≤ 1000000000) : wrap64 ((n : Int) + 1) = ((n + 1 : Nat) : Int) := by rw [wr (by omega) (by omega)]; rfl
theorem natT (n : Nat) : ((n : Int)).toNat = n := Int.toNat_natCast n
theorem nat_trim.l0_ev (x : List Int) (hx : x.length ≤ 100000000) : ∀ n, n ≤ x.length → Ev (fun k => nat_trim.l0 k x (n : Int)) (tr (x.take n))
  | 0, _ => by
    refine Ev.step (fun k => nat_trim.l0.eq_2 _ _ _) ?_
    refine ev_neg (by omega) (ev_pos (by omega) (ev_pos (by omega) (ev_ret ?_)))
    simp [tr]
  | n + 1, h => by
    refine Ev.step (fun k => nat_trim.l0.eq_2 _ _ _) ?_
    rw [pred (by omega)]
    refine ev_pos (by omega) (ev_pos (by omega) (ev_pos (by omega) (ev_ite (fun h0 => ?_) (fun h0 => ?_))))
    · exact ev_cast (nat_trim.l0_ev x hx n (by omega)) (trS (by omega) h0)
    · exact ev_pos (by omega) (ev_pos (by omega) (ev_ret (by rw [natT]; exact trN (by omega) h0)))
theorem nat_trim.ev {x : List Int} (hx : x.length ≤ 100000000) : Ev (fun k => nat_trim.f k x) (tr x) := by
  have h := nat_trim.l0_ev x hx x.length (Nat.le_refl _)
  rw [List.take_length] at h
  exact h
theorem nat_Norm.l0_ev (x : List Int) (hx : x.length ≤ 100000000) : ∀ n, n ≤ x.length → Ev (fun k => nat_Norm.l0 k x (n : Int)) (tr (x.take n))
  | 0, _ => by
    refine Ev.step (fun k => nat_Norm.l0.eq_2 _ _ _) ?_
    refine ev_neg (by omega) (ev_pos (by omega) (ev_pos (by omega) (ev_pos (by simp) (ev_ret ?_))))
    simp [tr]
  | n + 1, h => by
    refine Ev.step (fun k => nat_Norm.l0.eq_2 _ _ _) ?_
    rw [pred (by omega)]
    refine ev_pos (by omega) (ev_pos (by omega) (ev_pos (by omega) (ev_ite (fun h0 => ?_) (fun h0 => ?_))))
    · exact ev_cast (nat_Norm.l0_ev x hx n (by omega)) (trS (by omega) h0)
    · exact ev_pos (by omega) (ev_pos (by omega) (ev_pos (by rw [natT]; simp only [List.length_nil, List.length_take]; omega) (ev_ret (by rw [natT, List.nil_append]; exact trN (by omega) h0))))
theorem nat_Norm.ev {x : List Int} (hx : x.length ≤ 100000000) : Ev (fun k => nat_Norm.f k x) (tr x) := by
  have h := nat_Norm.l0_ev x hx x.length (Nat.le_refl _)
  rw [List.take_length] at h
  exact h
theorem words_l0 (a : List Int) (ha : a.length ≤ 1000000) : ∀ m i, i + m = a.length → Ev (fun k => whetstoneref01_Words.l0 k a a (i : Int)) true
  | 0, i, h => by
    refine Ev.step (fun k => whetstoneref01_Words.l0.eq_2 _ _ _ _) ?_
    exact ev_neg (by omega) (ev_ret rfl)
  | m + 1, i, h => by
    refine Ev.step (fun k => whetstoneref01_Words.l0.eq_2 _ _ _ _) ?_
    rw [suc (by omega)]
    exact ev_pos (by omega) (ev_pos (by omega) (ev_pos (by omega) (ev_pos rfl (words_l0 a ha m (i + 1) (by omega)))))
theorem words_ev {a b : List Int} (ha : a.length ≤ 1000000) (h : a = b) : Ev (fun k => whetstoneref01_Words.f k a b) true := by
  subst h
  exact ev_pos rfl (words_l0 a ha a.length 0 (by omega))
theorem add32 {x y c : Int} (hx : 0 ≤ x ∧ x < 4294967296) (hy : 0 ≤ y ∧ y < 4294967296) (hc : 0 ≤ c ∧ c ≤ 1) : bits_Add32.f x y c = some ((x + y + c) % 4294967296, (x + y + c) / 4294967296) := by
  unfold bits_Add32.f
  simp only [IntKind.wrap_u64]
  congr 2 <;> omega
theorem add_step {P V A b x y c : Int} (h : V + P * c = A + b) : V + P * ((x + y + c) % B) + P * B * ((x + y + c) / B) = (A + P * x) + (b + P * y) := by
  have := Int.emod_add_mul_ediv (x + y + c) B
  grind
theorem nat_Add.l0_ev (hB : B = 4294967296) {a b : List Int} (ha : a.length ≤ 1000000) (hba : b.length ≤ a.length) (da : Dg B a) (db : Dg B b) : ∀ (m : Nat) (p : List Int) (c : Int), p.length + m = a.length → Dg B p → 0 ≤ c ∧ c ≤ 1 → vl B p + B ^ p.length * c = vl B (a.take p.length) + vl B (b.take p.length) → Ev (fun k => nat_Add.l0 k a b (p ++ List.replicate (m + 1) 0) c (a.length : Int) (p.length : Int)) (cn B (vl B a + vl B b))
  | 0, p, c, hp, dp, hc, hv => by
    refine Ev.step (fun k => nat_Add.l0.eq_2 _ _ _ _ _ _ _) ?_
    refine ev_neg (by omega) (ev_pos (by omega) (ev_pos (by simp; omega) ?_))
    rw [show (a.length : Int) = (p.length : Int) by omega, natT, rep_set, List.replicate_zero, List.append_nil]
    refine Ev.bind (nat_trim.ev (x := p ++ [c]) (by simp; omega)) (ev_ret ?_)
    rw [tr_cn (B := B) (by omega) (dp.snoc hc.1 (by omega)), vl_snoc, hv, List.take_of_length_le (by omega), List.take_of_length_le (by omega)]
  | m + 1, p, c, hp, dp, hc, hv => by
    have hx := da.place (by omega) (p.length : Int)
    have hy := db.place (by omega) (p.length : Int)
    have hs := add_step (B := B) (x := rd a p.length) (y := rd b p.length) hv
    rw [← vl_take_succ, ← vl_take_succ] at hs
    have key : ∀ z, z = rd b (p.length : Int) → Ev (fun k => (bits_Add32.f (rd a (p.length : Int)) z c).bind fun bt => if (p.length : Int) < ((p ++ List.replicate (m + 1 + 1) 0).length : Int) then (nat_Add.l0 k a b ((p ++ List.replicate (m + 1 + 1) 0).set (p.length : Int).toNat bt.1) bt.2 (a.length : Int) (wrap64 ((p.length : Int) + 1))) else none) (cn B (vl B a + vl B b)) := by
      intro z hz
      subst hz
      refine ev_some (add32 (by omega) (by omega) hc) ?_
      refine ev_pos (by simp; omega) ?_
      rw [natT, rep_set, suc (by omega)]
      have := nat_Add.l0_ev hB ha hba da db m (p ++ [(rd a (p.length : Int) + rd b (p.length : Int) + c) % 4294967296]) ((rd a (p.length : Int) + rd b (p.length : Int) + c) / 4294967296) (by simp; omega) (dp.snoc (by omega) (by omega)) (by omega) (by
        rw [vl_snoc, List.length_append, List.length_singleton, Int.pow_succ, ← hB]; exact hs)
      rw [List.length_append, List.length_singleton] at this
      exact this
    refine Ev.step (fun k => nat_Add.l0.eq_2 _ _ _ _ _ _ _) ?_
    refine ev_pos (by omega) (ev_ite (fun h0 => ?_) (fun h0 => ?_))
    · exact ev_pos (by omega) (ev_pos (by omega) (key _ rfl))
    · exact ev_pos (by omega) (ev_pos (by omega) (key _ (rd_out (by omega)).symm))
theorem nat_Add.j0_ev (hB : B = 4294967296) {a b : List Int} (ha : a.length ≤ 1000000) (hba : b.length ≤ a.length) (da : Dg B a) (db : Dg B b) : Ev (fun k => nat_Add.j0 k a b) (cn B (vl B a + vl B b)) := by
  refine Ev.step (fun k => nat_Add.j0.eq_2 _ _ _) ?_
  rw [suc (by omega), natT]
  refine ev_pos (by omega) (ev_pos (by omega) ?_)
  exact nat_Add.l0_ev hB ha hba da db a.length [] 0 (by simp) .nil (by omega) (by simp [vl])
theorem nat_Add.ev (hB : B = 4294967296) {a b : List Int} (ha : a.length ≤ 1000000) (hb : b.length ≤ 1000000) (da : Dg B a) (db : Dg B b) : Ev (fun k => nat_Add.f k a b) (cn B (vl B a + vl B b)) := by
  unfold nat_Add.f
  refine ev_ite (fun h => ?_) (fun h => ?_)
  · rw [Int.add_comm]; exact nat_Add.j0_ev hB hb (by omega) db da
  · exact nat_Add.j0_ev hB ha (by omega) da db
theorem u64id {x : Int} (h : 0 ≤ x) (h' : x < 18446744073709551616) : IntKind.u64.wrap x = x := by rw [IntKind.wrap_u64]; omega
theorem pow_le {i j : Nat} (hB : 1 ≤ B) (h : i ≤ j) : B ^ i ≤ B ^ j := by
  obtain ⟨d, rfl⟩ := Nat.le.dest h
  rw [Int.pow_add]
  have h1 := pow_pos' (show 0 < B by omega) i
  have h2 := pow_pos' (show 0 < B by omega) d
  have := Int.mul_le_mul_of_nonneg_left (show 1 ≤ B ^ d by omega) (show 0 ≤ B ^ i by omega)
  omega
end Limbs
/-! ### limbs: the product -/
section LimbsMul
variable {B : Int}
theorem carry_step {V P T r t c : Int} (h : V + P * c = T) (ht : t = r + c) : V + P * (t % B - r) + P * B * (t / B) = T := by
  have := Int.emod_add_mul_ediv t B
  grind
theorem mul_fits {x y r c : Int} (hx : 0 ≤ x ∧ x < 4294967296) (hy : 0 ≤ y ∧ y < 4294967296) (hr : 0 ≤ r ∧ r < 4294967296) (hc : 0 ≤ c ∧ c < 4294967296) : 0 ≤ x * y ∧ x * y + r + c < 18446744073709551616 := by
  have h1 := Int.mul_nonneg hx.1 hy.1
  have h2 := Int.mul_le_mul_of_nonneg_left (show y ≤ 4294967295 by omega) hx.1
  omega
theorem nat_addTo.l1_ev (hB : B = 4294967296) (T : Int) : ∀ (m i : Nat) (row : List Int) (c : Int), i + m = row.length → row.length ≤ 1000000 → Dg B row → 0 ≤ c ∧ c < B → vl B row + B ^ i * c = T → T < B ^ row.length → ∃ r, Ev (fun k => nat_addTo.l1 k row c (i : Int)) r ∧ Dg B r ∧ r.length = row.length ∧ vl B r = T
  | 0, i, row, c, hi, hl, dr, hc, hv, hT => by
    have h0 : c = 0 := by
      have h1 := vl_nonneg (show 0 ≤ B by omega) dr
      have h2 := pow_pos' (show 0 < B by omega) i
      have e : i = row.length := by omega
      rw [← e] at hT
      rcases (show 0 < c ∨ c ≤ 0 by omega) with h | h
      · have := Int.mul_le_mul_of_nonneg_left (show 1 ≤ c by omega) (show 0 ≤ B ^ i by omega)
        omega
      · omega
    subst h0
    refine ⟨row, Ev.step (fun k => nat_addTo.l1.eq_2 _ _ _ _) (ev_neg (by omega) (ev_ret rfl)), dr, rfl, by simpa using hv⟩
  | m + 1, i, row, c, hi, hl, dr, hc, hv, hT => by
    have hr := dr.place (show 0 < B by omega) (i : Int)
    by_cases h0 : c = 0
    · subst h0
      refine ⟨row, Ev.step (fun k => nat_addTo.l1.eq_2 _ _ _ _) (ev_neg (by omega) (ev_ret rfl)), dr, rfl, by simpa using hv⟩
    · have hs := carry_step (B := B) (r := rd row i) (t := rd row i + c) hv rfl
      rw [← vl_set row i _ (by omega), ← Int.pow_succ] at hs
      obtain ⟨r, h1, h2, h3, h4⟩ := nat_addTo.l1_ev hB T m (i + 1) (row.set i ((rd row i + c) % B)) ((rd row i + c) / B) (by simp; omega) (by simp; omega) (dr.set (by subst hB; omega) (by subst hB; omega)) (by subst hB; omega) hs (by simpa using hT)
      refine ⟨r, Ev.step (fun k => nat_addTo.l1.eq_2 _ _ _ _) (ev_pos (by omega) (ev_pos (by omega) (ev_pos (by omega) ?_))), h2, by simpa using h3, h4⟩
      rw [natT, suc (by omega), u64id (x := rd row i) (by omega) (by omega), u64id (by omega) (by omega), ← hB]
      exact h1
theorem nat_addTo.l0_ev (hB : B = 4294967296) (row0 : List Int) (s : Nat) (x : Int) (b : List Int) (hx : 0 ≤ x ∧ x < B) (db : Dg B b) (hl : row0.length ≤ 1000000) (hsb : s + b.length ≤ row0.length) (hT : vl B row0 + x * (B ^ s * vl B b) < B ^ row0.length) : ∀ (m i : Nat) (row : List Int) (c : Int), i + m = b.length → row.length = row0.length → Dg B row → 0 ≤ c ∧ c < B → vl B row + B ^ (s + i) * c = vl B row0 + x * (B ^ s * vl B (b.take i)) → ∃ r, Ev (fun k => nat_addTo.l0 k row (s : Int) x b c b (b.length : Int) (i : Int)) r ∧ Dg B r ∧ r.length = row0.length ∧ vl B r = vl B row0 + x * (B ^ s * vl B b)
  | 0, i, row, c, hi, hr, dr, hc, hv => by
    rw [show b.take i = b from List.take_of_length_le (by omega), show i = b.length by omega] at hv
    obtain ⟨r, h1, h2, h3, h4⟩ := nat_addTo.l1_ev hB _ (row.length - (s + b.length)) (s + b.length) row c (by omega) (by omega) dr hc hv (by rw [hr]; exact hT)
    refine ⟨r, Ev.step (fun k => nat_addTo.l0.eq_2 _ _ _ _ _ _ _ _ _) (ev_neg (by omega) ?_), h2, by omega, h4⟩
    rw [wr (by omega) (by omega), show (s : Int) + (b.length : Int) = ((s + b.length : Nat) : Int) by omega]
    exact h1
  | m + 1, i, row, c, hi, hr, dr, hc, hv => by
    have hr0 := dr.place (show 0 < B by omega) ((s + i : Nat) : Int)
    have hy := db.place (show 0 < B by omega) (i : Int)
    have hf := mul_fits (x := x) (y := rd b i) (r := rd row ((s + i : Nat) : Int)) (c := c) (by omega) (by omega) (by omega) (by omega)
    have hq : (x * rd b i + rd row ((s + i : Nat) : Int) + c) / B < B := Int.ediv_lt_of_lt_mul (by omega) (by rw [hB]; omega)
    have hm0 := Int.emod_nonneg (x * rd b i + rd row ((s + i : Nat) : Int) + c) (show B ≠ 0 by omega)
    have hm1 := Int.emod_lt_of_pos (x * rd b i + rd row ((s + i : Nat) : Int) + c) (show 0 < B by omega)
    have hs : vl B (row.set (s + i) ((x * rd b i + rd row ((s + i : Nat) : Int) + c) % B)) + B ^ (s + (i + 1)) * ((x * rd b i + rd row ((s + i : Nat) : Int) + c) / B) = vl B row0 + x * (B ^ s * vl B (b.take (i + 1))) := by
      rw [vl_set row (s + i) _ (by omega), vl_take_succ, ← Nat.add_assoc, Int.pow_succ]
      have h1 := Int.emod_add_mul_ediv (x * rd b i + rd row ((s + i : Nat) : Int) + c) B
      have h2 : B ^ (s + i) = B ^ s * B ^ i := Int.pow_add _ _ _
      generalize B ^ (s + i) = P at *
      generalize (x * rd b i + rd row ((s + i : Nat) : Int) + c) % B = q at *
      generalize (x * rd b i + rd row ((s + i : Nat) : Int) + c) / B = q' at *
      generalize rd row ((s + i : Nat) : Int) = rr at *
      generalize rd b i = y at *
      generalize B ^ s = S at *
      generalize B ^ i = I at *
      grind
    obtain ⟨r, h1, h2, h3, h4⟩ := nat_addTo.l0_ev hB row0 s x b hx db hl hsb hT m (i + 1) (row.set (s + i) ((x * rd b i + rd row ((s + i : Nat) : Int) + c) % B)) ((x * rd b i + rd row ((s + i : Nat) : Int) + c) / B) (by omega) (by simp; omega) (dr.set hm0 hm1) ⟨Int.ediv_nonneg (by omega) (by omega), hq⟩ hs
    refine ⟨r, Ev.step (fun k => nat_addTo.l0.eq_2 _ _ _ _ _ _ _ _ _) ?_, h2, h3, h4⟩
    rw [show wrap64 ((s : Int) + (i : Int)) = ((s + i : Nat) : Int) by rw [wr (by omega) (by omega)]; omega, natT, suc (by omega), u64id (x := x) (by omega) (by omega), u64id (x := rd b i) (by omega) (by omega), u64id (x := rd row _) (by omega) (by omega), u64id (x := x * rd b i) (by omega) (by omega), u64id (x := x * rd b i + _) (by omega) (by omega), u64id (x := x * rd b i + _ + _) (by omega) (by omega), ← hB]
    exact ev_pos (by omega) (ev_pos (by omega) (ev_pos (by omega) (ev_pos (by omega) (ev_pos (by omega) h1))))
theorem nat_addTo.ev (hB : B = 4294967296) {row : List Int} {s : Nat} {x : Int} {b : List Int} (hx : 0 ≤ x ∧ x < B) (dr : Dg B row) (db : Dg B b) (hl : row.length ≤ 1000000) (hsb : s + b.length ≤ row.length) (hT : vl B row + x * (B ^ s * vl B b) < B ^ row.length) : ∃ r, Ev (fun k => nat_addTo.f k row (s : Int) x b) r ∧ Dg B r ∧ r.length = row.length ∧ vl B r = vl B row + x * (B ^ s * vl B b) :=
  nat_addTo.l0_ev hB row s x b hx db hl hsb hT b.length 0 row 0 (by omega) rfl dr (by omega) (by simp [vl])
theorem nat_Mul.l0_ev (hB : B = 4294967296) {a b : List Int} (ha : a.length + b.length ≤ 1000000) (da : Dg B a) (db : Dg B b) : ∀ (m i : Nat) (row : List Int), i + m = a.length → row.length = a.length + b.length → Dg B row → vl B row = vl B (a.take i) * vl B b → Ev (fun k => nat_Mul.l0 k b row a (a.length : Int) (i : Int)) (cn B (vl B a * vl B b))
  | 0, i, row, hi, hr, dr, hv => by
    refine Ev.step (fun k => nat_Mul.l0.eq_2 _ _ _ _ _ _) (ev_neg (by omega) (Ev.bind (nat_trim.ev (x := row) (by omega)) (ev_ret ?_)))
    rw [tr_cn (by omega) dr, hv, List.take_of_length_le (by omega)]
  | m + 1, i, row, hi, hr, dr, hv => by
    have hx := da.place (show 0 < B by omega) (i : Int)
    have e : vl B row + rd a i * (B ^ i * vl B b) = vl B (a.take (i + 1)) * vl B b := by rw [hv, vl_take_succ]; grind
    have hT : vl B row + rd a i * (B ^ i * vl B b) < B ^ row.length := by
      rw [e, hr]
      have h1 := vl_lt (show 0 < B by omega) (da.take (i + 1))
      rw [List.length_take, Nat.min_eq_left (by omega)] at h1
      have h2 := vl_lt (show 0 < B by omega) db
      have h3 := vl_nonneg (show 0 ≤ B by omega) db
      have h4 := pow_pos' (show 0 < B by omega) (i + 1)
      have h5 := Int.mul_le_mul_of_nonneg_right (show vl B (a.take (i + 1)) ≤ B ^ (i + 1) by omega) h3
      have h6 := Int.mul_lt_mul_of_pos_left h2 h4
      have h7 := pow_le (show 1 ≤ B by omega) (show i + 1 + b.length ≤ a.length + b.length by omega)
      rw [Int.pow_add _ (i + 1)] at h7
      omega
    obtain ⟨r, h1, h2, h3, h4⟩ := nat_addTo.ev hB (s := i) hx dr db (by omega) (by omega) hT
    refine Ev.step (fun k => nat_Mul.l0.eq_2 _ _ _ _ _ _) (ev_pos (by omega) (ev_pos (by omega) (ev_pos (by omega) (Ev.bind h1 ?_))))
    rw [suc (by omega)]
    exact nat_Mul.l0_ev hB ha da db m (i + 1) r (by omega) (by omega) h2 (by rw [h4, e])
theorem vl_empty {a : List Int} (h : a.length = 0) : vl B a = 0 := by rw [List.length_eq_zero_iff.1 h]; rfl
theorem nat_Mul.ev (hB : B = 4294967296) {a b : List Int} (ha : a.length + b.length ≤ 1000000) (da : Dg B a) (db : Dg B b) : Ev (fun k => nat_Mul.f k a b) (cn B (vl B a * vl B b)) := by
  have la := tr_length a
  have lb := tr_length b
  have hj : tr a ≠ [] → tr b ≠ [] → Ev (fun k => nat_Mul.j0 k (tr a) (tr b) false) (cn B (vl B a * vl B b)) := by
    intro h1 h2
    refine Ev.step (fun k => nat_Mul.j0.eq_2 _ _ _ _) (ev_neg (by simp) ?_)
    rw [show wrap64 (((tr a).length : Int) + ((tr b).length : Int)) = (((tr a).length + (tr b).length : Nat) : Int) by rw [wr (by omega) (by omega)]; omega, natT]
    refine ev_pos (by omega) (ev_pos (by omega) ?_)
    have := nat_Mul.l0_ev hB (a := tr a) (b := tr b) (by omega) (tr_Dg da) (tr_Dg db) (tr a).length 0 (List.replicate ((tr a).length + (tr b).length) 0) (by omega) (by simp) (.zeros (by omega) _) (by rw [vl_zeros]; simp [vl])
    rw [tr_vl, tr_vl] at this
    exact this
  have hz : vl B a * vl B b = 0 → Ev (fun k => nat_Mul.j0 k (tr a) (tr b) true) (cn B (vl B a * vl B b)) := by
    intro h
    rw [h, cn_zero (Int.le_refl _)]
    exact Ev.step (fun k => nat_Mul.j0.eq_2 _ _ _ _) (ev_pos rfl (ev_ret rfl))
  refine Ev.bind (nat_trim.ev (x := a) (by omega)) (Ev.bind (nat_trim.ev (x := b) (by omega)) ?_)
  refine ev_ite (fun h => hz ?_) (fun h => ?_)
  · rw [← tr_vl a, vl_empty (by omega)]; simp
  · by_cases hb : (tr b).length = 0
    · rw [show (((tr b).length : Int) == 0) = true by simp [hb]]
      exact hz (by rw [← tr_vl b, vl_empty hb]; simp)
    · rw [show (((tr b).length : Int) == 0) = false by simp; intro e; exact hb (by rw [e]; rfl)]
      exact hj (fun e => h (by rw [e]; rfl)) (fun e => hb (by rw [e]; rfl))
end LimbsMul
/-! ### how many places a number has -/
def Sm (B : Int) (n : Nat) (v : Int) : Prop := 0 ≤ v ∧ v < B ^ n
section Sizes
variable {B : Int}
theorem Sm.of (hB : 2 ≤ B) {l : List Int} {n : Nat} (h : Dg B l) (hl : l.length ≤ n) : Sm B n (vl B l) :=
  ⟨vl_nonneg (by omega) h, by have := vl_lt (show 0 < B by omega) h; have := pow_le (show 1 ≤ B by omega) hl; omega⟩
theorem Sm.add (hB : 2 ≤ B) {n m : Nat} {a b : Int} (ha : Sm B n a) (hb : Sm B m b) : Sm B (n + m + 1) (a + b) := by
  refine ⟨Int.add_nonneg ha.1 hb.1, ?_⟩
  have h1 := pow_le (show 1 ≤ B by omega) (show n ≤ n + m by omega)
  have h2 := pow_le (show 1 ≤ B by omega) (show m ≤ n + m by omega)
  have h3 := pow_pos' (show 0 < B by omega) (n + m)
  have h4 := Int.mul_le_mul_of_nonneg_left hB (show 0 ≤ B ^ (n + m) by omega)
  have := ha.2; have := hb.2
  rw [Int.pow_succ]; omega
theorem Sm.len (hB : 2 ≤ B) {n : Nat} {v : Int} (h : Sm B n v) : (cn B v).length ≤ n := cn_length hB h.2
theorem Sm.le (hB : 2 ≤ B) {n m : Nat} {v : Int} (h : Sm B n v) (hm : n ≤ m) : Sm B m v := ⟨h.1, by have := pow_le (show 1 ≤ B by omega) hm; have := h.2; omega⟩
theorem Sm.vl (hB : 2 ≤ B) {n : Nat} {v : Int} (h : Sm B n v) : vl B (cn B v) = v := vl_cn hB h.1
theorem Dg_of {l : List Int} (h : ∀ x ∈ l, (Lit.int .u32 x).wf = true) : Dg 4294967296 l := by
  intro x hx
  have := h x hx
  have e1 : IntKind.u32.min = 0 := rfl
  have e2 : IntKind.u32.max = 4294967295 := rfl
  simp [Lit.wf, e1, e2] at this
  omega
end Sizes
/-! ### the reference: decimal digits -/
section Ref
theorem vl_drop {B : Int} {l : List Int} {i : Nat} (h : i < l.length) : vl B (l.drop i) = rd l i + B * vl B (l.drop (i + 1)) := by
  rw [List.drop_eq_getElem_cons h, vl_cons, rd_nat, List.getElem?_eq_getElem h]; rfl
theorem vl_drop_le {B : Int} (hB : 1 ≤ B) {l : List Int} (h : Dg B l) (i : Nat) : vl B (l.drop i) ≤ vl B l := by
  have h1 := vl_split (B := B) i l
  have h2 := vl_nonneg (show 0 ≤ B by omega) (h.take i)
  have h3 := vl_nonneg (show 0 ≤ B by omega) (h.drop i)
  have h4 := Int.mul_le_mul_of_nonneg_right (show 1 ≤ B ^ i by have := pow_pos' (show 0 < B by omega) i; omega) h3
  omega
theorem tdiv10 {x y : Int} (h : 0 ≤ x) : Int.tdiv x y = x / y := Int.tdiv_eq_ediv_of_nonneg h
theorem tmod10 {x y : Int} (h : 0 ≤ x) : Int.tmod x y = x % y := Int.tmod_eq_emod_of_nonneg h
theorem ref_trim.l0_ev (x : List Int) (hx : x.length ≤ 100000000) : ∀ n, n ≤ x.length → Ev (fun k => whetstoneref01_Trim.l0 k x (n : Int)) (tr (x.take n))
  | 0, _ => by
    refine Ev.step (fun k => whetstoneref01_Trim.l0.eq_2 _ _ _) ?_
    refine ev_neg (by omega) (ev_pos (by omega) (ev_pos (by omega) (ev_pos (by simp) (ev_ret ?_))))
    simp [tr]
  | n + 1, h => by
    refine Ev.step (fun k => whetstoneref01_Trim.l0.eq_2 _ _ _) ?_
    rw [pred (by omega)]
    refine ev_pos (by omega) (ev_pos (by omega) (ev_pos (by omega) (ev_ite (fun h0 => ?_) (fun h0 => ?_))))
    · exact ev_cast (ref_trim.l0_ev x hx n (by omega)) (trS (by omega) h0)
    · exact ev_pos (by omega) (ev_pos (by omega) (ev_pos (by rw [natT]; simp only [List.length_nil, List.length_take]; omega) (ev_ret (by rw [natT, List.nil_append]; exact trN (by omega) h0))))
theorem ref_trim.ev {x : List Int} (hx : x.length ≤ 100000000) : Ev (fun k => whetstoneref01_Trim.f k x) (tr x) := by
  have h := ref_trim.l0_ev x hx x.length (Nat.le_refl _)
  rw [List.take_length] at h
  exact h
theorem ref_trim.cn {x : List Int} (hx : x.length ≤ 100000000) (h : Dg 10 x) : Ev (fun k => whetstoneref01_Trim.f k x) (cn 10 (vl 10 x)) := ev_cast (ref_trim.ev hx) (tr_cn (by omega) h)
theorem small_l0 : ∀ (m : Nat) (n : Int) (p : List Int), n.toNat ≤ m → 0 ≤ n → n < 18446744073709551616 → p.length + m ≤ 18446744073709551616 → p.length ≤ 1000 → p.length + (cn 10 n).length ≤ 1000 → Ev (fun k => whetstoneref01_Small.l0 k n p) (p ++ cn 10 n)
  | 0, n, p, h, h0, h1, h2, h3, h4 => by
    refine Ev.step (fun k => whetstoneref01_Small.l0.eq_2 _ _ _) (ev_neg (by omega) (ev_ret ?_))
    rw [cn_zero (by omega), List.append_nil]
  | m + 1, n, p, h, h0, h1, h2, h3, h4 => by
    by_cases hn : n = 0
    · refine Ev.step (fun k => whetstoneref01_Small.l0.eq_2 _ _ _) (ev_neg (by omega) (ev_ret ?_))
      rw [cn_zero (by omega), List.append_nil]
    · refine Ev.step (fun k => whetstoneref01_Small.l0.eq_2 _ _ _) (ev_pos (by omega) (ev_pos (by omega) ?_))
      rw [cn_cons (by omega) (by omega)] at h4 ⊢
      rw [tdiv10 h0, tmod10 h0, u64id (by omega) (by omega), wr (by omega) (by omega)]
      rw [List.length_cons] at h4
      have := small_l0 m (n / 10) (p ++ [n % 10]) (by omega) (by omega) (by omega) (by simp; omega) (by simp; omega) (by simp; omega)
      rw [List.append_assoc] at this
      exact this
theorem small_ev {n : Int} (h0 : 0 ≤ n) (h1 : n < 18446744073709551616) : Ev (fun k => whetstoneref01_Small.f k n) (cn 10 n) := by
  have hl : (cn 10 n).length ≤ 20 := cn_length (by omega) (Int.lt_of_lt_of_le h1 (by decide))
  have := small_l0 n.toNat n [] (Nat.le_refl _) h0 h1 (by simp; omega) (by simp) (by simp; omega)
  exact this
theorem radd_l0 {a b : List Int} (ha : a.length ≤ 10000000) (hb : b.length ≤ 10000000) (da : Dg 10 a) (db : Dg 10 b) : ∀ (m : Nat) (p : List Int) (c : Int), p.length + m = max a.length b.length + 1 → Dg 10 p → 0 ≤ c ∧ c ≤ 1 → (m = 0 → c = 0) → vl 10 p + 10 ^ p.length * c = vl 10 (a.take p.length) + vl 10 (b.take p.length) → Ev (fun k => whetstoneref01_Add.l0 k a b p c (p.length : Int)) (cn 10 (vl 10 a + vl 10 b)) := by
  have fin : ∀ (p : List Int), max a.length b.length ≤ p.length → p.length ≤ 10000001 → Dg 10 p → vl 10 p + 10 ^ p.length * 0 = vl 10 (a.take p.length) + vl 10 (b.take p.length) → Ev (fun k => whetstoneref01_Add.l0 k a b p 0 (p.length : Int)) (cn 10 (vl 10 a + vl 10 b)) := by
    intro p h1 h2 dp hv
    refine Ev.step (fun k => whetstoneref01_Add.l0.eq_2 _ _ _ _ _ _) (ev_neg (by omega) (ev_neg (by omega) ?_))
    refine Ev.step (fun k => whetstoneref01_Add.j1.eq_2 _ _ _ _ _ _ _) (ev_neg (by simp) (Ev.bind (ref_trim.cn (x := p) (by omega) dp) (ev_ret ?_)))
    rw [List.take_of_length_le (by omega), List.take_of_length_le (by omega)] at hv
    rw [← hv]; congr 1; omega
  intro m
  induction m with
  | zero =>
    intro p c hp dp hc hm hv
    have := hm rfl
    subst this
    exact fin p (by omega) (by omega) dp hv
  | succ m ih =>
    intro p c hp dp hc hm hv
    have hx := da.place (by omega) (p.length : Int)
    have hy := db.place (by omega) (p.length : Int)
    have hs := add_step (B := 10) (x := rd a p.length) (y := rd b p.length) hv
    rw [← vl_take_succ, ← vl_take_succ] at hs
    have key : ∀ z, z = c + rd a (p.length : Int) + rd b (p.length : Int) → (p.length < max a.length b.length ∨ c = 1) → Ev (fun k => whetstoneref01_Add.l0 k a b (p ++ [Int.tmod z 10]) (wrap64 (Int.tdiv z 10)) (wrap64 ((p.length : Int) + 1))) (cn 10 (vl 10 a + vl 10 b)) := by
      intro z hz hg
      have e : rd a (p.length : Int) + rd b (p.length : Int) + c = z := by omega
      rw [e] at hs
      rw [tmod10 (by omega), tdiv10 (by omega), suc (by omega), wr (n := z / 10) (by omega) (by omega)]
      have := ih (p ++ [z % 10]) (z / 10) (by simp; omega) (dp.snoc (by omega) (by omega)) (by omega) (fun hm0 => by
        have hpl : p.length = max a.length b.length := by omega
        have e1 : rd a (p.length : Int) = 0 := rd_out (by omega)
        have e2 : rd b (p.length : Int) = 0 := rd_out (by omega)
        omega) (by
        rw [vl_snoc, List.length_append, List.length_singleton, Int.pow_succ]; exact hs)
      rw [List.length_append, List.length_singleton] at this
      exact this
    have j1 : (p.length < max a.length b.length ∨ c = 1) → Ev (fun k => whetstoneref01_Add.j1 k a b p c (p.length : Int) true) (cn 10 (vl 10 a + vl 10 b)) := by
      intro hg
      refine Ev.step (fun k => whetstoneref01_Add.j1.eq_2 _ _ _ _ _ _ _) (ev_pos rfl ?_)
      refine ev_ite (fun h0 => ev_pos (by omega) (ev_ite (fun h1 => ev_pos (by omega) ?_) (fun h1 => ev_pos (by omega) ?_))) (fun h0 => ev_ite (fun h1 => ev_pos (by omega) (ev_pos (by omega) ?_)) (fun h1 => ev_pos (by omega) ?_))
      · exact key _ (by rw [wr (n := c + _) (by omega) (by omega), wr (by omega) (by omega)]) hg
      · exact key _ (by rw [wr (by omega) (by omega), rd_out (l := b) (by omega)]; omega) hg
      · exact key _ (by rw [wr (by omega) (by omega), rd_out (l := a) (by omega)]; omega) hg
      · exact key _ (by rw [rd_out (l := a) (by omega), rd_out (l := b) (by omega)]; omega) hg
    by_cases h0 : p.length < max a.length b.length ∨ c = 1
    · refine Ev.step (fun k => whetstoneref01_Add.l0.eq_2 _ _ _ _ _ _) (ev_ite (fun _ => j1 h0) (fun h1 => ev_ite (fun _ => j1 h0) (fun h2 => ?_)))
      rw [decide_eq_true (show c > 0 by omega)]
      exact j1 h0
    · have : c = 0 := by omega
      subst this
      exact fin p (by omega) (by omega) dp hv
theorem radd_ev {a b : List Int} (ha : a.length ≤ 10000000) (hb : b.length ≤ 10000000) (da : Dg 10 a) (db : Dg 10 b) : Ev (fun k => whetstoneref01_Add.f k a b) (cn 10 (vl 10 a + vl 10 b)) :=
  radd_l0 ha hb da db (max a.length b.length + 1) [] 0 (by simp) .nil (by omega) (fun h => by omega) (by simp [vl])
theorem times_step {P V A x n c : Int} (h : V + P * c = A * n) : V + P * ((c + x * n) % 10) + P * 10 * ((c + x * n) / 10) = (A + P * x) * n := by
  have := Int.emod_add_mul_ediv (c + x * n) 10
  grind
theorem times_l0 {a : List Int} {n : Int} (hn : 0 ≤ n ∧ n ≤ 10) (ha : a.length ≤ 10000000) (da : Dg 10 a) : ∀ (m : Nat) (p : List Int) (c : Int), p.length + m = a.length + 3 → Dg 10 p → 0 ≤ c ∧ c ≤ 10 → (m ≤ 2 → c ≤ 1) → (m ≤ 1 → c = 0) → vl 10 p + 10 ^ p.length * c = vl 10 (a.take p.length) * n → Ev (fun k => whetstoneref01_Times.l0 k a n p c (p.length : Int)) (cn 10 (vl 10 a * n)) := by
  have fin : ∀ (p : List Int), a.length ≤ p.length → p.length ≤ 10000004 → Dg 10 p → vl 10 p + 10 ^ p.length * 0 = vl 10 (a.take p.length) * n → Ev (fun k => whetstoneref01_Times.l0 k a n p 0 (p.length : Int)) (cn 10 (vl 10 a * n)) := by
    intro p h1 h2 dp hv
    refine Ev.step (fun k => whetstoneref01_Times.l0.eq_2 _ _ _ _ _ _) (ev_neg (by omega) ?_)
    refine Ev.step (fun k => whetstoneref01_Times.j1.eq_2 _ _ _ _ _ _ _) (ev_neg (by simp) (Ev.bind (ref_trim.cn (x := p) (by omega) dp) (ev_ret ?_)))
    rw [List.take_of_length_le (by omega)] at hv
    rw [← hv]; congr 1; omega
  intro m
  induction m with
  | zero =>
    intro p c hp dp hc _ hm hv
    have := hm (by omega)
    subst this
    exact fin p (by omega) (by omega) dp hv
  | succ m ih =>
    intro p c hp dp hc hm2 hm hv
    have hx := da.place (by omega) (p.length : Int)
    have hs := times_step (x := rd a p.length) hv
    rw [← vl_take_succ] at hs
    have hb0 := Int.mul_nonneg hx.1 hn.1
    have hb1 : rd a (p.length : Int) * n ≤ 90 := by
      have h1 := Int.mul_le_mul_of_nonneg_right (show rd a (p.length : Int) ≤ 9 by omega) hn.1
      omega
    have key : ∀ z, z = c + rd a (p.length : Int) * n → Ev (fun k => whetstoneref01_Times.l0 k a n (p ++ [Int.tmod z 10]) (wrap64 (Int.tdiv z 10)) (wrap64 ((p.length : Int) + 1))) (cn 10 (vl 10 a * n)) := by
      intro z hz
      rw [← hz] at hs
      rw [tmod10 (by omega), tdiv10 (by omega), suc (by omega), wr (n := z / 10) (by omega) (by omega)]
      have hout : a.length ≤ p.length → z = c := by
        intro h
        rw [rd_out (l := a) h] at hz
        omega
      have := ih (p ++ [z % 10]) (z / 10) (by simp; omega) (dp.snoc (by omega) (by omega)) (by omega) (fun h => by have := hout (by omega); omega) (fun h => by have := hout (by omega); have := hm2 (by omega); omega) (by
        rw [vl_snoc, List.length_append, List.length_singleton, Int.pow_succ]; exact hs)
      rw [List.length_append, List.length_singleton] at this
      exact this
    have j1 : Ev (fun k => whetstoneref01_Times.j1 k a n p c (p.length : Int) true) (cn 10 (vl 10 a * n)) := by
      refine Ev.step (fun k => whetstoneref01_Times.j1.eq_2 _ _ _ _ _ _ _) (ev_pos rfl ?_)
      refine ev_ite (fun h0 => ev_pos (by omega) (ev_pos (by omega) ?_)) (fun h0 => ev_pos (by omega) ?_)
      · exact key _ (by rw [wr (n := rd a _ * n) (by omega) (by omega), wr (by omega) (by omega)])
      · exact key _ (by rw [rd_out (l := a) (by omega)]; omega)
    by_cases h0 : p.length < a.length ∨ 0 < c
    · refine Ev.step (fun k => whetstoneref01_Times.l0.eq_2 _ _ _ _ _ _) (ev_ite (fun _ => j1) (fun h1 => ?_))
      rw [decide_eq_true (show c > 0 by omega)]
      exact j1
    · have : c = 0 := by omega
      subst this
      exact fin p (by omega) (by omega) dp hv
theorem times_ev {a : List Int} {n : Int} (hn : 0 ≤ n ∧ n ≤ 10) (ha : a.length ≤ 10000000) (da : Dg 10 a) : Ev (fun k => whetstoneref01_Times.f k a n) (cn 10 (vl 10 a * n)) :=
  times_l0 hn ha da (a.length + 3) [] 0 (by simp) .nil (by omega) (fun h => by omega) (fun h => by omega) (by simp [vl])
/-- A number of no more than a million decimal digits. -/
def Fit (v : Int) : Prop := 0 ≤ v ∧ ∃ n : Nat, n ≤ 1000000 ∧ v < 10 ^ n
theorem Fit.len {v : Int} (h : Fit v) : (cn 10 v).length ≤ 1000000 := by
  obtain ⟨n, hn, h⟩ := h.2
  have := cn_length (B := 10) (by omega) h
  omega
theorem Fit.le {v w : Int} (h : Fit w) (h0 : 0 ≤ v) (hv : v ≤ w) : Fit v := by
  obtain ⟨n, hn, h⟩ := h.2
  exact ⟨h0, n, hn, by omega⟩
theorem D10 (v : Int) : Dg 10 (cn 10 v) := cn_Dg (by omega) v
theorem V10 {v : Int} (h : 0 ≤ v) : vl 10 (cn 10 v) = v := vl_cn (by omega) h
theorem rmul_l0 {a b : List Int} (ha : a.length ≤ 10000000) (hb : b.length ≤ 10000000) (da : Dg 10 a) (db : Dg 10 b) (hf : Fit (vl 10 a * vl 10 b)) : ∀ (i : Nat), i ≤ b.length → Ev (fun k => whetstoneref01_Mul.l0 k a b (cn 10 (vl 10 a * vl 10 (b.drop i))) ((i : Int) - 1)) (cn 10 (vl 10 a * vl 10 b))
  | 0, _ => Ev.step (fun k => whetstoneref01_Mul.l0.eq_2 _ _ _ _ _) (ev_neg (by omega) (ev_ret (by simp)))
  | i + 1, hi => by
    have hva := vl_nonneg (show (0 : Int) ≤ 10 by omega) da
    have f1 : ∀ j, Fit (vl 10 a * vl 10 (b.drop j)) := fun j => hf.le (Int.mul_nonneg hva (vl_nonneg (by omega) (db.drop j))) (Int.mul_le_mul_of_nonneg_left (vl_drop_le (by omega) db j) hva)
    have hd := db.place (by omega) (i : Int)
    have e1 := vl_drop (B := 10) (l := b) (i := i) (by omega)
    have hm := Int.mul_nonneg hva hd.1
    have e2 : vl 10 a * vl 10 (b.drop i) = vl 10 a * vl 10 (b.drop (i + 1)) * 10 + vl 10 a * rd b i := by rw [e1]; grind
    have hf1 := f1 (i + 1)
    have hf0 := f1 i
    have hft : Fit (vl 10 a * vl 10 (b.drop (i + 1)) * 10) := hf0.le (Int.mul_nonneg hf1.1 (by omega)) (by omega)
    have hfm : Fit (vl 10 a * rd b i) := hf0.le hm (by have := hft.1; omega)
    refine Ev.step (fun k => whetstoneref01_Mul.l0.eq_2 _ _ _ _ _) (ev_pos (by omega) (Ev.bind (times_ev (a := cn 10 (vl 10 a * vl 10 (b.drop (i + 1)))) (n := 10) (by omega) (by have := hf1.len; omega) (D10 _)) ?_))
    rw [show (((i + 1 : Nat) : Int) - 1) = (i : Int) by omega]
    refine ev_pos (by omega) (ev_pos (by omega) (Ev.bind (times_ev (a := a) (n := rd b i) (by omega) ha da) ?_))
    rw [V10 hf1.1, wr (by omega) (by omega)]
    refine Ev.bind (radd_ev (by have := hft.len; omega) (by have := hfm.len; omega) (D10 _) (D10 _)) ?_
    rw [V10 hft.1, V10 hfm.1, ← e2]
    exact rmul_l0 ha hb da db hf i (by omega)
theorem rmul_ev {a b : List Int} (ha : a.length ≤ 10000000) (hb : b.length ≤ 10000000) (da : Dg 10 a) (db : Dg 10 b) (hf : Fit (vl 10 a * vl 10 b)) : Ev (fun k => whetstoneref01_Mul.f k a b) (cn 10 (vl 10 a * vl 10 b)) := by
  have := rmul_l0 ha hb da db hf b.length (Nat.le_refl _)
  rw [List.drop_length, show vl 10 a * vl 10 [] = 0 by simp [vl], cn_zero (Int.le_refl _)] at this
  unfold whetstoneref01_Mul.f
  rw [wr (by omega) (by omega)]
  exact this
end Ref
/-! ### comparing, taking away, dividing -/
section Ref2
def cmpI (v w : Int) : Int := if v < w then -1 else if w < v then 1 else 0
theorem top_step {B : Int} (hB : 2 ≤ B) {P a b x y : Int} (hP : 0 < P) (h0 : 0 ≤ a) (h1 : a < P) (h2 : 0 ≤ b) (h3 : b < P) : (if x < y then -1 else if y < x then 1 else cmpI a b) = cmpI (a + P * x) (b + P * y) := by
  unfold cmpI
  rcases Int.lt_trichotomy x y with h | h | h
  · have := Int.mul_le_mul_of_nonneg_left (show x + 1 ≤ y by omega) (show 0 ≤ P by omega)
    rw [Int.mul_add, Int.mul_one] at this
    rw [if_pos h, if_pos (by omega)]
  · subst h
    rw [if_neg (Int.lt_irrefl x), if_neg (Int.lt_irrefl x)]
    by_cases h4 : a < b
    · rw [if_pos h4, if_pos (by omega)]
    · rw [if_neg h4, if_neg (show ¬ a + P * x < b + P * x by omega)]
      by_cases h5 : b < a
      · rw [if_pos h5, if_pos (by omega)]
      · rw [if_neg h5, if_neg (by omega)]
  · have := Int.mul_le_mul_of_nonneg_left (show y + 1 ≤ x by omega) (show 0 ≤ P by omega)
    rw [Int.mul_add, Int.mul_one] at this
    rw [if_neg (by omega), if_pos h, if_neg (by omega), if_pos (by omega)]
theorem top_take {B : Int} (hB : 2 ≤ B) {x y : List Int} (dx : Dg B x) (dy : Dg B y) (n : Nat) : (if rd x n < rd y n then -1 else if rd y n < rd x n then 1 else cmpI (vl B (x.take n)) (vl B (y.take n))) = cmpI (vl B (x.take (n + 1))) (vl B (y.take (n + 1))) := by
  have h1 := vl_lt (show 0 < B by omega) (dx.take n)
  have h2 := vl_lt (show 0 < B by omega) (dy.take n)
  have h3 := pow_le (show 1 ≤ B by omega) (show (x.take n).length ≤ n by simp; omega)
  have h4 := pow_le (show 1 ≤ B by omega) (show (y.take n).length ≤ n by simp; omega)
  rw [vl_take_succ, vl_take_succ, top_step hB (pow_pos' (show 0 < B by omega) n) (vl_nonneg (by omega) (dx.take n)) (by omega) (vl_nonneg (by omega) (dy.take n)) (by omega)]
theorem top_low {B : Int} (hB : 2 ≤ B) {l : List Int} (h : Dg B l) (ht : tr l = l) (hl : l ≠ []) : B ^ (l.length - 1) ≤ vl B l := by
  have hlen : 0 < l.length := List.length_pos_iff.2 hl
  have e : l = l.take (l.length - 1) ++ [rd l ((l.length - 1 : Nat) : Int)] := by
    have := takeS (l := l) (n := l.length - 1) (by omega)
    rwa [show l.length - 1 + 1 = l.length by omega, List.take_length] at this
  have hd := h.place (show 0 < B by omega) ((l.length - 1 : Nat) : Int)
  by_cases h0 : rd l ((l.length - 1 : Nat) : Int) = 0
  · exfalso
    rw [h0] at e
    rw [e, tr_snoc0] at ht
    have := tr_length (l.take (l.length - 1))
    rw [ht] at this
    simp at this
    omega
  · have h1 := vl_take_succ (B := B) l (l.length - 1)
    rw [show l.length - 1 + 1 = l.length by omega, List.take_length] at h1
    have h2 := vl_nonneg (show 0 ≤ B by omega) (h.take (l.length - 1))
    have h3 := Int.mul_le_mul_of_nonneg_left (show 1 ≤ rd l ((l.length - 1 : Nat) : Int) by omega) (show 0 ≤ B ^ (l.length - 1) by have := pow_pos' (show 0 < B by omega) (l.length - 1); omega)
    omega
theorem shorter {B : Int} (hB : 2 ≤ B) {x y : List Int} (dx : Dg B x) (dy : Dg B y) (ty : tr y = y) (h : x.length < y.length) : vl B x < vl B y := by
  have h1 := vl_lt (show 0 < B by omega) dx
  have h2 := top_low hB dy ty (by intro e; rw [e] at h; simp at h)
  have h3 := pow_le (show 1 ≤ B by omega) (show x.length ≤ y.length - 1 by omega)
  omega
theorem nat_Cmp.g_ev {B : Int} (hB : 2 ≤ B) {x y : List Int} (dx : Dg B x) (dy : Dg B y) : ∀ n, nat_Cmp.g n x y = cmpI (vl B (x.take n)) (vl B (y.take n))
  | 0 => rfl
  | n + 1 => by
    unfold nat_Cmp.g
    rw [nat_Cmp.g_ev hB dx dy n, ← rd_nat, ← rd_nat]
    exact top_take hB dx dy n
theorem cmp_len {B : Int} (hB : 2 ≤ B) {x y : List Int} (dx : Dg B x) (dy : Dg B y) (tx : tr x = x) (ty : tr y = y) : (if x.length < y.length then -1 else if y.length < x.length then 1 else nat_Cmp.g x.length x y) = cmpI (vl B x) (vl B y) := by
  rcases Nat.lt_trichotomy x.length y.length with h | h | h
  · rw [if_pos h]; unfold cmpI; rw [if_pos (shorter hB dx dy ty h)]
  · rw [if_neg (by omega), if_neg (by omega), nat_Cmp.g_ev hB dx dy, List.take_of_length_le (by omega), List.take_of_length_le (by omega)]
  · have := shorter hB dy dx tx h
    rw [if_neg (by omega), if_pos h]; unfold cmpI; rw [if_neg (by omega), if_pos this]
theorem nat_Cmp.ev {B : Int} (hB : 2 ≤ B) {x y : List Int} (hx : x.length ≤ 10000000) (hy : y.length ≤ 10000000) (dx : Dg B x) (dy : Dg B y) : Ev (fun k => nat_Cmp.f k x y) (cmpI (vl B x) (vl B y)) := by
  refine Ev.bind (nat_trim.ev (by omega)) (Ev.bind (nat_trim.ev (by omega)) (ev_ret ?_))
  rw [cmp_len hB (tr_Dg dx) (tr_Dg dy) (tr_tr x) (tr_tr y), tr_vl, tr_vl]
theorem rcmp_l0 {x y : List Int} (hl : x.length = y.length) (hx : x.length ≤ 100000000) : ∀ n, n ≤ x.length → Ev (fun k => whetstoneref01_Cmp.l0 k x y ((n : Int) - 1)) (nat_Cmp.g n x y)
  | 0, _ => Ev.step (fun k => whetstoneref01_Cmp.l0.eq_2 _ _ _ _) (ev_neg (by omega) (ev_ret rfl))
  | n + 1, h => by
    refine Ev.step (fun k => whetstoneref01_Cmp.l0.eq_2 _ _ _ _) ?_
    rw [show (((n + 1 : Nat) : Int) - 1) = (n : Int) by omega]
    refine ev_pos (by omega) (ev_pos (by omega) (ev_pos (by omega) (ev_pos (by omega) (ev_ite (fun h0 => ?_) (fun h0 => ev_ite (fun h1 => ?_) (fun h1 => ?_))))))
    · refine ev_ret ?_
      unfold nat_Cmp.g; rw [← rd_nat, ← rd_nat, if_pos h0]
    · refine ev_ret ?_
      unfold nat_Cmp.g; rw [← rd_nat, ← rd_nat, if_neg h0, if_pos h1]
    · unfold nat_Cmp.g
      rw [← rd_nat, ← rd_nat, if_neg h0, if_neg h1, wr (by omega) (by omega)]
      exact rcmp_l0 hl hx n (by omega)
theorem rcmp_ev {x y : List Int} (hx : x.length ≤ 10000000) (hy : y.length ≤ 10000000) (dx : Dg 10 x) (dy : Dg 10 y) : Ev (fun k => whetstoneref01_Cmp.f k x y) (cmpI (vl 10 x) (vl 10 y)) := by
  have e := cmp_len (by omega) (tr_Dg dx) (tr_Dg dy) (tr_tr x) (tr_tr y)
  rw [tr_vl, tr_vl] at e
  have l1 := tr_length x
  have l2 := tr_length y
  refine Ev.bind (ref_trim.ev (x := x) (by omega)) (Ev.bind (ref_trim.ev (x := y) (by omega)) ?_)
  refine ev_ite (fun h => ?_) (fun h => ev_ite (fun h1 => ev_ret ?_) (fun h1 => ev_ret ?_))
  · rw [if_neg (by omega), if_neg (by omega)] at e
    rw [wr (by omega) (by omega), ← e]
    exact rcmp_l0 (by omega) (by omega) _ (Nat.le_refl _)
  · rw [← e, if_pos (by omega)]
  · rw [← e, if_neg (by omega), if_pos (by omega)]
/-- What is taken away from a greater number has no more places that count. -/
theorem take_less {B : Int} (hB : 2 ≤ B) {a b : List Int} (da : Dg B a) (db : Dg B b) (h : vl B b ≤ vl B a) : vl B (b.take a.length) = vl B b := by
  have h1 := vl_split (B := B) a.length b
  have h2 := vl_lt (show 0 < B by omega) da
  have h3 := vl_nonneg (show 0 ≤ B by omega) (db.take a.length)
  have h4 := vl_nonneg (show 0 ≤ B by omega) (db.drop a.length)
  have hP := pow_pos' (show 0 < B by omega) a.length
  rcases (show vl B (b.drop a.length) = 0 ∨ 1 ≤ vl B (b.drop a.length) by omega) with h5 | h5
  · rw [h5] at h1; omega
  · have := Int.mul_le_mul_of_nonneg_left h5 (show 0 ≤ B ^ a.length by omega); omega
theorem sub_step {B P V A b x y c q d : Int} (h : V - P * c = A - b) (e : q - B * d = x - y - c) : V + P * q - P * B * d = (A + P * x) - (b + P * y) := by grind
theorem sub_end {B : Int} (hB : 2 ≤ B) {p : List Int} {c v : Int} (dp : Dg B p) (hc : 0 ≤ c ∧ c ≤ 1) (hv : vl B p - B ^ p.length * c = v) (h0 : 0 ≤ v) : vl B p = v := by
  have h1 := vl_lt (show 0 < B by omega) dp
  rcases (show c = 0 ∨ c = 1 by omega) with rfl | rfl
  · omega
  · omega
theorem rsub_l0 {a b : List Int} (ha : a.length ≤ 10000000) (hb : b.length ≤ 10000000) (da : Dg 10 a) (db : Dg 10 b) (hle : vl 10 b ≤ vl 10 a) : ∀ (m : Nat) (p : List Int) (c : Int), p.length + m = a.length → Dg 10 p → 0 ≤ c ∧ c ≤ 1 → vl 10 p - 10 ^ p.length * c = vl 10 (a.take p.length) - vl 10 (b.take p.length) → Ev (fun k => whetstoneref01_Sub.l0 k a b p c (p.length : Int)) (cn 10 (vl 10 a - vl 10 b))
  | 0, p, c, hp, dp, hc, hv => by
    refine Ev.step (fun k => whetstoneref01_Sub.l0.eq_2 _ _ _ _ _ _) (ev_neg (by omega) (Ev.bind (ref_trim.cn (x := p) (by omega) dp) (ev_ret ?_)))
    rw [List.take_of_length_le (show a.length ≤ p.length by omega), show p.length = a.length by omega, take_less (by omega) da db hle, show a.length = p.length by omega] at hv
    rw [sub_end (by omega) dp hc hv (by omega)]
  | m + 1, p, c, hp, dp, hc, hv => by
    have hx := da.place (by omega) (p.length : Int)
    have hy := db.place (by omega) (p.length : Int)
    have key : ∀ q d, q - 10 * d = rd a (p.length : Int) - rd b (p.length : Int) - c → 0 ≤ q ∧ q < 10 → 0 ≤ d ∧ d ≤ 1 → Ev (fun k => whetstoneref01_Sub.l0 k a b (p ++ [q]) d (wrap64 ((p.length : Int) + 1))) (cn 10 (vl 10 a - vl 10 b)) := by
      intro q d e hq hd
      have hs := sub_step (B := 10) hv e
      rw [← vl_take_succ, ← vl_take_succ] at hs
      rw [suc (by omega)]
      have := rsub_l0 ha hb da db hle m (p ++ [q]) d (by simp; omega) (dp.snoc (by omega) (by omega)) hd (by
        rw [vl_snoc, List.length_append, List.length_singleton, Int.pow_succ]; exact hs)
      rw [List.length_append, List.length_singleton] at this
      exact this
    have w1 : wrap64 (rd a (p.length : Int) - c) = rd a (p.length : Int) - c := wr (by omega) (by omega)
    refine Ev.step (fun k => whetstoneref01_Sub.l0.eq_2 _ _ _ _ _ _) (ev_pos (by omega) (ev_pos (by omega) ?_))
    rw [w1]
    refine ev_ite (fun h0 => ?_) (fun h0 => ?_)
    · rw [show wrap64 (rd a (p.length : Int) - c - rd b (p.length : Int)) = rd a (p.length : Int) - c - rd b (p.length : Int) from wr (by omega) (by omega)]
      refine ev_ite (fun h1 => ev_pos (by omega) ?_) (fun h1 => ev_pos (by omega) ?_)
      · rw [wr (n := _ + 10) (by omega) (by omega)]; exact key _ 1 (by omega) (by omega) (by omega)
      · exact key _ 0 (by omega) (by omega) (by omega)
    · have e := rd_out (l := b) (i := p.length) (by omega)
      refine ev_ite (fun h1 => ev_pos (by omega) ?_) (fun h1 => ev_pos (by omega) ?_)
      · rw [wr (n := _ + 10) (by omega) (by omega)]; exact key _ 1 (by omega) (by omega) (by omega)
      · exact key _ 0 (by omega) (by omega) (by omega)
theorem rsub_ev {a b : List Int} (ha : a.length ≤ 10000000) (hb : b.length ≤ 10000000) (da : Dg 10 a) (db : Dg 10 b) (hle : vl 10 b ≤ vl 10 a) : Ev (fun k => whetstoneref01_Sub.f k a b) (cn 10 (vl 10 a - vl 10 b)) :=
  rsub_l0 ha hb da db hle a.length [] 0 (by simp) .nil (by omega) (by simp [vl])
/-- How many places a quotient's limb has: subtracting as often as it goes. -/
theorem rdiv_l1 {a b : List Int} (ha : a.length ≤ 1000000) (hb : b.length ≤ 1000000) (db : Dg 10 b) (hv : 0 < vl 10 b) {i : Nat} {qs : List Int} (hi : i + 1 + qs.length ≤ 1000000) {r : Int} (K : Int → Int → Prop)
    (next : ∀ c r', 0 ≤ c → 0 ≤ r' → r' < vl 10 b → r = c * vl 10 b + r' → Ev (fun k => whetstoneref01_DivMod.l0 k a b ((List.replicate i 0 ++ [c]) ++ qs) (cn 10 r') ((i : Int) - 1)) (cn 10 (vl 10 a / vl 10 b), cn 10 (vl 10 a % vl 10 b))) :
    ∀ (m : Nat) (c r' : Int), r'.toNat ≤ m → 0 ≤ c → c + m ≤ 1000 + r.toNat → 0 ≤ r' → r = c * vl 10 b + r' → c ≤ 1000 → r' < 10 * vl 10 b → c + 10 ≤ 30 → c * vl 10 b ≤ r → r < 10 * vl 10 b → Ev (fun k => whetstoneref01_DivMod.l1 k a b ((List.replicate i 0 ++ [c]) ++ qs) (cn 10 r') (i : Int)) (cn 10 (vl 10 a / vl 10 b), cn 10 (vl 10 a % vl 10 b)) := by
  have lr : ∀ r', 0 ≤ r' → r' < 10 * vl 10 b → (cn 10 r').length ≤ 1000001 := by
    intro r' h0 h
    refine cn_length (by omega) ?_
    have h1 := vl_lt (show (0 : Int) < 10 by omega) db
    have h2 := pow_le (show (1 : Int) ≤ 10 by omega) hb
    rw [Int.pow_succ]
    omega
  intro m
  induction m with
  | zero =>
    intro c r' h h0 _ h1 e _ h2 _ _ _
    refine Ev.step (fun k => whetstoneref01_DivMod.l1.eq_2 _ _ _ _ _ _) (Ev.bind (rcmp_ev (by have := lr r' h1 h2; omega) (by omega) (D10 _) db) ?_)
    rw [V10 h1, show cmpI r' (vl 10 b) = -1 by unfold cmpI; rw [if_pos (by omega)]]
    refine ev_neg (by omega) ?_
    rw [wr (by omega) (by omega)]
    exact next c r' h0 h1 (by omega) e
  | succ m ih =>
    intro c r' h h0 hcm h1 e hc1 h2 hc2 hcr hr
    refine Ev.step (fun k => whetstoneref01_DivMod.l1.eq_2 _ _ _ _ _ _) (Ev.bind (rcmp_ev (by have := lr r' h1 h2; omega) (by omega) (D10 _) db) ?_)
    rw [V10 h1]
    by_cases hlt : r' < vl 10 b
    · rw [show cmpI r' (vl 10 b) = -1 by unfold cmpI; rw [if_pos (by omega)]]
      refine ev_neg (by omega) ?_
      rw [wr (by omega) (by omega)]
      exact next c r' h0 h1 (by omega) e
    · have hc9 : c ≤ 8 := by
        rcases (show c ≤ 8 ∨ 9 ≤ c by omega) with h | h
        · exact h
        · have := Int.mul_le_mul_of_nonneg_right h (show 0 ≤ vl 10 b by omega); omega
      refine ev_pos (by unfold cmpI; split <;> (try split) <;> omega) ?_
      refine Ev.bind (rsub_ev (by have := lr r' h1 h2; omega) (by omega) (D10 _) db (by rw [V10 h1]; omega)) ?_
      rw [V10 h1]
      have erd : rd ((List.replicate i 0 ++ [c]) ++ qs) (i : Int) = c := by
        rw [rd_nat, List.append_assoc, List.getElem?_append_right (by simp)]
        simp
      refine ev_pos (by omega) (ev_pos (by simp; omega) ?_)
      rw [erd, natT, wr (by omega) (by omega), show ((List.replicate i (0 : Int) ++ [c]) ++ qs).set i (c + 1) = (List.replicate i 0 ++ [c + 1]) ++ qs by
        rw [List.append_assoc, List.append_assoc, List.set_append_right _ _ (by simp)]; simp]
      exact ih (c + 1) (r' - vl 10 b) (by omega) (by omega) (by omega) (by omega) (by rw [Int.add_mul, Int.one_mul]; omega) (by omega) (by omega) (by omega) (by rw [Int.add_mul, Int.one_mul]; omega) hr
theorem rdiv_l0 {a b : List Int} (ha : a.length ≤ 1000000) (hb : b.length ≤ 1000000) (da : Dg 10 a) (db : Dg 10 b) (hv : 0 < vl 10 b) : ∀ (i : Nat) (qs : List Int) (r : Int), i + qs.length = a.length → Dg 10 qs → 0 ≤ r → r < vl 10 b → vl 10 (a.drop i) = vl 10 qs * vl 10 b + r → Ev (fun k => whetstoneref01_DivMod.l0 k a b (List.replicate i 0 ++ qs) (cn 10 r) ((i : Int) - 1)) (cn 10 (vl 10 a / vl 10 b), cn 10 (vl 10 a % vl 10 b))
  | 0, qs, r, hi, dq, h0, h1, hd => by
    refine Ev.step (fun k => whetstoneref01_DivMod.l0.eq_2 _ _ _ _ _ _) (ev_neg (by omega) (Ev.bind (ref_trim.cn (x := [] ++ qs) (by simp; omega) dq) (ev_ret ?_)))
    rw [List.drop_zero] at hd
    have e1 : vl 10 a / vl 10 b = vl 10 qs := by
      rw [hd, Int.mul_comm, Int.add_comm, Int.add_mul_ediv_left _ _ (by omega), Int.ediv_eq_zero_of_lt h0 h1]; omega
    have e2 : vl 10 a % vl 10 b = r := by
      rw [hd, Int.mul_comm, Int.add_comm, Int.add_mul_emod_self_left, Int.emod_eq_of_lt h0 h1]
    rw [e1, e2]; rfl
  | i + 1, qs, r, hi, dq, h0, h1, hd => by
    have hx := da.place (by omega) (i : Int)
    have hbn := vl_lt (show (0 : Int) < 10 by omega) db
    have hbp := pow_le (show (1 : Int) ≤ 10 by omega) hb
    have lr : (cn 10 r).length ≤ 1000000 := cn_length (by omega) (by omega)
    have lr10 : (cn 10 (r * 10)).length ≤ 1000001 := cn_length (by omega) (by rw [Int.pow_succ]; omega)
    have lx : (cn 10 (rd a i)).length ≤ 1 := cn_length (by omega) (by omega)
    refine Ev.step (fun k => whetstoneref01_DivMod.l0.eq_2 _ _ _ _ _ _) (ev_pos (by omega) (Ev.bind (times_ev (a := cn 10 r) (n := 10) (by omega) (by omega) (D10 _)) ?_))
    rw [show (((i + 1 : Nat) : Int) - 1) = (i : Int) by omega, V10 h0]
    refine ev_pos (by omega) (ev_pos (by omega) ?_)
    rw [u64id (by omega) (by omega)]
    refine Ev.bind (small_ev (by omega) (by omega)) (Ev.bind (radd_ev (by omega) (by omega) (D10 _) (D10 _)) ?_)
    rw [V10 (by omega), V10 (by omega)]
    have := rdiv_l1 (a := a) ha hb db hv (i := i) (qs := qs) (by omega) (r := r * 10 + rd a i) (fun _ _ => True) (fun c r' c0 r0 r1 e => by
      rw [List.append_assoc]
      have c9 : c ≤ 9 := by
        rcases (show c ≤ 9 ∨ 10 ≤ c by omega) with h | h
        · exact h
        · have := Int.mul_le_mul_of_nonneg_right h (show 0 ≤ vl 10 b by omega); omega
      refine rdiv_l0 ha hb da db hv i ([c] ++ qs) r' (by simp; omega) (Dg.app (.one c0 (by omega)) dq) r0 r1 ?_
      rw [vl_drop (by omega), hd, vl_app, vl_one]
      simp only [List.length_singleton]
      generalize vl 10 b = vb at *
      generalize vl 10 qs = vq at *
      generalize rd a i = x at *
      grind) (r * 10 + rd a i).toNat 0 (r * 10 + rd a i) (Nat.le_refl _) (by omega) (by omega) (by omega) (by omega) (by omega) (by omega) (by omega) (by omega) (by omega)
    rw [show List.replicate (i + 1) 0 ++ qs = (List.replicate i 0 ++ [0]) ++ qs by rw [List.replicate_succ']]
    exact this
theorem rdiv_ev {a b : List Int} (ha : a.length ≤ 1000000) (hb : b.length ≤ 1000000) (da : Dg 10 a) (db : Dg 10 b) (hv : 0 < vl 10 b) : Ev (fun k => whetstoneref01_DivMod.f k a b) (cn 10 (vl 10 a / vl 10 b), cn 10 (vl 10 a % vl 10 b)) := by
  have := rdiv_l0 ha hb da db hv a.length [] 0 (by simp) .nil (by omega) hv (by rw [List.drop_length]; simp [vl])
  rw [List.append_nil, cn_zero (Int.le_refl _)] at this
  refine ev_pos (by omega) ?_
  rw [natT, wr (by omega) (by omega)]
  exact ev_pos (by omega) this
end Ref2
/-! ### limbs and digits -/
section Ref3
theorem number_l0 {a : List Int} (da : Dg 10 a) (ha : a.length ≤ 1000000) (hv : vl 10 a < 18446744073709551616) : ∀ i : Nat, i ≤ a.length → Ev (fun k => whetstoneref01_Number.l0 k a (vl 10 (a.drop i)) ((i : Int) - 1)) (vl 10 a)
  | 0, _ => Ev.step (fun k => whetstoneref01_Number.l0.eq_2 _ _ _ _) (ev_neg (by omega) (ev_ret rfl))
  | i + 1, h => by
    have hx := da.place (by omega) (i : Int)
    have e := vl_drop (B := 10) (l := a) (i := i) (by omega)
    have h0 := vl_nonneg (show (0 : Int) ≤ 10 by omega) (da.drop (i + 1))
    have h1 := vl_drop_le (show (1 : Int) ≤ 10 by omega) da i
    refine Ev.step (fun k => whetstoneref01_Number.l0.eq_2 _ _ _ _) ?_
    rw [show (((i + 1 : Nat) : Int) - 1) = (i : Int) by omega]
    refine ev_pos (by omega) (ev_pos (by omega) (ev_pos (by omega) ?_))
    rw [u64id (x := rd a i) (by omega) (by omega), u64id (x := _ * 10) (by omega) (by omega), u64id (x := _ + rd a i) (by omega) (by omega), wr (by omega) (by omega), show vl 10 (a.drop (i + 1)) * 10 + rd a i = vl 10 (a.drop i) by omega]
    exact number_l0 da ha hv i (by omega)
theorem number_ev {v : Int} (h0 : 0 ≤ v) (h1 : v < 18446744073709551616) : Ev (fun k => whetstoneref01_Number.f k (cn 10 v)) v := by
  have hl : (cn 10 v).length ≤ 20 := cn_length (by omega) (Int.lt_of_lt_of_le h1 (by decide))
  have := number_l0 (D10 v) (by omega) (by rw [V10 h0]; exact h1) (cn 10 v).length (Nat.le_refl _)
  rw [List.drop_length, V10 h0] at this
  unfold whetstoneref01_Number.f
  rw [wr (by omega) (by omega)]
  exact this
theorem pow_fit {B : Int} (hB : B = 4294967296) (n : Nat) : B ^ n ≤ 10 ^ (10 * n) := by
  induction n with
  | zero => simp
  | succ n ih =>
    rw [Nat.mul_add, Int.pow_succ, Int.pow_add]
    have h1 := pow_pos' (show 0 < B by omega) n
    have h2 := pow_pos' (show (0 : Int) < 10 by omega) (10 * n)
    have h3 := Int.mul_le_mul_of_nonneg_left (show B ≤ 10 ^ (10 * 1) by rw [hB]; decide) (show 0 ≤ B ^ n by omega)
    have h4 := Int.mul_le_mul_of_nonneg_right ih (show (0 : Int) ≤ 10 ^ (10 * 1) by decide)
    omega
theorem Sm.fit {B : Int} (hB : B = 4294967296) {n : Nat} {v : Int} (h : Sm B n v) (hn : n ≤ 100000) : Fit v := ⟨h.1, 10 * n, by omega, by have := pow_fit hB n; have := h.2; omega⟩
theorem limb10 : Ev (fun k => whetstoneref01_Small.f k 4294967296) (cn 10 4294967296) := small_ev (by omega) (by omega)
theorem len10 : (cn 10 4294967296).length ≤ 10 := cn_length (by omega) (by decide)
theorem from_l0 {B : Int} (hB : B = 4294967296) {l : List Int} (hl : l.length ≤ 50000) (dl : Dg B l) : ∀ i : Nat, i ≤ l.length → Ev (fun k => whetstoneref01_From.l0 k l (cn 10 (vl B (l.drop i))) (cn 10 4294967296) ((i : Int) - 1)) (cn 10 (vl B l))
  | 0, _ => Ev.step (fun k => whetstoneref01_From.l0.eq_2 _ _ _ _ _) (ev_neg (by omega) (ev_ret rfl))
  | i + 1, h => by
    have hx := dl.place (show 0 < B by omega) (i : Int)
    have e := vl_drop (B := B) (l := l) (i := i) (by omega)
    have s1 := Sm.of (show 2 ≤ B by omega) (dl.drop (i + 1)) (n := l.length) (by rw [List.length_drop]; omega)
    have s0 := Sm.of (show 2 ≤ B by omega) (dl.drop i) (n := l.length) (by rw [List.length_drop]; omega)
    have f1 : Fit (vl B (l.drop (i + 1)) * 4294967296) := (s0.fit hB (by omega)).le (Int.mul_nonneg s1.1 (by omega)) (by rw [e, hB]; omega)
    have lx : (cn 10 (rd l i)).length ≤ 10 := cn_length (by omega) (by have : (10 : Int) ^ 10 = 10000000000 := by decide
                                                                       omega)
    refine Ev.step (fun k => whetstoneref01_From.l0.eq_2 _ _ _ _ _) ?_
    rw [show (((i + 1 : Nat) : Int) - 1) = (i : Int) by omega]
    have hm := rmul_ev (a := cn 10 (vl B (l.drop (i + 1)))) (b := cn 10 4294967296) (by have := (s1.fit hB (by omega)).len; omega) (by have := len10; omega) (D10 _) (D10 _) (by rw [V10 s1.1, V10 (by omega)]; exact f1)
    rw [V10 s1.1, V10 (by omega)] at hm
    refine ev_pos (by omega) (Ev.bind hm (ev_pos (by omega) (ev_pos (by omega) ?_)))
    rw [u64id (by omega) (by omega)]
    refine Ev.bind (small_ev (by omega) (by omega)) (Ev.bind (radd_ev (by have := f1.len; omega) (by omega) (D10 _) (D10 _)) ?_)
    rw [V10 f1.1, V10 (by omega), wr (by omega) (by omega), show vl B (l.drop (i + 1)) * 4294967296 + rd l i = vl B (l.drop i) by rw [e, hB]; omega]
    exact from_l0 hB hl dl i (by omega)
theorem from_ev {B : Int} (hB : B = 4294967296) {l : List Int} (hl : l.length ≤ 50000) (dl : Dg B l) : Ev (fun k => whetstoneref01_From.f k l) (cn 10 (vl B l)) := by
  refine Ev.bind limb10 ?_
  have := from_l0 hB hl dl l.length (Nat.le_refl _)
  rw [List.drop_length, show vl B [] = 0 from rfl, cn_zero (Int.le_refl _)] at this
  rw [wr (by omega) (by omega)]
  exact this
theorem limbs_l0 {B : Int} (hB : B = 4294967296) : ∀ (n : Nat) (v : Int) (acc : List Int), n ≤ 100000 → Sm B n v → acc.length + n ≤ 1000000 → Ev (fun k => whetstoneref01_Limbs.l0 k acc (cn 10 v) (cn 10 4294967296)) (acc ++ cn B v) := by
  have zero : ∀ (v : Int) (acc : List Int), v = 0 → Ev (fun k => whetstoneref01_Limbs.l0 k acc (cn 10 v) (cn 10 4294967296)) (acc ++ cn B v) := by
    intro v acc h
    subst h
    rw [cn_zero (Int.le_refl _), cn_zero (Int.le_refl _), List.append_nil]
    exact Ev.step (fun k => whetstoneref01_Limbs.l0.eq_2 _ _ _ _) (ev_neg (by simp) (ev_ret rfl))
  intro n
  induction n with
  | zero =>
    intro v acc _ h hl
    exact zero v acc (by have := h.1; have := h.2; simp at *; omega)
  | succ n ih =>
    intro v acc hn h hl
    by_cases h0 : v = 0
    · exact zero v acc h0
    · have hv0 := h.1
      have hp : 0 < (cn 10 v).length := List.length_pos_iff.2 (cn_nil (by omega) (by omega))
      have hfit := (h.fit hB hn).len
      have hd := rdiv_ev (a := cn 10 v) (b := cn 10 4294967296) hfit (by have := len10; omega) (D10 _) (D10 _) (by rw [V10 (by omega)]; omega)
      rw [V10 hv0, V10 (by omega)] at hd
      refine Ev.step (fun k => whetstoneref01_Limbs.l0.eq_2 _ _ _ _) (ev_pos (by omega) (Ev.bind hd (Ev.bind (number_ev (by omega) (by omega)) (ev_pos (by omega) ?_))))
      have := ih (v / 4294967296) (acc ++ [v % 4294967296 % 4294967296]) (by omega) ⟨by omega, Int.ediv_lt_of_lt_mul (by omega) (by have := h.2; rw [Int.pow_succ, hB] at this; rw [hB]; exact this)⟩ (by simp; omega)
      rw [cn_cons (B := B) (by omega) (show 0 < v by omega)]
      have em : v % 4294967296 % 4294967296 = v % B := by rw [hB]; omega
      rw [List.append_assoc, em, ← hB] at this
      rw [hB] at *
      have em2 : v % 4294967296 % 4294967296 = v % 4294967296 := by omega
      rw [em2]
      exact this
theorem limbs_ev {B : Int} (hB : B = 4294967296) {n : Nat} {v : Int} (h : Sm B n v) (hn : n ≤ 100000) : Ev (fun k => whetstoneref01_Limbs.f k (cn 10 v)) (cn B v) := by
  have hf := (h.fit hB hn).len
  have h1 := ref_trim.cn (x := cn 10 v) (by omega) (D10 _)
  rw [V10 h.1] at h1
  exact Ev.bind h1 (Ev.bind limb10 (limbs_l0 hB n v [] hn h (by simp; omega)))
end Ref3
/-! ### bits of a limb -/
section Bits32
theorem b32 (v : BitVec 32) : IntKind.u32.wrap (v.toNat : Int) = v.toNat := by rw [IntKind.wrap_u32]; have := v.isLt; omega
theorem b64 (v : BitVec 64) : IntKind.u64.wrap (v.toNat : Int) = v.toNat := by rw [IntKind.wrap_u64]; have := v.isLt; omega
theorem and64 (x y : Int) : Go.bits .and .u64 x y = ((BitVec.ofInt 64 x &&& BitVec.ofInt 64 y).toNat : Int) := b64 _
theorem or64 (x y : Int) : Go.bits .or .u64 x y = ((BitVec.ofInt 64 x ||| BitVec.ofInt 64 y).toNat : Int) := b64 _
theorem ofN64 {x : Int} (h : 0 ≤ x) (h' : x < 18446744073709551616) : ((BitVec.ofInt 64 x).toNat : Int) = x := by
  rw [BitVec.toNat_ofInt]; omega
/-- A limb behind another one: the two as one number. -/
theorem join64 {x y : Int} (hx : 0 ≤ x ∧ x < 4294967296) (hy : 0 ≤ y ∧ y < 4294967296) : Go.bits .or .u64 (IntKind.u64.wrap (x * 4294967296)) y = x * 4294967296 + y := by
  rw [or64, IntKind.wrap_u64]
  have e1 : x * 4294967296 % 18446744073709551616 = x * 4294967296 := by omega
  rw [e1, BitVec.toNat_or]
  have h1 := ofN64 (x := x * 4294967296) (by omega) (by omega)
  have h2 := ofN64 (x := y) (by omega) (by omega)
  have h3 : (BitVec.ofInt 64 (x * 4294967296)).toNat = 2 ^ 32 * x.toNat := by omega
  have h4 : (BitVec.ofInt 64 y).toNat = y.toNat := by omega
  rw [h3, h4, ← Nat.two_pow_add_eq_or_of_lt (show y.toNat < 2 ^ 32 by omega)]
  omega
theorem low32 {x : Int} (hx : 0 ≤ x ∧ x < 18446744073709551616) : Go.bits .and .u64 x 4294967295 = x % 4294967296 := by
  rw [and64, BitVec.toNat_and]
  have h1 := ofN64 (x := x) hx.1 hx.2
  have h2 : (BitVec.ofInt 64 4294967295).toNat = 2 ^ 32 - 1 := by decide
  rw [h2, Nat.and_two_pow_sub_one_eq_mod]
  omega
end Bits32
/-! ### bits of a limb: the borrow -/
section Bits32b
theorem and32 (x y : Int) : Go.bits .and .u32 x y = ((BitVec.ofInt 32 x &&& BitVec.ofInt 32 y).toNat : Int) := b32 _
theorem or32 (x y : Int) : Go.bits .or .u32 x y = ((BitVec.ofInt 32 x ||| BitVec.ofInt 32 y).toNat : Int) := b32 _
theorem xor32 (x y : Int) : Go.bits .xor .u32 x y = ((BitVec.ofInt 32 x ^^^ BitVec.ofInt 32 y).toNat : Int) := b32 _
theorem ofb32 (v : BitVec 32) : BitVec.ofInt 32 (v.toNat : Int) = v := by
  rw [BitVec.ofInt_natCast]; simp
theorem ofN32 {x : Int} (h : 0 ≤ x) (h' : x < 4294967296) : ((BitVec.ofInt 32 x).toNat : Int) = x := by
  rw [BitVec.toNat_ofInt]; omega
theorem top32 (v : BitVec 32) : (v.toNat : Int) / 2147483648 = if v.msb then 1 else 0 := by
  have h := v.isLt
  rw [BitVec.msb_eq_decide]
  by_cases hv : 2147483648 ≤ v.toNat
  · rw [decide_eq_true hv]; simp only [if_true]; omega
  · rw [decide_eq_false hv]; simp only [Bool.false_eq_true, if_false]; omega
theorem msb32 {x : Int} (h : 0 ≤ x) (h' : x < 4294967296) : (BitVec.ofInt 32 x).msb = decide (2147483648 ≤ x) := by
  have := ofN32 h h'
  rw [BitVec.msb_eq_decide]
  by_cases hv : 2147483648 ≤ x
  · rw [decide_eq_true hv, decide_eq_true (show 2 ^ (32 - 1) ≤ (BitVec.ofInt 32 x).toNat by omega)]
  · rw [decide_eq_false hv, decide_eq_false (show ¬ 2 ^ (32 - 1) ≤ (BitVec.ofInt 32 x).toNat by omega)]
theorem borrow32 {x y d : Int} (hx : 0 ≤ x ∧ x < 4294967296) (hy : 0 ≤ y ∧ y < 4294967296) (hd : 0 ≤ d ∧ d < 4294967296) : (Go.bits .or .u32 (Go.bits .and .u32 (Go.bits .xor .u32 4294967295 x) y) (Go.bits .and .u32 (Go.bits .xor .u32 4294967295 (Go.bits .xor .u32 x y)) d)) / 2147483648 = if (x < 2147483648 ∧ 2147483648 ≤ y) ∨ ((x < 2147483648 ↔ y < 2147483648) ∧ 2147483648 ≤ d) then 1 else 0 := by
  rw [or32, top32]
  simp only [and32, xor32, ofb32, BitVec.msb_or, BitVec.msb_and, BitVec.msb_xor]
  rw [msb32 hx.1 hx.2, msb32 hy.1 hy.2, msb32 hd.1 hd.2, msb32 (by omega) (by omega)]
  by_cases h1 : 2147483648 ≤ x <;> by_cases h2 : 2147483648 ≤ y <;> by_cases h3 : 2147483648 ≤ d <;> simp [h1, h2, h3] <;> omega
end Bits32b
/-! ### limbs: the difference -/
section NatSub
theorem sub32 {x y c : Int} (hx : 0 ≤ x ∧ x < 4294967296) (hy : 0 ≤ y ∧ y < 4294967296) (hc : 0 ≤ c ∧ c ≤ 1) : ∃ q d, bits_Sub32.f x y c = some (q, d) ∧ q - 4294967296 * d = x - y - c ∧ (0 ≤ q ∧ q < 4294967296) ∧ 0 ≤ d ∧ d ≤ 1 := by
  unfold bits_Sub32.f
  rw [borrow32 hx hy (by omega)]
  refine ⟨_, _, rfl, ?_, by omega, by split <;> omega⟩
  split <;> omega
theorem nat_Sub.l0_ev {B : Int} (hB : B = 4294967296) {a b : List Int} (ha : a.length ≤ 1000000) (da : Dg B a) (db : Dg B b) (hle : vl B b ≤ vl B a) : ∀ (m : Nat) (p : List Int) (c : Int), p.length + m = a.length → Dg B p → 0 ≤ c ∧ c ≤ 1 → vl B p - B ^ p.length * c = vl B (a.take p.length) - vl B (b.take p.length) → Ev (fun k => nat_Sub.l0 k a b (p ++ List.replicate m 0) c (a.length : Int) (p.length : Int)) (cn B (vl B a - vl B b), 0)
  | 0, p, c, hp, dp, hc, hv => by
    refine Ev.step (fun k => nat_Sub.l0.eq_2 _ _ _ _ _ _ _) ?_
    rw [List.replicate_zero, List.append_nil]
    refine ev_neg (by omega) (Ev.bind (nat_trim.ev (x := p) (by omega)) (ev_ret ?_))
    rw [List.take_of_length_le (show a.length ≤ p.length by omega), show p.length = a.length by omega, take_less (by omega) da db hle, show a.length = p.length by omega] at hv
    rw [tr_cn (B := B) (by omega) dp, sub_end (by omega) dp hc hv (by omega)]
  | m + 1, p, c, hp, dp, hc, hv => by
    have hx := da.place (show 0 < B by omega) (p.length : Int)
    have hy := db.place (show 0 < B by omega) (p.length : Int)
    obtain ⟨q, d, e1, e2, hq, hd⟩ := sub32 (x := rd a p.length) (y := rd b p.length) (by omega) (by omega) hc
    rw [← hB] at e2
    have hs := sub_step (B := B) hv e2
    rw [← vl_take_succ, ← vl_take_succ] at hs
    have key : ∀ z, z = rd b (p.length : Int) → Ev (fun k => (bits_Sub32.f (rd a (p.length : Int)) z c).bind fun bt => if (p.length : Int) < ((p ++ List.replicate (m + 1) 0).length : Int) then (nat_Sub.l0 k a b ((p ++ List.replicate (m + 1) 0).set (p.length : Int).toNat bt.1) bt.2 (a.length : Int) (wrap64 ((p.length : Int) + 1))) else none) (cn B (vl B a - vl B b), 0) := by
      intro z hz
      subst hz
      refine ev_some e1 ?_
      refine ev_pos (by simp; omega) ?_
      rw [natT, rep_set, suc (by omega)]
      have := nat_Sub.l0_ev hB ha da db hle m (p ++ [q]) d (by simp; omega) (dp.snoc (by omega) (by omega)) hd (by
        rw [vl_snoc, List.length_append, List.length_singleton, Int.pow_succ]; exact hs)
      rw [List.length_append, List.length_singleton] at this
      exact this
    refine Ev.step (fun k => nat_Sub.l0.eq_2 _ _ _ _ _ _ _) ?_
    refine ev_pos (by omega) (ev_ite (fun h0 => ?_) (fun h0 => ?_))
    · exact ev_pos (by omega) (ev_pos (by omega) (key _ rfl))
    · exact ev_pos (by omega) (ev_pos (by omega) (key _ (rd_out (by omega)).symm))
theorem nat_Sub.ev {B : Int} (hB : B = 4294967296) {a b : List Int} (ha : a.length ≤ 1000000) (hb : b.length ≤ 1000000) (da : Dg B a) (db : Dg B b) : Ev (fun k => nat_Sub.f k a b) (if vl B a < vl B b then ([], 5) else (cn B (vl B a - vl B b), 0)) := by
  have la := tr_length a
  have lb := tr_length b
  refine Ev.bind (nat_Cmp.ev (B := B) (by omega) (by omega) (by omega) da db) ?_
  by_cases h : vl B a < vl B b
  · rw [if_pos h]
    exact ev_pos (by unfold cmpI; rw [if_pos h]; omega) (ev_ret rfl)
  · rw [if_neg h]
    refine ev_neg (by unfold cmpI; rw [if_neg h]; split <;> omega) ?_
    refine Ev.bind (nat_trim.ev (by omega)) (Ev.bind (nat_trim.ev (by omega)) ?_)
    rw [natT]
    refine ev_pos (by omega) (ev_pos (by omega) ?_)
    have := nat_Sub.l0_ev hB (a := tr a) (b := tr b) (by omega) (tr_Dg da) (tr_Dg db) (by rw [tr_vl, tr_vl]; omega) (tr a).length [] 0 (by simp) .nil (by omega) (by simp [vl])
    rw [tr_vl, tr_vl] at this
    exact this
end NatSub
/-! ### limbs: small numbers -/
section NatOf
variable {B : Int}
theorem wpred (n : Nat) (h : n ≤ 1000000000) : wrap64 ((n : Int) - 1) = (n : Int) - 1 := wr (by omega) (by omega)
theorem nat_Of.ev (hB : B = 4294967296) {x : Int} (h0 : 0 ≤ x) (h1 : x < 18446744073709551616) : Ev (fun k => nat_Of.f k x) (cn B x) := by
  have d : Dg B [x % 4294967296, x / 4294967296 % 4294967296] := by
    intro y hy
    simp only [List.mem_cons, List.not_mem_nil, or_false] at hy
    rcases hy with rfl | rfl <;> omega
  have := nat_Norm.ev (x := [x % 4294967296, x / 4294967296 % 4294967296]) (by simp)
  rw [tr_cn (by omega) d] at this
  refine Ev.bind this (ev_ret ?_)
  congr 1
  simp [vl]
  rw [hB]; omega
/-- The last place of a row without noughts at its end. -/
theorem last_pos {l : List Int} (d : Dg B l) (hB : 0 < B) (ht : tr l = l) {m : Nat} (h : l.length = m + 1) : 0 < rd l (m : Int) := by
  have hd := d.place hB (m : Int)
  rcases (show rd l (m : Int) = 0 ∨ 0 < rd l (m : Int) by omega) with h0 | h0
  · exfalso
    have h1 := trS (l := l) (n := m) (by omega) h0
    rw [show m + 1 = l.length by omega, List.take_length, ht] at h1
    have := tr_length (l.take m)
    rw [h1] at this
    simp at this
    omega
  · exact h0
end NatOf
/-! ### big: a sign and limbs are a number -/
section Bigs
/-- The number of a sign and a row's. -/
def sg (s : Bool) (v : Int) : Int := if s = true then -v else v
/-- A number's one form. -/
def bn (B z : Int) : Bool × List Int := (decide (z < 0), cn B z.natAbs)
structure Rp (B : Int) (n : Nat) (s : Bool) (l : List Int) (z : Int) : Prop where
  dg : Dg B l
  len : l.length ≤ n
  eq : sg s (vl B l) = z
def Az (B : Int) (n : Nat) (z : Int) : Prop := Sm B n (z.natAbs : Int)
variable {B : Int}
theorem sg_abs {s : Bool} {v : Int} (h : 0 ≤ v) : ((sg s v).natAbs : Int) = v := by
  unfold sg; split <;> omega
theorem bn_pos {v : Int} (h : 0 < v) (s : Bool) : bn B (sg s v) = (s, cn B v) := by
  unfold bn
  rw [sg_abs (by omega)]
  cases s
  · rw [show decide (sg false v < 0) = false from decide_eq_false (by unfold sg; simp; omega)]
  · rw [show decide (sg true v < 0) = true from decide_eq_true (by unfold sg; simp; omega)]
theorem bn_zero : bn B 0 = (false, []) := by
  unfold bn
  rw [show ((0 : Int).natAbs : Int) = 0 from rfl, cn_zero (Int.le_refl _)]; rfl
theorem sg_zero (s : Bool) : sg s 0 = 0 := by unfold sg; split <;> rfl
theorem Rp.nn (h2 : 2 ≤ B) {n : Nat} {s : Bool} {l : List Int} {z : Int} (h : Rp B n s l z) : 0 ≤ vl B l := vl_nonneg (by omega) h.dg
theorem Rp.abs (h2 : 2 ≤ B) {n : Nat} {s : Bool} {l : List Int} {z : Int} (h : Rp B n s l z) : (z.natAbs : Int) = vl B l := by rw [← h.eq]; exact sg_abs (h.nn h2)
theorem Rp.az (h2 : 2 ≤ B) {n : Nat} {s : Bool} {l : List Int} {z : Int} (h : Rp B n s l z) : Az B n z := by
  unfold Az; rw [h.abs h2]; exact Sm.of h2 h.dg h.len
theorem Az.rp (h2 : 2 ≤ B) {n : Nat} {z : Int} (h : Az B n z) : Rp B n (bn B z).1 (bn B z).2 z := by
  refine ⟨cn_Dg h2 _, Sm.len h2 h, ?_⟩
  show sg (decide (z < 0)) (vl B (cn B (z.natAbs : Int))) = z
  rw [vl_cn h2 (by omega)]
  unfold sg
  by_cases hz : z < 0
  · rw [if_pos (decide_eq_true hz)]; omega
  · rw [if_neg (by simp; omega)]; omega
theorem Az.of (h2 : 2 ≤ B) {n : Nat} {z w : Int} (h : Az B n w) (hz : z.natAbs ≤ w.natAbs) : Az B n z := ⟨by omega, by have := h.2; omega⟩
theorem Az.le (h2 : 2 ≤ B) {n m : Nat} {z : Int} (h : Az B n z) (hm : n ≤ m) : Az B m z := Sm.le h2 h hm
theorem Az.neg {n : Nat} {z : Int} (h : Az B n z) : Az B n (-z) := by unfold Az; rw [Int.natAbs_neg]; exact h
theorem Az.add (h2 : 2 ≤ B) {n m : Nat} {z w : Int} (h : Az B n z) (k : Az B m w) : Az B (n + m + 1) (z + w) :=
  ⟨by omega, by have := (Sm.add h2 h k).2; omega⟩
theorem Az.sub (h2 : 2 ≤ B) {n m : Nat} {z w : Int} (h : Az B n z) (k : Az B m w) : Az B (n + m + 1) (z - w) := h.add h2 k.neg
theorem Az.zero (h2 : 2 ≤ B) (n : Nat) : Az B n 0 := ⟨Int.le_refl _, pow_pos' (show 0 < B by omega) n⟩
theorem norm_fin (h2 : 2 ≤ B) {s : Bool} {l : List Int} {z : Int} {n : Nat} (h : Rp B n s l z) : (tr l = [] ∧ bn B z = (false, [])) ∨ (0 < (tr l).length ∧ bn B z = (s, tr l)) := by
  have e := tr_cn h2 h.dg
  have nn := h.nn h2
  by_cases h0 : vl B l = 0
  · left
    rw [e, h0, cn_zero (Int.le_refl _), ← h.eq, h0, sg_zero, bn_zero]
    exact ⟨rfl, rfl⟩
  · right
    have hp : 0 < vl B l := by omega
    rw [e, ← h.eq, bn_pos hp]
    exact ⟨List.length_pos_iff.2 (cn_nil h2 hp), rfl⟩
theorem Dg_ofs {l : List Int} (h : ∀ x ∈ l, (Lit.int .u32 x).wf = true) {n : Nat} (hn : l.length ≤ n) (s : Bool) : Rp 4294967296 n s l (sg s (vl 4294967296 l)) := ⟨Dg_of h, hn, rfl⟩
theorem sg_not (s : Bool) (v : Int) : sg (!s) v = -sg s v := by cases s <;> simp [sg]
theorem sg_add (s : Bool) (v w : Int) : sg s (v + w) = sg s v + sg s w := by unfold sg; split <;> omega
theorem sg_ne {s t : Bool} (h : ¬ (s == t) = true) (w : Int) : sg t w = -sg s w := by
  have e : t = !s := by cases s <;> cases t <;> simp_all
  rw [e, sg_not]
/-- The sign. -/
def sn (z : Int) : Int := if z < 0 then -1 else if z = 0 then 0 else 1
theorem sn_cases (z : Int) : sn z = -1 ∨ sn z = 0 ∨ sn z = 1 := by
  by_cases h : z < 0
  · exact .inl (if_pos h)
  · by_cases h1 : z = 0
    · exact .inr (.inl (by unfold sn; rw [if_neg h, if_pos h1]))
    · exact .inr (.inr (by unfold sn; rw [if_neg h, if_neg h1]))
theorem big_norm.ev (hB : B = 4294967296) {s : Bool} {l : List Int} {z : Int} {n : Nat} (h : Rp B n s l z) (hn : n ≤ 1000000) : Ev (fun k => big_norm.f k s l) (bn B z) := by
  have hl := h.len
  refine Ev.bind (nat_Norm.ev (x := l) (by omega)) ?_
  rcases norm_fin (show 2 ≤ B by omega) h with ⟨h1, h3⟩ | ⟨h1, h3⟩
  · rw [h1, h3]; exact ev_pos rfl (ev_ret rfl)
  · rw [h3]; exact ev_neg (by omega) (ev_ret rfl)
theorem big_Sign.ev (hB : B = 4294967296) {s : Bool} {l : List Int} {z : Int} {n : Nat} (h : Rp B n s l z) (hn : n ≤ 1000000) : Ev (fun k => big_Sign.f k s l) (sn z) := by
  have hl := h.len
  have h2 : 2 ≤ B := by omega
  have ht := nat_trim.ev (x := l) (by omega)
  rw [tr_cn h2 h.dg] at ht
  have nn := h.nn h2
  refine Ev.bind (Ev.bind ht (ev_ret rfl)) ?_
  have he := h.eq
  by_cases h0 : vl B l = 0
  · rw [h0, cn_zero (Int.le_refl _)]
    rw [h0, sg_zero] at he
    refine ev_pos rfl (ev_ret ?_)
    rw [← he]; rfl
  · have h1 : 0 < (cn B (vl B l)).length := List.length_pos_iff.2 (cn_nil h2 (by omega))
    refine ev_neg (by simp; intro e; rw [e] at h1; simp at h1) (ev_ite (fun hs => ev_ret ?_) (fun hs => ev_ret ?_))
    · unfold sn sg at *; rw [if_pos hs] at he; rw [if_pos (by omega)]
    · unfold sn sg at *; rw [if_neg hs] at he; rw [if_neg (by omega), if_neg (by omega)]
theorem big_Neg.ev (hB : B = 4294967296) {s : Bool} {l : List Int} {z : Int} {n : Nat} (h : Rp B n s l z) (hn : n ≤ 1000000) : Ev (fun k => big_Neg.f k s l) (bn B (-z)) :=
  Ev.bind (big_norm.ev hB ⟨h.dg, h.len, by rw [sg_not, h.eq]⟩ hn) (ev_ret rfl)
theorem big_Abs.ev (hB : B = 4294967296) {s : Bool} {l : List Int} {z : Int} {n : Nat} (h : Rp B n s l z) (hn : n ≤ 1000000) : Ev (fun k => big_Abs.f k s l) (bn B (z.natAbs : Int)) :=
  Ev.bind (big_norm.ev (z := (z.natAbs : Int)) hB ⟨h.dg, h.len, by rw [h.abs (by omega)]; rfl⟩ hn) (ev_ret rfl)
theorem big_Add.ev (hB : B = 4294967296) {s t : Bool} {l r : List Int} {z w : Int} {n m : Nat} (h : Rp B n s l z) (k : Rp B m t r w) (hn : n ≤ 100000) (hm : m ≤ 100000) : Ev (fun k => big_Add.f k s l t r) (bn B (z + w)) := by
  have h2 : 2 ≤ B := by omega
  have hl := h.len
  have hr := k.len
  have n1 := h.nn h2
  have n2 := k.nn h2
  have sv := Sm.of h2 h.dg h.len
  have sw := Sm.of h2 k.dg k.len
  refine ev_ite (fun e => ?_) (fun e => ?_)
  · have e' : t = s := by cases s <;> cases t <;> simp_all
    subst e'
    refine Ev.bind (nat_Add.ev hB (by omega) (by omega) h.dg k.dg) (Ev.bind (big_norm.ev (n := n + m + 1) hB ⟨cn_Dg h2 _, (sv.add h2 sw).len h2, ?_⟩ (by omega)) (ev_ret rfl))
    rw [(sv.add h2 sw).vl h2, sg_add, h.eq, k.eq]
  · have hw := sg_ne e (vl B r)
    rw [k.eq] at hw
    have he := h.eq
    refine Ev.bind (nat_Sub.ev hB (by omega) (by omega) h.dg k.dg) ?_
    by_cases hlt : vl B l < vl B r
    · rw [if_pos hlt]
      have hs : Sm B m (vl B r - vl B l) := ⟨by omega, by have := sw.2; omega⟩
      refine ev_neg (by simp) (Ev.bind (nat_Sub.ev hB (by omega) (by omega) k.dg h.dg) ?_)
      rw [if_neg (by omega)]
      refine Ev.bind (big_norm.ev (n := m) hB ⟨cn_Dg h2 _, hs.len h2, ?_⟩ (by omega)) (ev_ret rfl)
      rw [hs.vl h2, sg_ne e, hw, ← he]
      unfold sg; split <;> omega
    · rw [if_neg hlt]
      have hs : Sm B n (vl B l - vl B r) := ⟨by omega, by have := sv.2; omega⟩
      refine ev_pos rfl (Ev.bind (big_norm.ev (n := n) hB ⟨cn_Dg h2 _, hs.len h2, ?_⟩ (by omega)) (ev_ret rfl))
      rw [hs.vl h2, hw, ← he]
      unfold sg; split <;> omega
theorem big_Sub.ev (hB : B = 4294967296) {s t : Bool} {l r : List Int} {z w : Int} {n m : Nat} (h : Rp B n s l z) (k : Rp B m t r w) (hn : n ≤ 100000) (hm : m ≤ 100000) : Ev (fun k => big_Sub.f k s l t r) (bn B (z - w)) :=
  Ev.bind (big_Neg.ev hB k (by omega)) (Ev.bind (big_Add.ev hB h ((k.az (by omega)).neg.rp (by omega)) hn hm) (ev_ret rfl))
theorem big_Of.ev (hB : B = 4294967296) {x : Int} (h0 : -9223372036854775808 ≤ x) (h1 : x ≤ 9223372036854775807) : Ev (fun k => big_Of.f k x) (bn B x) := by
  have h2 : 2 ≤ B := by omega
  have u : ∀ y : Int, 0 ≤ y → y < 18446744073709551616 → IntKind.u64.wrap y = y := fun y a b => by
    rw [IntKind.wrap_u64]; omega
  have sm : ∀ y : Int, 0 ≤ y → y < 18446744073709551616 → Sm B 2 y := fun y a b => ⟨a, by rw [hB]; omega⟩
  refine ev_ite (fun e => ?_) (fun e => ?_)
  · rw [wr (n := x + 1) (by omega) (by omega), wr (n := -(x + 1)) (by omega) (by omega), u (-(x + 1)) (by omega) (by omega), u (-(x + 1) + 1) (by omega) (by omega)]
    have s := sm (-(x + 1) + 1) (by omega) (by omega)
    refine Ev.bind (nat_Of.ev hB s.1 (by omega)) (Ev.bind (big_norm.ev (n := 2) hB ⟨cn_Dg h2 _, s.len h2, ?_⟩ (by omega)) (ev_ret rfl))
    rw [s.vl h2]; unfold sg; rw [if_pos rfl]; omega
  · rw [u x (by omega) (by omega)]
    have s := sm x (by omega) (by omega)
    refine Ev.bind (nat_Of.ev hB s.1 (by omega)) (Ev.bind (big_norm.ev (n := 2) hB ⟨cn_Dg h2 _, s.len h2, ?_⟩ (by omega)) (ev_ret rfl))
    rw [s.vl h2]; rfl
theorem small_big {s : Bool} {l : List Int} : whetstonelaw02_small.f s l = some (decide ((l.length : Int) ≤ 8)) := rfl
theorem le8 {l : List Int} (h : decide ((l.length : Int) ≤ 8) = true) : l.length ≤ 8 := by
  have := of_decide_eq_true h
  omega
theorem signed_ev : Ev (fun k => whetstonelaw02_signed.f k) true := Ev.of (k := 80) whetstonelaw02_signed.mono (by decide +kernel)
end Bigs
/-! ### the reference: a sign and decimal digits are a number -/
section Ref02
theorem Az.ten {B : Int} (hB : B = 4294967296) {n : Nat} {z : Int} (h : Az B n z) : Az 10 (10 * n) z := ⟨h.1, Int.lt_of_lt_of_le h.2 (pow_fit hB n)⟩
theorem r2norm {s : Bool} {l : List Int} {z : Int} {n : Nat} (h : Rp 10 n s l z) (hn : n ≤ 1000000) : Ev (fun k => whetstoneref02_Norm.f k s l) (bn 10 z) := by
  have hl := h.len
  refine Ev.bind (ref_trim.ev (x := l) (by omega)) ?_
  rcases norm_fin (show (2 : Int) ≤ 10 by omega) h with ⟨h1, h3⟩ | ⟨h1, h3⟩
  · rw [h1, h3]; exact ev_pos rfl (ev_ret rfl)
  · rw [h3]; exact ev_neg (by omega) (ev_ret rfl)
theorem ten2 : (2 : Int) ≤ 10 := by omega
theorem same_ev {B : Int} (hB : B = 4294967296) {t : Bool} {m : List Int} {z : Int} {n k : Nat} (h : Rp 10 n t m z) (hz : Az B k z) (hn : n ≤ 1000000) (hk : k ≤ 10000) : Ev (fun k => whetstonelaw02_same.f k (bn B z).1 (bn B z).2 t m) true := by
  refine Ev.bind (r2norm h hn) (ev_pos (by simp [bn]) ?_)
  exact Ev.bind (limbs_ev hB hz (by omega)) (Ev.bind (words_ev (Nat.le_trans (Sm.len (by omega) hz) (by omega)) rfl) (ev_ret rfl))
theorem same2 {B : Int} (hB : B = 4294967296) {z : Int} {k : Nat} (hz : Az B k z) (hk : k ≤ 10000) : Ev (fun k => whetstonelaw02_same.f k (bn B z).1 (bn B z).2 (bn 10 z).1 (bn 10 z).2) true :=
  same_ev hB ((hz.ten hB).rp ten2) hz (by omega) hk
theorem of_ev {B : Int} (hB : B = 4294967296) {s : Bool} {l : List Int} {z : Int} {n : Nat} (h : Rp B n s l z) (hn : n ≤ 1000) : Ev (fun k => whetstonelaw02_of.f k s l) (bn 10 z) := by
  have hl := h.len
  have sv := Sm.of (show 2 ≤ B by omega) h.dg h.len
  have st : Sm 10 (10 * n) (vl B l) := ⟨sv.1, Int.lt_of_lt_of_le sv.2 (pow_fit hB n)⟩
  refine Ev.bind (Ev.bind (from_ev hB (by omega) h.dg) (Ev.bind (r2norm (n := 10 * n) ⟨D10 _, st.len ten2, by rw [V10 sv.1]; exact h.eq⟩ (by omega)) (ev_ret rfl))) (ev_ret rfl)
theorem r2of {x : Int} (h0 : -9223372036854775808 ≤ x) (h1 : x ≤ 9223372036854775807) : Ev (fun k => whetstoneref02_Of.f k x) (bn 10 x) := by
  have u : ∀ y : Int, 0 ≤ y → y < 18446744073709551616 → IntKind.u64.wrap y = y := fun y a b => by
    rw [IntKind.wrap_u64]; omega
  have sm : ∀ y : Int, 0 ≤ y → y < 18446744073709551616 → Sm 10 20 y := fun y a b => by
    have : (10 : Int) ^ 20 = 100000000000000000000 := by decide
    exact ⟨a, by omega⟩
  refine ev_ite (fun e => ?_) (fun e => ?_)
  · rw [wr (n := x + 1) (by omega) (by omega), wr (n := -(x + 1)) (by omega) (by omega), u (-(x + 1)) (by omega) (by omega)]
    have s := sm (-(x + 1) + 1) (by omega) (by omega)
    have l1 := (sm (-(x + 1)) (by omega) (by omega)).len ten2
    have l2 := (sm 1 (by omega) (by omega)).len ten2
    have ha := radd_ev (a := cn 10 (-(x + 1))) (b := cn 10 1) (by omega) (by omega) (D10 _) (D10 _)
    rw [V10 (by omega), V10 (by omega)] at ha
    refine Ev.bind (small_ev (by omega) (by omega)) (Ev.bind (small_ev (by omega) (by omega)) (Ev.bind ha (Ev.bind (r2norm (n := 20) ⟨D10 _, s.len ten2, ?_⟩ (by omega)) (ev_ret rfl))))
    rw [V10 s.1]; unfold sg; rw [if_pos rfl]; omega
  · rw [u x (by omega) (by omega)]
    have s := sm x (by omega) (by omega)
    refine Ev.bind (small_ev (by omega) (by omega)) (Ev.bind (r2norm (n := 20) ⟨D10 _, s.len ten2, ?_⟩ (by omega)) (ev_ret rfl))
    rw [V10 s.1]; rfl
theorem r2sign {s : Bool} {l : List Int} {z : Int} {n : Nat} (h : Rp 10 n s l z) (hn : n ≤ 1000000) : Ev (fun k => whetstoneref02_Sign.f k s l) (sn z) := by
  refine Ev.bind (r2norm h hn) ?_
  show Ev (fun k => if ((cn 10 (z.natAbs : Int)).length : Int) = 0 then some 0 else if decide (z < 0) = true then some (-1) else some 1) (sn z)
  by_cases h0 : z = 0
  · subst h0
    refine ev_pos ?_ (ev_ret rfl)
    rw [show ((0 : Int).natAbs : Int) = 0 from rfl, cn_zero (Int.le_refl _)]; rfl
  · have h1 : 0 < (cn 10 (z.natAbs : Int)).length := List.length_pos_iff.2 (cn_nil ten2 (by omega))
    refine ev_neg (by omega) (ev_ite (fun hs => ev_ret ?_) (fun hs => ev_ret ?_))
    · have := of_decide_eq_true hs; unfold sn; rw [if_pos this]
    · have : ¬ z < 0 := fun h => hs (decide_eq_true h)
      unfold sn; rw [if_neg this, if_neg h0]
theorem r2neg {s : Bool} {l : List Int} {z : Int} {n : Nat} (h : Rp 10 n s l z) (hn : n ≤ 1000000) : Ev (fun k => whetstoneref02_Neg.f k s l) (bn 10 (-z)) :=
  Ev.bind (r2norm ⟨h.dg, h.len, by rw [sg_not, h.eq]⟩ hn) (ev_ret rfl)
theorem r2abs {s : Bool} {l : List Int} {z : Int} {n : Nat} (h : Rp 10 n s l z) (hn : n ≤ 1000000) : Ev (fun k => whetstoneref02_Abs.f k s l) (bn 10 (z.natAbs : Int)) :=
  Ev.bind (r2norm (z := (z.natAbs : Int)) ⟨h.dg, h.len, by rw [h.abs ten2]; rfl⟩ hn) (ev_ret rfl)
theorem cmpI_ge {a b : Int} : cmpI a b ≥ 0 ↔ b ≤ a := by
  unfold cmpI
  by_cases h : a < b
  · rw [if_pos h]; omega
  · rw [if_neg h]; split <;> omega
theorem r2add {s t : Bool} {l r : List Int} {z w : Int} {n m : Nat} (h : Rp 10 n s l z) (k : Rp 10 m t r w) (hn : n ≤ 100000) (hm : m ≤ 100000) : Ev (fun k => whetstoneref02_Add.f k s l t r) (bn 10 (z + w)) := by
  have hl := h.len
  have hr := k.len
  have n1 := h.nn ten2
  have n2 := k.nn ten2
  have sv := Sm.of ten2 h.dg h.len
  have sw := Sm.of ten2 k.dg k.len
  refine ev_ite (fun e => ?_) (fun e => ?_)
  · have e' : t = s := by cases s <;> cases t <;> simp_all
    subst e'
    refine Ev.bind (radd_ev (by omega) (by omega) h.dg k.dg) (Ev.bind (r2norm (n := n + m + 1) ⟨D10 _, (sv.add ten2 sw).len ten2, ?_⟩ (by omega)) (ev_ret rfl))
    rw [(sv.add ten2 sw).vl ten2, sg_add, h.eq, k.eq]
  · have hw := sg_ne e (vl 10 r)
    rw [k.eq] at hw
    have he := h.eq
    refine Ev.bind (rcmp_ev (by omega) (by omega) h.dg k.dg) (ev_ite (fun hc => ?_) (fun hc => ?_))
    · have hle := cmpI_ge.1 hc
      have hs : Sm 10 n (vl 10 l - vl 10 r) := ⟨by omega, by have := sv.2; omega⟩
      refine Ev.bind (rsub_ev (by omega) (by omega) h.dg k.dg hle) (Ev.bind (r2norm (n := n) ⟨D10 _, hs.len ten2, ?_⟩ (by omega)) (ev_ret rfl))
      rw [hs.vl ten2, hw, ← he]
      unfold sg; split <;> omega
    · have hlt : vl 10 l < vl 10 r := by
        by_cases g : vl 10 r ≤ vl 10 l
        · exact absurd (cmpI_ge.2 g) hc
        · omega
      have hs : Sm 10 m (vl 10 r - vl 10 l) := ⟨by omega, by have := sw.2; omega⟩
      refine Ev.bind (rsub_ev (by omega) (by omega) k.dg h.dg (by omega)) (Ev.bind (r2norm (n := m) ⟨D10 _, hs.len ten2, ?_⟩ (by omega)) (ev_ret rfl))
      rw [hs.vl ten2, sg_ne e, hw, ← he]
      unfold sg; split <;> omega
theorem r2sub {s t : Bool} {l r : List Int} {z w : Int} {n m : Nat} (h : Rp 10 n s l z) (k : Rp 10 m t r w) (hn : n ≤ 100000) (hm : m ≤ 100000) : Ev (fun k => whetstoneref02_Sub.f k s l t r) (bn 10 (z - w)) :=
  Ev.bind (r2neg k (by omega)) (Ev.bind (r2add h ((k.az ten2).neg.rp ten2) hn hm) (ev_ret rfl))
end Ref02
/-! ### limbs: dividing by one limb, shifting -/
section NatShort
theorem short_run {B : Int} (hB : B = 4294967296) {l : List Int} {d : Int} (dl : Dg B l) (hd : 0 < d ∧ d < B) : ∀ k, k ≤ l.length → ∃ qs, (nat_short.run l d k).1 = List.replicate (l.length - k) 0 ++ qs ∧ qs.length = k ∧ Dg B qs ∧ 0 ≤ (nat_short.run l d k).2 ∧ (nat_short.run l d k).2 < d ∧ vl B qs * d + (nat_short.run l d k).2 = vl B (l.drop (l.length - k))
  | 0, _ => ⟨[], by simp [nat_short.run], rfl, .nil, by simp [nat_short.run], by simp [nat_short.run]; omega, by simp [nat_short.run, vl]⟩
  | k + 1, h => by
    obtain ⟨qs, h1, h2, h3, h4, h5, h6⟩ := short_run hB dl hd k (by omega)
    have hx := dl.place (show 0 < B by omega) ((l.length - 1 - k : Nat) : Int)
    have e1 : l[l.length - 1 - k]?.getD 0 = rd l ((l.length - 1 - k : Nat) : Int) := rd_nat.symm
    have e2 := vl_drop (B := B) (l := l) (i := l.length - 1 - k) (by omega)
    rw [show l.length - 1 - k + 1 = l.length - k by omega] at e2
    unfold nat_short.run
    rw [e1]
    generalize (nat_short.run l d k).2 = r at *
    generalize rd l ((l.length - 1 - k : Nat) : Int) = x at *
    have et : nat_short.t d r x = r * 4294967296 + x := by
      unfold nat_short.t
      rw [u64id (x := x) (by omega) (by omega)]
      exact join64 (by omega) (by omega)
    have hlt : r * 4294967296 + x < d * 4294967296 := by omega
    have hq0 : 0 ≤ (r * 4294967296 + x) / d := Int.ediv_nonneg (by omega) (by omega)
    have hq1 : (r * 4294967296 + x) / d < 4294967296 := Int.ediv_lt_of_lt_mul hd.1 (by omega)
    have hm := Int.emod_add_mul_ediv (r * 4294967296 + x) d
    have hm0 := Int.emod_nonneg (r * 4294967296 + x) (show d ≠ 0 by omega)
    have hm1 := Int.emod_lt_of_pos (r * 4294967296 + x) hd.1
    rw [et, u64id (x := d) (by omega) (by omega), tdiv10 (x := r * 4294967296 + x) (by omega), tmod10 (x := r * 4294967296 + x) (by omega), u64id (x := (r * 4294967296 + x) / d) hq0 (by omega), show IntKind.u32.wrap ((r * 4294967296 + x) / d) = (r * 4294967296 + x) / d by rw [IntKind.wrap_u32]; omega]
    refine ⟨(r * 4294967296 + x) / d :: qs, ?_, by simp [h2], ?_, hm0, hm1, ?_⟩
    · dsimp only
      rw [h1, show l.length - k = (l.length - (k + 1)) + 1 by omega, List.replicate_succ', List.append_assoc, List.set_append_right _ _ (by simp; omega)]
      simp only [List.length_replicate]
      rw [show l.length - 1 - k - (l.length - (k + 1)) = 0 by omega]
      rfl
    · intro y hy
      rcases List.mem_cons.1 hy with rfl | hy
      · exact ⟨hq0, by omega⟩
      · exact h3 y hy
    · dsimp only
      rw [vl_cons, show l.length - (k + 1) = l.length - 1 - k by omega, e2, ← h6]
      generalize (r * 4294967296 + x) / d = q at *
      generalize (r * 4294967296 + x) % d = m at *
      generalize vl B qs = vq at *
      rw [hB]
      grind
theorem nat_short.ev {B : Int} (hB : B = 4294967296) {l : List Int} {d : Int} (hl : l.length ≤ 1000000) (dl : Dg B l) (hd : 0 < d ∧ d < B) : Ev (fun k => nat_short.f k l d) (cn B (vl B l / d), vl B l % d) := by
  obtain ⟨qs, h1, h2, h3, h4, h5, h6⟩ := short_run hB dl hd l.length (Nat.le_refl _)
  rw [Nat.sub_self, List.drop_zero] at h6
  rw [Nat.sub_self] at h1
  have hq : vl B l / d = vl B qs := by
    rw [← h6, Int.mul_comm, Int.add_comm, Int.add_mul_ediv_left _ _ (by omega), Int.ediv_eq_zero_of_lt h4 h5]; omega
  have hr : vl B l % d = (nat_short.run l d l.length).2 := by
    rw [← h6, Int.mul_comm, Int.add_comm, Int.add_mul_emod_self_left, Int.emod_eq_of_lt h4 h5]
  refine ev_pos (by omega) (ev_neg (by rw [u64id (by omega) (by omega)]; omega) ?_)
  rw [h1, List.replicate_zero, List.nil_append]
  refine Ev.bind (nat_trim.ev (x := qs) (by omega)) (ev_ret ?_)
  rw [tr_cn (B := B) (by omega) h3, hq, hr, show IntKind.u32.wrap (nat_short.run l d l.length).2 = (nat_short.run l d l.length).2 by rw [IntKind.wrap_u32]; omega]
end NatShort
/-! ### limbs: shifting -/
section NatLeft
theorem pow2_nat (n : Nat) : (2 : Int) ^ n = ((2 ^ n : Nat) : Int) := by simp
theorem or32_disj {c y : Int} {n : Nat} (hn : n < 32) (hc : 0 ≤ c ∧ c < 2 ^ n) (hy : 0 ≤ y ∧ y < 4294967296) (hd : y % 2 ^ n = 0) : Go.bits .or .u32 c y = c + y := by
  have hp : (2 : Int) ^ n ≤ 2 ^ 31 := pow_le (by omega) (by omega)
  rw [or32, BitVec.toNat_or]
  have h1 := ofN32 (x := c) hc.1 (by omega)
  have h2 := ofN32 (x := y) hy.1 hy.2
  have h3 : (BitVec.ofInt 32 c).toNat = c.toNat := by omega
  have h4 : (BitVec.ofInt 32 y).toNat = 2 ^ n * (y / 2 ^ n).toNat := by
    have e := Int.emod_add_mul_ediv y (2 ^ n)
    have h0 : 0 ≤ y / 2 ^ n := Int.ediv_nonneg hy.1 (by have := pow_pos' (show (0 : Int) < 2 by omega) n; omega)
    rw [hd, Int.zero_add, pow2_nat] at e
    have : (((2 ^ n * (y / 2 ^ n).toNat : Nat)) : Int) = y := by
      rw [Int.natCast_mul, Int.toNat_of_nonneg h0]
      rw [pow2_nat]
      exact e
    omega
  have h5 := Nat.two_pow_add_eq_or_of_lt (i := n) (b := c.toNat) (by have h6 := hc.2; rw [pow2_nat] at h6; omega) (y / 2 ^ n).toNat
  rw [h3, h4, Nat.or_comm, ← h5]
  omega
theorem shl_id {x : Int} {n : Nat} (hx : 0 ≤ x ∧ x < 4294967296) (hn : n < 32) : shl .u64 (IntKind.u64.wrap x) (n : Int) = x * 2 ^ n := by
  have hp : (2 : Int) ^ n ≤ 2 ^ 31 := pow_le (by omega) (by omega)
  have hp0 := pow_pos' (show (0 : Int) < 2 by omega) n
  unfold shl
  rw [natT, show min n IntKind.u64.bits = n from Nat.min_eq_left (by simp [IntKind.bits]; omega), u64id (x := x) (by omega) (by omega)]
  have h1 := Int.mul_le_mul_of_nonneg_left hp hx.1
  have h2 := Int.mul_nonneg hx.1 (show 0 ≤ (2 : Int) ^ n by omega)
  exact u64id h2 (by omega)
theorem shift_low {x : Int} {n : Nat} (hn : n < 32) : x * 2 ^ n % 4294967296 % 2 ^ n = 0 := by
  have : (4294967296 : Int) = 2 ^ (32 - n) * 2 ^ n := by
    rw [← Int.pow_add, Nat.sub_add_cancel (by omega)]; rfl
  rw [Int.emod_emod_of_dvd _ ⟨2 ^ (32 - n), by rw [Int.mul_comm]; exact this⟩, Int.mul_emod_left]
theorem left_step {V P c T x S : Int} (B : Int) (h : V + P * c = T * S) : V + P * (c + x * S % B) + P * B * (x * S / B) = (T + P * x) * S := by
  have := Int.emod_add_mul_ediv (x * S) B
  grind
theorem nat_left.l0_ev {B : Int} (hB : B = 4294967296) {n : Nat} (hn : n < 32) {a : List Int} (ha : a.length ≤ 1000000) (da : Dg B a) : ∀ (m : Nat) (p : List Int) (c : Int), p.length + m = a.length → Dg B p → 0 ≤ c ∧ c < 2 ^ n → vl B p + B ^ p.length * c = vl B (a.take p.length) * 2 ^ n → ∃ r, Ev (fun k => nat_left.l0 k (n : Int) ((p ++ [c]) ++ List.replicate m 0) a (a.length : Int) (p.length : Int)) r ∧ Dg B r ∧ r.length = a.length + 1 ∧ vl B r = vl B a * 2 ^ n
  | 0, p, c, hp, dp, hc, hv => by
    have hpn : (2 : Int) ^ n ≤ 2 ^ 31 := pow_le (by omega) (by omega)
    refine ⟨p ++ [c], Ev.step (fun k => nat_left.l0.eq_2 _ _ _ _ _ _) (ev_neg (by omega) (ev_ret (by simp))), dp.snoc hc.1 (by omega), by simp; omega, ?_⟩
    rw [vl_snoc, hv, List.take_of_length_le (by omega)]
  | m + 1, p, c, hp, dp, hc, hv => by
    have hpn : (2 : Int) ^ n ≤ 2 ^ 31 := pow_le (by omega) (by omega)
    have hp0 := pow_pos' (show (0 : Int) < 2 by omega) n
    have hx := da.place (show 0 < B by omega) (p.length : Int)
    have hs := left_step (x := rd a p.length) B hv
    rw [← vl_take_succ] at hs
    have hxs := Int.mul_nonneg hx.1 (show 0 ≤ (2 : Int) ^ n by omega)
    have hxs2 := Int.mul_le_mul_of_nonneg_left hpn hx.1
    have hlow := shift_low (x := rd a p.length) hn
    have hhi : rd a p.length * 2 ^ n / 4294967296 < 2 ^ n := Int.ediv_lt_of_lt_mul (by omega) (by rw [Int.mul_comm]; exact Int.mul_lt_mul_of_pos_left (by omega) hp0)
    have hsum : c + rd a p.length * 2 ^ n % 4294967296 < 4294967296 := by
      have e : (4294967296 : Int) = 2 ^ (32 - n) * 2 ^ n := by rw [← Int.pow_add, Nat.sub_add_cancel (by omega)]; rfl
      have h1 := Int.emod_add_mul_ediv (rd a p.length * 2 ^ n % 4294967296) (2 ^ n)
      rw [hlow, Int.zero_add] at h1
      have h2 : rd a p.length * 2 ^ n % 4294967296 / 2 ^ n < 2 ^ (32 - n) := Int.ediv_lt_of_lt_mul hp0 (by rw [Int.mul_comm, Int.mul_comm (2 ^ n), ← e]; omega)
      have h3 := Int.mul_le_mul_of_nonneg_left (show rd a p.length * 2 ^ n % 4294967296 / 2 ^ n + 1 ≤ 2 ^ (32 - n) by omega) (show 0 ≤ (2 : Int) ^ n by omega)
      rw [Int.mul_comm (2 ^ n) (2 ^ (32 - n)), ← e, Int.mul_add, h1] at h3
      omega
    obtain ⟨r, h1, h2, h3, h4⟩ := nat_left.l0_ev hB hn ha da m (p ++ [c + rd a p.length * 2 ^ n % 4294967296]) (rd a p.length * 2 ^ n / 4294967296) (by simp; omega) (dp.snoc (by omega) (by omega)) ⟨by omega, hhi⟩ (by
      rw [vl_snoc, List.length_append, List.length_singleton, Int.pow_succ, ← hB]; exact hs)
    refine ⟨r, Ev.step (fun k => nat_left.l0.eq_2 _ _ _ _ _ _) ?_, h2, h3, h4⟩
    rw [List.length_append, List.length_singleton] at h1
    have erd : rd ((p ++ [c]) ++ List.replicate (m + 1) 0) (p.length : Int) = c := by
      rw [rd_nat, List.append_assoc, List.getElem?_append_right (by simp)]; simp
    rw [suc (by omega), natT, natT, erd, shl_id (by omega) hn, or32_disj hn hc (by omega) hlow, show rd a p.length * 2 ^ n / 4294967296 % 4294967296 = rd a p.length * 2 ^ n / 4294967296 by omega]
    have eset : (((p ++ [c]) ++ List.replicate (m + 1) 0).set p.length (c + rd a p.length * 2 ^ n % 4294967296)).set (p.length + 1) (rd a p.length * 2 ^ n / 4294967296) = ((p ++ [c + rd a p.length * 2 ^ n % 4294967296]) ++ [rd a p.length * 2 ^ n / 4294967296]) ++ List.replicate m 0 := by
      rw [List.append_assoc, List.set_append_right _ _ (by simp), Nat.sub_self]
      simp only [List.replicate_succ, List.singleton_append, List.set_cons_zero]
      rw [List.set_append_right _ _ (by simp)]
      simp
    rw [eset]
    exact ev_pos (by omega) (ev_pos (by omega) (ev_pos (by omega) (ev_pos (by omega) (ev_pos (by simp; omega) (ev_pos (by omega) (ev_pos (by simp; omega) h1))))))
theorem nat_left.ev {B : Int} (hB : B = 4294967296) {n : Nat} (hn : n < 32) {a : List Int} (ha : a.length ≤ 1000000) (da : Dg B a) : ∃ r, Ev (fun k => nat_left.f k a (n : Int)) r ∧ Dg B r ∧ r.length = a.length + 1 ∧ vl B r = vl B a * 2 ^ n := by
  obtain ⟨r, h1, h2⟩ := nat_left.l0_ev hB hn ha da a.length [] 0 (by simp) .nil ⟨by omega, pow_pos' (by omega) n⟩ (by simp [vl])
  refine ⟨r, ?_, h2⟩
  unfold nat_left.f
  rw [suc (by omega), natT]
  exact ev_pos (by omega) (ev_pos (by omega) h1)
end NatLeft
/-! ### limbs: the long division -/
section NatRight
theorem shr_id {x : Int} {n : Nat} (hn : n < 32) : shr .u64 x (n : Int) = x / 2 ^ n := by
  unfold shr
  rw [natT, show min n IntKind.u64.bits = n from Nat.min_eq_left (by simp [IntKind.bits]; omega)]
theorem join64' {x y : Int} (hx : 0 ≤ x ∧ x < 4294967296) (hy : 0 ≤ y ∧ y < 4294967296) : Go.bits .or .u64 y (IntKind.u64.wrap (x * 4294967296)) = x * 4294967296 + y := by
  rw [← join64 hx hy, or64, or64, BitVec.or_comm]
theorem ediv_pow_succ {B v : Int} (hB : 0 < B) (i : Nat) : v / B ^ (i + 1) = v / B ^ i / B := by
  rw [Int.pow_succ, Int.ediv_ediv_of_nonneg (by have := pow_pos' hB i; omega)]
theorem mod_pow_succ {B v : Int} (hB : 0 < B) (i : Nat) : v % B ^ (i + 1) = v % B ^ i + B ^ i * (v / B ^ i % B) := by
  have h1 := Int.emod_add_mul_ediv v (B ^ (i + 1))
  have h2 := Int.emod_add_mul_ediv v (B ^ i)
  have h3 := Int.emod_add_mul_ediv (v / B ^ i) B
  rw [ediv_pow_succ hB] at h1
  rw [Int.pow_succ] at h1 ⊢
  generalize v / B ^ i / B = q at *
  generalize v / B ^ i % B = r at *
  generalize v % B ^ i = s at *
  generalize v % (B ^ i * B) = t at *
  generalize v / B ^ i = w at *
  generalize B ^ i = P at *
  grind
theorem drop_div {B : Int} (hB : 0 < B) {l : List Int} (h : Dg B l) (i : Nat) : vl B l / B ^ i = vl B (l.drop i) := by
  have h1 := vl_split (B := B) i l
  have h2 := vl_nonneg (show 0 ≤ B by omega) (h.take i)
  have h3 := vl_lt hB (h.take i)
  have h4 := pow_le (show 1 ≤ B by omega) (show (l.take i).length ≤ i by simp; omega)
  have hp := pow_pos' hB i
  rw [h1, Int.add_mul_ediv_left _ _ (by omega), Int.ediv_eq_zero_of_lt h2 (by omega)]; omega
theorem pow_split {n m : Nat} (h : n ≤ m) : (2 : Int) ^ m = 2 ^ (m - n) * 2 ^ n := by
  rw [← Int.pow_add, Nat.sub_add_cancel h]
theorem right_limb {B : Int} (hB : B = 4294967296) {n : Nat} (hn : n < 32) {a : List Int} (da : Dg B a) {i : Nat} (hi : i < a.length) : vl B a / 2 ^ n / B ^ i % B = (rd a i + rd a ((i + 1 : Nat) : Int) * B) / 2 ^ n % B := by
  have hp0 := pow_pos' (show (0 : Int) < 2 by omega) n
  have hpB := pow_pos' (show 0 < B by omega) i
  have e1 : vl B a / 2 ^ n / B ^ i = vl B (a.drop i) / 2 ^ n := by
    rw [Int.ediv_ediv_of_nonneg (by omega), Int.mul_comm, ← Int.ediv_ediv_of_nonneg (by omega), drop_div (by omega) da]
  have hr : vl B (a.drop (i + 1)) = rd a ((i + 1 : Nat) : Int) + B * vl B (a.drop (i + 1 + 1)) := by
    rcases Nat.lt_or_ge (i + 1) a.length with h | h
    · exact vl_drop h
    · rw [rd_out h, List.drop_eq_nil_of_le h, List.drop_eq_nil_of_le (by omega)]; simp [vl]
  have e2 : (2 : Int) ^ 64 = 2 ^ n * (2 ^ (32 - n) * B) := by
    have : (2 : Int) ^ 64 = 2 ^ 32 * B := by rw [hB]; decide
    rw [this, pow_split (show n ≤ 32 by omega)]; grind
  have e3 : B * B = 2 ^ n * (2 ^ (32 - n) * B) := by rw [← e2, hB]; decide
  rw [e1, vl_drop hi, hr]
  generalize rd a ((i + 1 : Nat) : Int) = y
  generalize rd a (i : Int) = x
  generalize vl B (a.drop (i + 1 + 1)) = z
  have e4 : x + B * (y + B * z) = (x + y * B) + 2 ^ n * (2 ^ (32 - n) * B * z) := by
    have : 2 ^ n * (2 ^ (32 - n) * B * z) = B * B * z := by rw [e3]; grind
    rw [this]; grind
  rw [e4, Int.add_mul_ediv_left _ _ (by omega), show (2 : Int) ^ (32 - n) * B * z = B * (2 ^ (32 - n) * z) by grind, Int.add_mul_emod_self_left]
theorem nat_right.l0_ev {B : Int} (hB : B = 4294967296) {n : Nat} (hn : n < 32) {a : List Int} (ha : a.length ≤ 1000000) (da : Dg B a) : ∀ (m : Nat) (p : List Int), p.length + m = a.length → Dg B p → vl B p = (vl B a / 2 ^ n) % B ^ p.length → Ev (fun k => nat_right.l0 k a (n : Int) (p ++ List.replicate m 0) (a.length : Int) (p.length : Int)) (cn B (vl B a / 2 ^ n))
  | 0, p, hp, dp, hv => by
    have h0 := vl_nonneg (show 0 ≤ B by omega) da
    have h1 := vl_lt (show 0 < B by omega) da
    have hp0 := pow_pos' (show (0 : Int) < 2 by omega) n
    have h2 : vl B a / 2 ^ n ≤ vl B a := Int.ediv_le_self _ h0
    refine Ev.step (fun k => nat_right.l0.eq_2 _ _ _ _ _ _) (ev_neg (by omega) ?_)
    rw [List.replicate_zero, List.append_nil]
    refine Ev.bind (nat_trim.ev (x := p) (by omega)) (ev_ret ?_)
    rw [tr_cn (B := B) (by omega) dp, hv, Int.emod_eq_of_lt (Int.ediv_nonneg h0 (by omega)) (by rw [show p.length = a.length by omega]; omega)]
  | m + 1, p, hp, dp, hv => by
    have hp0 := pow_pos' (show (0 : Int) < 2 by omega) n
    have hx := da.place (show 0 < B by omega) (p.length : Int)
    have hy := da.place (show 0 < B by omega) ((p.length + 1 : Nat) : Int)
    have hl := right_limb hB hn da (i := p.length) (by omega)
    have hs : vl B (p ++ [(rd a p.length + rd a ((p.length + 1 : Nat) : Int) * B) / 2 ^ n % B]) = (vl B a / 2 ^ n) % B ^ (p.length + 1) := by
      rw [vl_snoc, mod_pow_succ (by omega), hl, hv]
    have hm0 := Int.emod_nonneg ((rd a p.length + rd a ((p.length + 1 : Nat) : Int) * B) / 2 ^ n) (show B ≠ 0 by omega)
    have hm1 := Int.emod_lt_of_pos ((rd a p.length + rd a ((p.length + 1 : Nat) : Int) * B) / 2 ^ n) (show 0 < B by omega)
    have ih := nat_right.l0_ev hB hn ha da m (p ++ [(rd a p.length + rd a ((p.length + 1 : Nat) : Int) * B) / 2 ^ n % B]) (by simp; omega) (dp.snoc hm0 hm1) (by rw [List.length_append, List.length_singleton]; exact hs)
    rw [List.length_append, List.length_singleton] at ih
    refine Ev.step (fun k => nat_right.l0.eq_2 _ _ _ _ _ _) (ev_pos (by omega) (ev_pos (by omega) (ev_pos (by omega) ?_)))
    rw [suc (by omega), natT, rep_set, rep_set, shr_id hn, shr_id hn]
    refine ev_ite (fun h => ev_pos (by omega) (ev_pos (by omega) (ev_pos (by simp; omega) ?_))) (fun h => ev_pos (by omega) (ev_pos (by simp; omega) ?_))
    · rw [u64id (x := rd a p.length) (by omega) (by omega), u64id (x := rd a ((p.length + 1 : Nat) : Int)) (by omega) (by omega), join64' (by omega) (by omega), ← hB, Int.add_comm]
      exact ih
    · rw [u64id (x := rd a p.length) (by omega) (by omega), ← hB]
      rw [rd_out (l := a) (i := p.length + 1) (by omega), Int.zero_mul, Int.add_zero] at ih
      exact ih
theorem nat_right.ev {B : Int} (hB : B = 4294967296) {n : Nat} (hn : n < 32) {a : List Int} (ha : a.length ≤ 1000000) (da : Dg B a) : Ev (fun k => nat_right.f k a (n : Int)) (cn B (vl B a / 2 ^ n)) := by
  refine ev_pos (by omega) ?_
  rw [natT]
  exact ev_pos (by omega) (nat_right.l0_ev hB hn ha da a.length [] (by simp) .nil (by simp [vl]))
end NatRight
/-! ### limbs: the quotient's limb -/
section NatGuess
variable {B : Int}
theorem gs1 {q r v1 t : Int} (e : q * v1 + r = t) : (q - 1) * v1 + (r + v1) = t := by rw [← e]; grind
theorem gs2 {q r v1 v2 t u2 : Int} (e : q * v1 + r = t) (h : q * v2 > r * B + u2) : (q - 1 + 1) * (v1 * B + v2) > t * B + u2 := by
  rw [← e]
  have : (q - 1 + 1) * (v1 * B + v2) = (q * v1) * B + q * v2 := by grind
  rw [this, Int.add_mul]; omega
theorem gs3 {q r v1 u0 u1 : Int} (hB : 0 ≤ B) (e : (q - 1) * v1 + (r + v1) = u0 * B + u1) (h1 : u1 < B) (h01 : u0 ≤ v1) (hv : 0 ≤ v1) (hb : r + v1 ≥ B) : q - 1 < B := by
  rcases (show q - 1 < B ∨ B ≤ q - 1 by omega) with h | h
  · exact h
  · exfalso
    have k1 := Int.mul_le_mul_of_nonneg_right h hv
    have k2 := Int.mul_le_mul_of_nonneg_right h01 hB
    rw [Int.mul_comm B v1] at k1
    omega
theorem gs4 {q r v1 v2 t u2 : Int} (e : (q - 1) * v1 + (r + v1) = t) (hB : 0 < B) (hq : q - 1 < B) (h2 : 0 ≤ v2 ∧ v2 < B) (h3 : 0 ≤ u2) (hb : r + v1 ≥ B) : (q - 1) * (v1 * B + v2) ≤ t * B + u2 := by
  rw [← e]
  have k1 : (q - 1) * v2 ≤ (B - 1) * v2 := Int.mul_le_mul_of_nonneg_right (by omega) (by omega)
  have k2 : (B - 1) * v2 ≤ (B - 1) * B := Int.mul_le_mul_of_nonneg_left (by omega) (by omega)
  have k3 : B * B ≤ (r + v1) * B := Int.mul_le_mul_of_nonneg_right hb (by omega)
  have k4 : (B - 1) * B ≤ B * B := Int.mul_le_mul_of_nonneg_right (by omega) (by omega)
  have : (q - 1) * (v1 * B + v2) = (q - 1) * v1 * B + (q - 1) * v2 := by grind
  rw [this, Int.add_mul]; omega
theorem gs5 {q r v1 v2 t u2 : Int} (e : q * v1 + r = t) (h : q * v2 ≤ r * B + u2) : q * (v1 * B + v2) ≤ t * B + u2 := by
  rw [← e]
  have : q * (v1 * B + v2) = q * v1 * B + q * v2 := by grind
  rw [this, Int.add_mul]; omega
theorem gs6 (hB : B = 4294967296) {q v2 : Int} (h0 : 0 ≤ q) (h1 : q < B) (h2 : 0 ≤ v2 ∧ v2 < B) : 0 ≤ q * v2 ∧ q * v2 < 18446744073709551616 := by
  have k1 : q * v2 ≤ (B - 1) * v2 := Int.mul_le_mul_of_nonneg_right (by omega) (by omega)
  have k2 : (B - 1) * v2 ≤ (B - 1) * B := Int.mul_le_mul_of_nonneg_left (by omega) (by omega)
  have k3 := Int.mul_nonneg h0 h2.1
  subst hB
  omega
theorem gs7 {q r v2 u2 : Int} (hB : 0 ≤ B) (h0 : 0 ≤ q) (hr : 0 ≤ r) (hu : 0 ≤ u2) (h : q * v2 > r * B + u2) : 1 ≤ q := by
  rcases (show q = 0 ∨ 1 ≤ q by omega) with e | e
  · subst e
    have := Int.mul_nonneg hr hB
    rw [Int.zero_mul] at h; omega
  · exact e
theorem nat_pred {q : Int} {m : Nat} (h : 1 ≤ q) (hm : q.toNat ≤ m + 1) : (q - 1).toNat ≤ m := by omega
/-- The quotient's limb that is guessed: the three highest limbs' and the two highest limbs' quotient, or the greatest limb. -/
theorem guess_l0 (hB : B = 4294967296) {u v : List Int} {j n : Nat} (du : Dg B u) (dv : Dg B v) (hn : 2 ≤ n) (hvn : v.length = n) (hu : j + n < u.length) (hul : u.length ≤ 1000000) {u0 u1 u2 v1 v2 : Int} (e2 : u2 = rd u ((j + n - 2 : Nat) : Int)) (f1 : v1 = rd v ((n - 1 : Nat) : Int)) (f2 : v2 = rd v ((n - 2 : Nat) : Int)) (hu1 : 0 ≤ u1 ∧ u1 < B) (h1 : 0 < v1) (h01 : u0 ≤ v1) :
    ∀ (m : Nat) (q r : Int), q.toNat ≤ m → 0 ≤ q → q < B * B → 0 ≤ r → r < B → q * v1 + r = u0 * B + u1 → ((q + 1) * (v1 * B + v2) > (u0 * B + u1) * B + u2 ∨ q + 1 ≥ B) →
    ∃ x, Ev (fun k => nat_guess.l0 k u (j : Int) v (n : Int) q r) x ∧ 0 ≤ x ∧ x < B ∧ x * (v1 * B + v2) ≤ (u0 * B + u1) * B + u2 ∧ ((x + 1) * (v1 * B + v2) > (u0 * B + u1) * B + u2 ∨ x + 1 ≥ B) := by
  have hu2 := du.place (show 0 < B by omega) ((j + n - 2 : Nat) : Int)
  have hv1 := dv.place (show 0 < B by omega) ((n - 1 : Nat) : Int)
  have hv2 := dv.place (show 0 < B by omega) ((n - 2 : Nat) : Int)
  rw [← e2] at hu2; rw [← f1] at hv1; rw [← f2] at hv2
  have ew1 : wrap64 ((n : Int) - 1) = ((n - 1 : Nat) : Int) := by rw [wr (by omega) (by omega)]; omega
  have ew2 : wrap64 ((n : Int) - 2) = ((n - 2 : Nat) : Int) := by rw [wr (by omega) (by omega)]; omega
  have ew3 : wrap64 ((wrap64 ((j : Int) + (n : Int))) - 2) = ((j + n - 2 : Nat) : Int) := by rw [wr (n := (j : Int) + (n : Int)) (by omega) (by omega), wr (by omega) (by omega)]; omega
  have c1 : ((n - 1 : Nat) : Int) < (v.length : Int) := by omega
  have c2 : ((n - 2 : Nat) : Int) < (v.length : Int) := by omega
  have c3 : ((j + n - 2 : Nat) : Int) < (u.length : Int) := by omega
  have w1 : IntKind.u64.wrap v1 = v1 := u64id hv1.1 (by omega)
  have w2 : IntKind.u64.wrap v2 = v2 := u64id hv2.1 (by omega)
  have w3 : IntKind.u64.wrap u2 = u2 := u64id hu2.1 (by omega)
  have wj : ∀ r, 0 ≤ r → r < B → Go.bits .or .u64 (IntKind.u64.wrap (r * 4294967296)) u2 = r * B + u2 := fun r h h' => by
    rw [join64 (by omega) (by omega), hB]
  have wa : ∀ r, 0 ≤ r → r < B → IntKind.u64.wrap (r + v1) = r + v1 := fun r h h' => u64id (by omega) (by omega)
  have wq : ∀ q, 1 ≤ q → q < B * B → IntKind.u64.wrap (q - 1) = q - 1 := fun q h h' => u64id (by omega) (by subst hB; omega)
  have wB : ∀ q : Int, (q ≥ 4294967296 ↔ q ≥ B) := fun q => by rw [hB]
  have hB0 : 0 < B := by omega
  have stay : ∀ q r x : Int, 0 ≤ q → q < B → 0 ≤ r → r < B → ∀ b, decide (q * v2 > r * B + u2) = b → Ev (fun k => nat_guess.j1 k u (j : Int) v (n : Int) q r b) x → Ev (fun k => nat_guess.l0 k u (j : Int) v (n : Int) q r) x := by
    intro q r x h0 hq r0 rB b hb h
    have h6 := gs6 hB h0 hq hv2
    refine Ev.step (fun k => nat_guess.l0.eq_2 _ _ _ _ _ _ _) (ev_neg (by rw [wB]; omega) ?_)
    rw [ew2, ew3]
    refine ev_pos (Int.natCast_nonneg _) (ev_pos c2 (ev_pos (Int.natCast_nonneg _) (ev_pos c3 ?_)))
    rw [← e2, ← f2, w2, w3, wj r r0 rB, u64id (x := q * v2) h6.1 h6.2, hb]
    exact h
  clear hu hul hvn hn c2 c3 ew2 ew3
  intro m
  induction m with
  | zero =>
    intro q r hm q0 qB r0 rB e g
    have hq : q = 0 := by omega
    have hng : ¬ q * v2 > r * B + u2 := by
      have := Int.mul_nonneg r0 (show 0 ≤ B by omega)
      rw [hq, Int.zero_mul]; omega
    refine ⟨q, stay q r q q0 (by omega) r0 rB false (decide_eq_false hng) (Ev.step (fun k => nat_guess.j1.eq_2 _ _ _ _ _ _ _ _) (ev_neg (by simp) (ev_ret rfl))), q0, by omega, gs5 e (by omega), g⟩
  | succ m ih =>
    intro q r hm q0 qB r0 rB e g
    have down : 1 ≤ q → (q ≥ B ∨ q * v2 > r * B + u2) → ∃ x, Ev (fun k => nat_guess.j1 k u (j : Int) v (n : Int) q r true) x ∧ 0 ≤ x ∧ x < B ∧ x * (v1 * B + v2) ≤ (u0 * B + u1) * B + u2 ∧ ((x + 1) * (v1 * B + v2) > (u0 * B + u1) * B + u2 ∨ x + 1 ≥ B) := by
      intro q1 hg
      have eq1 := gs1 e
      have g1 : (q - 1 + 1) * (v1 * B + v2) > (u0 * B + u1) * B + u2 ∨ q - 1 + 1 ≥ B := by
        rcases hg with h | h
        · exact Or.inr (by rw [Int.sub_add_cancel]; exact h)
        · exact Or.inl (gs2 e h)
      clear g hg e
      by_cases hb : r + v1 ≥ B
      · clear ih
        have hqB := gs3 (Int.le_of_lt hB0) eq1 hu1.2 h01 hv1.1 hb
        refine ⟨q - 1, Ev.step (fun k => nat_guess.j1.eq_2 _ _ _ _ _ _ _ _) (ev_pos rfl ?_), Int.sub_nonneg_of_le q1, hqB, gs4 eq1 hB0 hqB hv2 hu2.1 hb, g1⟩
        rw [ew1]
        refine ev_pos (Int.natCast_nonneg _) (ev_pos c1 ?_)
        rw [← f1, w1, wa r r0 rB, wq q q1 qB]
        exact ev_pos ((wB _).2 hb) (ev_ret rfl)
      · obtain ⟨x, x1, x2⟩ := ih (q - 1) (r + v1) (nat_pred q1 hm) (Int.sub_nonneg_of_le q1) (Int.lt_of_le_of_lt (Int.sub_le_self q (by decide)) qB) (Int.add_nonneg r0 hv1.1) (Int.lt_of_not_ge hb) eq1 g1
        refine ⟨x, Ev.step (fun k => nat_guess.j1.eq_2 _ _ _ _ _ _ _ _) (ev_pos rfl ?_), x2⟩
        rw [ew1]
        refine ev_pos (Int.natCast_nonneg _) (ev_pos c1 ?_)
        rw [← f1, w1, wa r r0 rB, wq q q1 qB]
        exact ev_neg (fun h => hb ((wB _).1 h)) x1
    clear ih
    by_cases hq : q ≥ B
    · obtain ⟨x, x1, x2⟩ := down (Int.le_trans (by clear down g e; omega) hq) (Or.inl hq)
      exact ⟨x, Ev.step (fun k => nat_guess.l0.eq_2 _ _ _ _ _ _ _) (ev_pos ((wB _).2 hq) x1), x2⟩
    · by_cases hg : q * v2 > r * B + u2
      · obtain ⟨x, x1, x2⟩ := down (gs7 (Int.le_of_lt hB0) q0 r0 hu2.1 hg) (Or.inr hg)
        exact ⟨x, stay q r x q0 (Int.lt_of_not_ge hq) r0 rB true (decide_eq_true hg) x1, x2⟩
      · exact ⟨q, stay q r q q0 (Int.lt_of_not_ge hq) r0 rB false (decide_eq_false hg) (Ev.step (fun k => nat_guess.j1.eq_2 _ _ _ _ _ _ _ _) (ev_neg (by simp) (ev_ret rfl))), q0, Int.lt_of_not_ge hq, gs5 e (Int.le_of_not_gt hg), g⟩
theorem gs8 {t v1 v2 u2 : Int} (hB : 0 ≤ B) (h1 : 0 < v1) (ht : 0 ≤ t) (h2 : 0 ≤ v2) (hu : u2 < B) : (t / v1 + 1) * (v1 * B + v2) > t * B + u2 := by
  have hm := Int.emod_add_mul_ediv t v1
  have hm1 := Int.emod_lt_of_pos t h1
  have hq0 : 0 ≤ t / v1 := Int.ediv_nonneg ht (by omega)
  have k1 : t + 1 ≤ (t / v1 + 1) * v1 := by rw [Int.add_mul, Int.mul_comm (t / v1)]; omega
  have k2 := Int.mul_le_mul_of_nonneg_right k1 hB
  have k3 : 0 ≤ (t / v1 + 1) * v2 := Int.mul_nonneg (by omega) h2
  have : (t / v1 + 1) * (v1 * B + v2) = (t / v1 + 1) * v1 * B + (t / v1 + 1) * v2 := by grind
  rw [this]
  rw [Int.add_mul] at k2
  omega
theorem two_limbs {x y : Int} (hB : 0 < B) (hx : x < B) (hy : y < B) : x * B + y < B * B := by
  have := Int.mul_le_mul_of_nonneg_right (show x ≤ B - 1 by omega) (show 0 ≤ B by omega)
  rw [Int.sub_mul] at this; omega
theorem guess_idx {u v : List Int} {j n : Nat} (hn : 2 ≤ n) (hvn : v.length = n) (hu : j + n < u.length) (hul : u.length ≤ 1000000) : wrap64 ((j : Int) + (v.length : Int)) = ((j + n : Nat) : Int) ∧ wrap64 (((j + n : Nat) : Int) - 1) = ((j + n - 1 : Nat) : Int) ∧ wrap64 ((v.length : Int) - 1) = ((n - 1 : Nat) : Int) ∧ ((j + n : Nat) : Int) < (u.length : Int) ∧ ((j + n - 1 : Nat) : Int) < (u.length : Int) ∧ ((n - 1 : Nat) : Int) < (v.length : Int) := by
  refine ⟨?_, ?_, ?_, ?_, ?_, ?_⟩
  · rw [wr (n := (j : Int) + (v.length : Int)) (by omega) (by omega)]; omega
  · rw [wr (n := ((j + n : Nat) : Int) - 1) (by omega) (by omega)]; omega
  · rw [wr (n := (v.length : Int) - 1) (by omega) (by omega)]; omega
  · omega
  · omega
  · omega
theorem guess_ev (hB : B = 4294967296) {u v : List Int} {j n : Nat} (du : Dg B u) (dv : Dg B v) (hn : 2 ≤ n) (hvn : v.length = n) (hu : j + n < u.length) (hul : u.length ≤ 1000000) {u0 u1 u2 v1 v2 : Int} (e0 : u0 = rd u ((j + n : Nat) : Int)) (e1 : u1 = rd u ((j + n - 1 : Nat) : Int)) (e2 : u2 = rd u ((j + n - 2 : Nat) : Int)) (f1 : v1 = rd v ((n - 1 : Nat) : Int)) (f2 : v2 = rd v ((n - 2 : Nat) : Int)) (h1 : 0 < v1) (h01 : u0 ≤ v1) :
    ∃ x, Ev (fun k => nat_guess.f k u (j : Int) v) x ∧ 0 ≤ x ∧ x < B ∧ x * (v1 * B + v2) ≤ (u0 * B + u1) * B + u2 ∧ ((x + 1) * (v1 * B + v2) > (u0 * B + u1) * B + u2 ∨ x + 1 ≥ B) := by
  obtain ⟨ew0, ew1, ew2, c0, c1, c2⟩ := guess_idx hn hvn hu hul
  have hB0 : 0 < B := by rw [hB]; decide
  have hBs : B ≤ 18446744073709551616 := by rw [hB]; decide
  have hu0 := du.place hB0 ((j + n : Nat) : Int)
  have hu1 := du.place hB0 ((j + n - 1 : Nat) : Int)
  have hu2 := du.place hB0 ((j + n - 2 : Nat) : Int)
  have hv1 := dv.place hB0 ((n - 1 : Nat) : Int)
  have hv2 := dv.place hB0 ((n - 2 : Nat) : Int)
  rw [← e0] at hu0; rw [← e1] at hu1; rw [← e2] at hu2; rw [← f1] at hv1; rw [← f2] at hv2
  have wj : Go.bits .or .u64 (IntKind.u64.wrap (u0 * 4294967296)) u1 = u0 * B + u1 := by rw [join64 (hB ▸ hu0) (hB ▸ hu1), hB]
  have w0 : IntKind.u64.wrap u0 = u0 := u64id hu0.1 (Int.lt_of_lt_of_le hu0.2 hBs)
  have w1 : IntKind.u64.wrap u1 = u1 := u64id hu1.1 (Int.lt_of_lt_of_le hu1.2 hBs)
  have w2 : IntKind.u64.wrap v1 = v1 := u64id hv1.1 (Int.lt_of_lt_of_le hv1.2 hBs)
  have ht0 : 0 ≤ u0 * B + u1 := Int.add_nonneg (Int.mul_nonneg hu0.1 (Int.le_of_lt hB0)) hu1.1
  have htB : u0 * B + u1 < B * B := two_limbs hB0 hu0.2 hu1.2
  have hm := Int.emod_add_mul_ediv (u0 * B + u1) v1
  have hm0 := Int.emod_nonneg (u0 * B + u1) (Int.ne_of_gt h1)
  have hm1 := Int.emod_lt_of_pos (u0 * B + u1) h1
  have hq0 : 0 ≤ (u0 * B + u1) / v1 := Int.ediv_nonneg ht0 hv1.1
  have hq1 : (u0 * B + u1) / v1 ≤ u0 * B + u1 := Int.ediv_le_self _ ht0
  have g0 := gs8 (B := B) (t := u0 * B + u1) (v1 := v1) (v2 := v2) (u2 := u2) (Int.le_of_lt hB0) h1 ht0 hv2.1 hu2.2
  obtain ⟨x, x1, x2⟩ := guess_l0 hB du dv hn hvn hu hul e2 f1 f2 hu1 h1 h01 _ ((u0 * B + u1) / v1) ((u0 * B + u1) % v1) (Nat.le_refl _) hq0 (Int.lt_of_le_of_lt hq1 htB) hm0 (Int.lt_trans hm1 hv1.2) (by rw [Int.mul_comm, Int.add_comm]; exact hm) (Or.inl g0)
  refine ⟨x, ?_, x2⟩
  clear x2 g0
  unfold nat_guess.f
  have hqw : IntKind.u64.wrap ((u0 * B + u1) / v1) = (u0 * B + u1) / v1 := u64id hq0 (Int.lt_of_lt_of_le (Int.lt_of_le_of_lt hq1 htB) (show B * B ≤ 18446744073709551616 by rw [hB]; omega))
  rw [ew0, ew1, ew2, ← e0, ← e1, ← f1, w2, w0, w1, wj, tdiv10 ht0, tmod10 ht0, hqw, hvn]
  exact ev_pos (Int.natCast_nonneg _) (ev_pos c0 (ev_pos (Int.natCast_nonneg _) (ev_pos c1 (ev_pos (Int.natCast_nonneg _) (ev_pos (hvn ▸ c2) (ev_neg (Int.ne_of_gt h1) x1))))))
end NatGuess
/-! ### limbs: the long division -/
section NatLong
variable {B : Int}
/-- A statement that omega does not read. -/
structure Hid (p : Prop) : Prop where
  out : p
theorem lower_step {V T P q b bo ca y r t u' bo' ca' m : Int} (h : V - P * (bo + ca) = T - q * b) (ht : t = q * y + ca) (hm : m + B * ca' = t) (hd : u' - B * bo' = r - m - bo) : V + P * (u' - r) - P * B * (bo' + ca') = T - q * (b + P * y) := by grind
theorem lower_limb (hB : B = 4294967296) {q y ca : Int} (hq : 0 ≤ q ∧ q < B) (hy : 0 ≤ y ∧ y < B) (hc : 0 ≤ ca ∧ ca < B) : (0 ≤ q * y ∧ q * y + ca < 18446744073709551616) ∧ 0 ≤ (q * y + ca) / B ∧ (q * y + ca) / B < B := by
  have k1 : q * y ≤ (B - 1) * y := Int.mul_le_mul_of_nonneg_right (by omega) (by omega)
  have k2 : (B - 1) * y ≤ (B - 1) * (B - 1) := Int.mul_le_mul_of_nonneg_left (by omega) (by omega)
  have k3 := Int.mul_nonneg hq.1 hy.1
  subst hB
  refine ⟨⟨k3, by omega⟩, by omega, by omega⟩
theorem lower_diff {r m b : Int} (hr : 0 ≤ r ∧ r < 4294967296) (hm : 0 ≤ m ∧ m < 4294967296) (hb : 0 ≤ b ∧ b ≤ 1) : ∃ u' b', Hid (IntKind.u64.wrap (IntKind.u64.wrap (r - m) - b) % 4294967296 = u') ∧ Hid (IntKind.u64.wrap (IntKind.u64.wrap (r - m) - b) / 9223372036854775808 = b') ∧ u' - 4294967296 * b' = r - m - b ∧ (0 ≤ u' ∧ u' < 4294967296) ∧ 0 ≤ b' ∧ b' ≤ 1 := by
  refine ⟨_, _, ⟨rfl⟩, ⟨rfl⟩, ?_⟩
  rw [IntKind.wrap_u64, IntKind.wrap_u64]
  omega
theorem lower_l0 (hB : B = 4294967296) (u : List Int) {j : Nat} {q : Int} {v : List Int} (hq : 0 ≤ q ∧ q < B) (dv : Dg B v) (hu : j + v.length < u.length) (hul : u.length ≤ 1000000) : ∀ (m i : Nat) (x : List Int) (bo ca : Int), i + m = v.length → x.length = u.length → Dg B x → x.drop (j + v.length + 1) = u.drop (j + v.length + 1) → (0 ≤ bo ∧ bo ≤ 1) → (0 ≤ ca ∧ ca < B) → Hid (vl B x - B ^ (i + j) * (bo + ca) = vl B u - q * (B ^ j * vl B (v.take i))) →
    ∃ (b : Bool) (r : List Int), Ev (fun k => nat_lower.l0 k x (j : Int) q v bo ca v (v.length : Int) (i : Int)) (b, r) ∧ Dg B r ∧ r.length = u.length ∧ r.drop (j + v.length + 1) = u.drop (j + v.length + 1) ∧ vl B r = vl B u - q * (B ^ j * vl B v) + B ^ (j + v.length + 1) * (if b then 1 else 0)
  | 0, i, x, bo, ca, hi, hx, dx, hdr, hbo, hca, hv => by
    have hr := dx.place (show 0 < B by omega) ((j + v.length : Nat) : Int)
    obtain ⟨u', b', e1, e2, e3, h4, h5⟩ := lower_diff (r := rd x ((j + v.length : Nat) : Int)) (m := ca) (b := bo) (by omega) (by omega) hbo
    refine ⟨b' == 1, x.set (j + v.length) u', Ev.step (fun k => nat_lower.l0.eq_2 _ _ _ _ _ _ _ _ _ _) (ev_neg (by omega) ?_), dx.set h4.1 (by omega), by simpa using hx, ?_, ?_⟩
    · rw [show wrap64 ((j : Int) + (v.length : Int)) = ((j + v.length : Nat) : Int) by rw [wr (n := (j : Int) + (v.length : Int)) (by omega) (by omega)]; omega, natT, u64id (x := rd x _) (by omega) (by omega), e1.out, e2.out]
      exact ev_pos (by omega) (ev_pos (by omega) (ev_ret rfl))
    · rw [List.drop_set_of_lt (by omega)]; exact hdr
    · rw [vl_set x (j + v.length) u' (by omega)]
      have ei : i + j = j + v.length := by omega
      have et : v.take i = v := List.take_of_length_le (by omega)
      replace hv := hv.out
      rw [et, ei] at hv
      rw [Int.pow_succ]
      have hb : (if (b' == 1) = true then (1 : Int) else 0) = b' := by
        rcases (show b' = 0 ∨ b' = 1 by omega) with rfl | rfl <;> rfl
      rw [hb]
      rw [← hB] at e3
      clear hb e1 e2 hr h4 h5
      generalize rd x ((j + v.length : Nat) : Int) = rr at *
      generalize B ^ (j + v.length) = P at *
      generalize vl B x = V at *
      generalize q * (B ^ j * vl B v) = Q at *
      generalize vl B u = U at *
      grind
  | m + 1, i, x, bo, ca, hi, hx, dx, hdr, hbo, hca, hv => by
    have w1 : Hid (wrap64 ((i : Int) + (j : Int)) = ((i + j : Nat) : Int)) := ⟨by rw [wr (n := (i : Int) + (j : Int)) (by omega) (by omega)]; omega⟩
    have c1 : ((i + j : Nat) : Int) < (x.length : Int) := by omega
    have c2 : (i : Int) < (v.length : Int) := by omega
    have si : Hid (wrap64 ((i : Int) + 1) = ((i + 1 : Nat) : Int)) := ⟨suc (by omega)⟩
    have hB0 : 0 < B := by omega
    have hix : i + j < x.length := by omega
    have hij : i + 1 + j = (i + j) + 1 := by omega
    have hr := dx.place hB0 ((i + j : Nat) : Int)
    have hy := dv.place hB0 (i : Int)
    obtain ⟨⟨l1, l2⟩, l3, l4⟩ := lower_limb hB hq hy hca
    have hm := Int.emod_add_mul_ediv (q * rd v i + ca) B
    have hm0 := Int.emod_nonneg (q * rd v i + ca) (Int.ne_of_gt hB0)
    have hm1 := Int.emod_lt_of_pos (q * rd v i + ca) hB0
    obtain ⟨u', b', e1, e2, e3, h4, h5⟩ := lower_diff (r := rd x ((i + j : Nat) : Int)) (m := (q * rd v i + ca) % B) (b := bo) ⟨hr.1, Int.lt_of_lt_of_le hr.2 (Int.le_of_eq hB)⟩ ⟨hm0, Int.lt_of_lt_of_le hm1 (Int.le_of_eq hB)⟩ hbo
    rw [← hB] at e3 h4
    have hs : vl B (x.set (i + j) u') - B ^ (i + 1 + j) * (b' + (q * rd v i + ca) / B) = vl B u - q * (B ^ j * vl B (v.take (i + 1))) := by
      rw [vl_set x (i + j) _ hix, vl_take_succ, hij, Int.pow_succ]
      have h2 : B ^ (i + j) = B ^ j * B ^ i := by rw [Nat.add_comm]; exact Int.pow_add _ _ _
      have hs := lower_step (B := B) (y := rd v i) (r := rd x ((i + j : Nat) : Int)) (u' := u') (bo' := b') (ca' := (q * rd v i + ca) / B) hv.out rfl hm e3
      rw [hs, h2, Int.mul_assoc, ← Int.mul_add]
    have hdr' : (x.set (i + j) u').drop (j + v.length + 1) = u.drop (j + v.length + 1) := by rw [List.drop_set_of_lt (by clear hs hm e1 e2 e3; omega)]; exact hdr
    obtain ⟨b, r, g1, g2⟩ := lower_l0 hB u hq dv hu hul m (i + 1) (x.set (i + j) u') b' ((q * rd v i + ca) / B) (by clear hs hm e1 e2 e3; omega) (by simpa using hx) (dx.set h4.1 h4.2) hdr' h5 ⟨l3, l4⟩ ⟨hs⟩
    refine ⟨b, r, Ev.step (fun k => nat_lower.l0.eq_2 _ _ _ _ _ _ _ _ _ _) ?_, g2⟩
    have hBs : B ≤ 18446744073709551616 := by rw [hB]; decide
    have hlow : Go.bits .and .u64 (q * rd v i + ca) 4294967295 = (q * rd v i + ca) % B := by rw [low32 ⟨Int.add_nonneg l1 hca.1, l2⟩, hB]
    rw [w1.out, natT, si.out, u64id (x := rd v i) hy.1 (Int.lt_of_lt_of_le hy.2 hBs), u64id (x := rd x _) hr.1 (Int.lt_of_lt_of_le hr.2 hBs), u64id (x := q * rd v i) l1 (Int.lt_of_le_of_lt (Int.le_add_of_nonneg_right hca.1) l2), u64id (x := q * rd v i + ca) (Int.add_nonneg l1 hca.1) l2, hlow, e1.out, e2.out, ← hB]
    exact ev_pos c2 (ev_pos (Int.natCast_nonneg _) (ev_pos c2 (ev_pos (Int.natCast_nonneg _) (ev_pos c1 g1))))
theorem lower_ev (hB : B = 4294967296) {u : List Int} {j : Nat} {q : Int} {v : List Int} (hq : 0 ≤ q ∧ q < B) (du : Dg B u) (dv : Dg B v) (hu : j + v.length < u.length) (hul : u.length ≤ 1000000) : ∃ (b : Bool) (r : List Int), Ev (fun k => nat_lower.f k u (j : Int) q v) (b, r) ∧ Dg B r ∧ r.length = u.length ∧ r.drop (j + v.length + 1) = u.drop (j + v.length + 1) ∧ vl B r = vl B u - q * (B ^ j * vl B v) + B ^ (j + v.length + 1) * (if b then 1 else 0) :=
  lower_l0 hB u hq dv hu hul v.length 0 u 0 0 (by omega) rfl du rfl (by omega) (by omega) ⟨by simp [vl]⟩
theorem half_limb (hB : B = 4294967296) {x y c : Int} (hx : 0 ≤ x ∧ x < B) (hy : 0 ≤ y ∧ y < B) (hc : 0 ≤ c ∧ c ≤ 1) : 0 ≤ (x + y + c) / B ∧ (x + y + c) / B ≤ 1 := by subst hB; omega
theorem raise_l0 (hB : B = 4294967296) (u : List Int) {j : Nat} {v : List Int} (dv : Dg B v) (hu : j + v.length < u.length) (hul : u.length ≤ 1000000) : ∀ (m i : Nat) (x : List Int) (c : Int), i + m = v.length → x.length = u.length → Dg B x → x.drop (j + v.length + 1) = u.drop (j + v.length + 1) → (0 ≤ c ∧ c ≤ 1) → Hid (vl B x + B ^ (i + j) * c = vl B u + B ^ j * vl B (v.take i)) →
    ∃ (c' : Int) (r : List Int), Ev (fun k => nat_raise.l0 k x (j : Int) v c v (v.length : Int) (i : Int)) r ∧ Dg B r ∧ r.length = u.length ∧ r.drop (j + v.length + 1) = u.drop (j + v.length + 1) ∧ (0 ≤ c' ∧ c' ≤ 1) ∧ vl B r = vl B u + B ^ j * vl B v - B ^ (j + v.length + 1) * c'
  | 0, i, x, c, hi, hx, dx, hdr, hc, hv => by
    have hr := dx.place (show 0 < B by omega) ((j + v.length : Nat) : Int)
    refine ⟨(rd x ((j + v.length : Nat) : Int) + c) / B, x.set (j + v.length) ((rd x ((j + v.length : Nat) : Int) + c) % B), Ev.step (fun k => nat_raise.l0.eq_2 _ _ _ _ _ _ _ _) (ev_neg (by omega) ?_), dx.set (by subst hB; omega) (by subst hB; omega), by simpa using hx, ?_, by subst hB; omega, ?_⟩
    · rw [show wrap64 ((j : Int) + (v.length : Int)) = ((j + v.length : Nat) : Int) by rw [wr (n := (j : Int) + (v.length : Int)) (by omega) (by omega)]; omega, natT, ← hB]
      exact ev_pos (by omega) (ev_pos (by omega) (ev_ret rfl))
    · rw [List.drop_set_of_lt (by omega)]; exact hdr
    · rw [vl_set x (j + v.length) _ (by omega)]
      have ei : i + j = j + v.length := by omega
      have et : v.take i = v := List.take_of_length_le (by omega)
      replace hv := hv.out
      rw [et, ei] at hv
      rw [Int.pow_succ]
      have hm := Int.emod_add_mul_ediv (rd x ((j + v.length : Nat) : Int) + c) B
      generalize (rd x ((j + v.length : Nat) : Int) + c) % B = mm at *
      generalize (rd x ((j + v.length : Nat) : Int) + c) / B = dd at *
      generalize rd x ((j + v.length : Nat) : Int) = rr at *
      generalize B ^ (j + v.length) = P at *
      generalize vl B x = V at *
      generalize B ^ j * vl B v = Q at *
      generalize vl B u = U at *
      grind
  | m + 1, i, x, c, hi, hx, dx, hdr, hc, hv => by
    have w1 : Hid (wrap64 ((i : Int) + (j : Int)) = ((i + j : Nat) : Int)) := ⟨by rw [wr (n := (i : Int) + (j : Int)) (by omega) (by omega)]; omega⟩
    have c1 : ((i + j : Nat) : Int) < (x.length : Int) := by omega
    have c2 : (i : Int) < (v.length : Int) := by omega
    have si : Hid (wrap64 ((i : Int) + 1) = ((i + 1 : Nat) : Int)) := ⟨suc (by omega)⟩
    have hB0 : 0 < B := by omega
    have hix : i + j < x.length := by omega
    have hij : i + 1 + j = (i + j) + 1 := by omega
    have hr := dx.place hB0 ((i + j : Nat) : Int)
    have hy := dv.place hB0 (i : Int)
    have hm := Int.emod_add_mul_ediv (rd x ((i + j : Nat) : Int) + rd v i + c) B
    have ha := add32 (x := rd x ((i + j : Nat) : Int)) (y := rd v i) (c := c) ⟨hr.1, Int.lt_of_lt_of_le hr.2 (Int.le_of_eq hB)⟩ ⟨hy.1, Int.lt_of_lt_of_le hy.2 (Int.le_of_eq hB)⟩ hc
    have b1 : 0 ≤ (rd x ((i + j : Nat) : Int) + rd v i + c) % B ∧ (rd x ((i + j : Nat) : Int) + rd v i + c) % B < B := ⟨Int.emod_nonneg _ (Int.ne_of_gt hB0), Int.emod_lt_of_pos _ hB0⟩
    have b2 : 0 ≤ (rd x ((i + j : Nat) : Int) + rd v i + c) / B ∧ (rd x ((i + j : Nat) : Int) + rd v i + c) / B ≤ 1 := half_limb hB hr hy hc
    have hs : vl B (x.set (i + j) ((rd x ((i + j : Nat) : Int) + rd v i + c) % B)) + B ^ (i + 1 + j) * ((rd x ((i + j : Nat) : Int) + rd v i + c) / B) = vl B u + B ^ j * vl B (v.take (i + 1)) := by
      rw [vl_set x (i + j) _ hix, vl_take_succ, hij, Int.pow_succ]
      have h2 : B ^ (i + j) = B ^ j * B ^ i := by rw [Nat.add_comm]; exact Int.pow_add _ _ _
      clear ha b1 b2
      replace hv := hv.out
      generalize (rd x ((i + j : Nat) : Int) + rd v i + c) % B = mm at *
      generalize (rd x ((i + j : Nat) : Int) + rd v i + c) / B = dd at *
      generalize rd x ((i + j : Nat) : Int) = rr at *
      generalize rd v i = y at *
      rw [h2] at hv ⊢
      generalize B ^ j = P at *
      generalize B ^ i = I at *
      grind
    have hdr' : (x.set (i + j) ((rd x ((i + j : Nat) : Int) + rd v i + c) % B)).drop (j + v.length + 1) = u.drop (j + v.length + 1) := by rw [List.drop_set_of_lt (by clear hs hm; omega)]; exact hdr
    obtain ⟨c', r, g1, g2⟩ := raise_l0 hB u dv hu hul m (i + 1) (x.set (i + j) ((rd x ((i + j : Nat) : Int) + rd v i + c) % B)) ((rd x ((i + j : Nat) : Int) + rd v i + c) / B) (by clear hs hm; omega) (by simpa using hx) (dx.set b1.1 b1.2) hdr' b2 ⟨hs⟩
    refine ⟨c', r, Ev.step (fun k => nat_raise.l0.eq_2 _ _ _ _ _ _ _ _) ?_, g2⟩
    rw [w1.out, natT, si.out]
    refine ev_pos c2 (ev_pos (Int.natCast_nonneg _) (ev_pos c2 (ev_pos (Int.natCast_nonneg _) (ev_pos c1 (ev_some ha ?_)))))
    rw [← hB]
    exact g1
theorem raise_ev (hB : B = 4294967296) {u : List Int} {j : Nat} {v : List Int} (du : Dg B u) (dv : Dg B v) (hu : j + v.length < u.length) (hul : u.length ≤ 1000000) : ∃ (c' : Int) (r : List Int), Ev (fun k => nat_raise.f k u (j : Int) v) r ∧ Dg B r ∧ r.length = u.length ∧ r.drop (j + v.length + 1) = u.drop (j + v.length + 1) ∧ (0 ≤ c' ∧ c' ≤ 1) ∧ vl B r = vl B u + B ^ j * vl B v - B ^ (j + v.length + 1) * c' :=
  raise_l0 hB u dv hu hul v.length 0 u 0 (by omega) rfl du rfl (by omega) ⟨by simp [vl]⟩
end NatLong
/-! ### limbs: quotient and rest -/
section NatDivMod
variable {B : Int}
theorem high_zero (hB : 0 < B) {l : List Int} (h : Dg B l) {m : Nat} (hv : vl B l < B ^ m) : vl B (l.drop m) = 0 := by
  have h1 := vl_split (B := B) m l
  have h2 := vl_nonneg (Int.le_of_lt hB) (h.take m)
  have h3 := vl_nonneg (Int.le_of_lt hB) (h.drop m)
  have hp := pow_pos' hB m
  rcases (show vl B (l.drop m) = 0 ∨ 1 ≤ vl B (l.drop m) by omega) with e | e
  · exact e
  · have := Int.mul_le_mul_of_nonneg_left e (Int.le_of_lt hp); omega
theorem low_all (hB : 0 < B) {l : List Int} (h : Dg B l) {m : Nat} (hv : vl B (l.drop m) = 0) : 0 ≤ vl B l ∧ vl B l < B ^ m := by
  have h1 := vl_split (B := B) m l
  rw [hv] at h1
  have h2 := vl_nonneg (Int.le_of_lt hB) (h.take m)
  have h3 := vl_lt hB (h.take m)
  have h4 := pow_le (show 1 ≤ B by omega) (show (l.take m).length ≤ m by simp; omega)
  omega
theorem claimA {U V P Q U3 v1 v2 lo lo' x : Int} (hB : 0 < B) (hP : 0 < P) (hQ : 0 < Q) (hU : U = lo + P * Q * U3) (hlo : 0 ≤ lo) (hV : V = lo' + Q * (v1 * B + v2)) (hlo0 : 0 ≤ lo') (hlo' : lo' < Q) (hv1 : 1 ≤ v1) (hv2 : 0 ≤ v2) (hx : 0 ≤ x) (hxB : x < B) (h : x * (v1 * B + v2) ≤ U3) : x * (P * V) < U + P * V := by
  have k1 : x * lo' ≤ B * lo' := Int.mul_le_mul_of_nonneg_right (by omega) hlo0
  have k2 : B * lo' < B * Q := Int.mul_lt_mul_of_pos_left hlo' hB
  have k3 : B * Q ≤ v1 * (B * Q) := by
    have := Int.mul_le_mul_of_nonneg_right hv1 (Int.le_of_lt (Int.mul_pos hB hQ))
    omega
  have k4 : 0 ≤ Q * v2 := Int.mul_nonneg (Int.le_of_lt hQ) hv2
  have k5 : x * lo' < V := by
    have : V = lo' + v1 * (B * Q) + Q * v2 := by rw [hV]; grind
    omega
  have k6 : P * (x * lo') < P * V := Int.mul_lt_mul_of_pos_left k5 hP
  have k7 := Int.mul_le_mul_of_nonneg_left h (Int.le_of_lt (Int.mul_pos hP hQ))
  have k8 : x * (P * V) = P * (x * lo') + P * Q * (x * (v1 * B + v2)) := by rw [hV]; grind
  omega
theorem claimB {U V P Q U3 v1 v2 lo lo' x : Int} (hP : 0 < P) (hQ : 0 < Q) (hU : U = lo + P * Q * U3) (hlo : lo < P * Q) (hV : V = lo' + Q * (v1 * B + v2)) (hlo0 : 0 ≤ lo') (hx : 0 ≤ x) (hV0 : 0 < V) (hUV : U < V * (P * B)) (h : (x + 1) * (v1 * B + v2) > U3 ∨ x + 1 ≥ B) : U < x * (P * V) + P * V := by
  rcases h with h | h
  · have k1 := Int.mul_le_mul_of_nonneg_left (show U3 + 1 ≤ (x + 1) * (v1 * B + v2) by omega) (Int.le_of_lt (Int.mul_pos hP hQ))
    have k2 : 0 ≤ P * ((x + 1) * lo') := Int.mul_nonneg (Int.le_of_lt hP) (Int.mul_nonneg (by omega) hlo0)
    have k3 : x * (P * V) + P * V = P * ((x + 1) * lo') + P * Q * ((x + 1) * (v1 * B + v2)) := by rw [hV]; grind
    rw [Int.mul_add, Int.mul_one] at k1
    omega
  · have k1 := Int.mul_le_mul_of_nonneg_right h (Int.le_of_lt (Int.mul_pos hP hV0))
    have k2 : V * (P * B) = B * (P * V) := by grind
    rw [Int.add_mul, Int.one_mul] at k1
    omega
theorem claimC {U V P Q u0 v1 v2 lo' R : Int} (hB : 0 < B) (hP : 0 < P) (hQ : 0 < Q) (hU : P * Q * B * B * u0 ≤ U) (hV : V = lo' + Q * (v1 * B + v2)) (hlo' : lo' < Q) (hv2 : v2 < B) (hUV : U < V * (P * B)) : u0 ≤ v1 := by
  rcases (show u0 ≤ v1 ∨ v1 + 1 ≤ u0 by omega) with h | h
  · exact h
  · exfalso
    have k0 : 0 < P * Q * B * B := Int.mul_pos (Int.mul_pos (Int.mul_pos hP hQ) hB) hB
    have k1 := Int.mul_le_mul_of_nonneg_left h (Int.le_of_lt k0)
    have k2 : Q * (v2 + 1) ≤ Q * B := Int.mul_le_mul_of_nonneg_left (by omega) (Int.le_of_lt hQ)
    have k3 : V ≤ Q * B * (v1 + 1) := by
      have : Q * (v1 * B + v2) = Q * B * v1 + Q * v2 := by grind
      rw [Int.mul_add, Int.mul_one] at k2
      rw [Int.mul_add, Int.mul_one]
      omega
    have k4 := Int.mul_le_mul_of_nonneg_right k3 (Int.le_of_lt (Int.mul_pos hP hB))
    have k5 : Q * B * (v1 + 1) * (P * B) = P * Q * B * B * (v1 + 1) := by grind
    omega
theorem top3 (hB : 0 < B) {l : List Int} (h : Dg B l) {m : Nat} (hm : m + 2 < l.length) (hz : vl B (l.drop (m + 3)) = 0) : ∃ lo, 0 ≤ lo ∧ lo < B ^ m ∧ vl B l = lo + B ^ m * ((rd l ((m + 2 : Nat) : Int) * B + rd l ((m + 1 : Nat) : Int)) * B + rd l (m : Int)) := by
  have h1 := vl_split (B := B) m l
  have h2 := vl_nonneg (Int.le_of_lt hB) (h.take m)
  have h3 := vl_lt hB (h.take m)
  rw [List.length_take, Nat.min_eq_left (by omega)] at h3
  refine ⟨_, h2, h3, ?_⟩
  rw [vl_drop (show m < l.length by omega), vl_drop (show m + 1 < l.length by omega), vl_drop (show m + 1 + 1 < l.length by omega), hz] at h1
  rw [h1]
  generalize rd l ((m + 2 : Nat) : Int) = x
  generalize rd l ((m + 1 : Nat) : Int) = y
  generalize rd l (m : Int) = z
  grind
theorem top2 (hB : 0 < B) {l : List Int} (h : Dg B l) {m : Nat} (hm : m + 2 = l.length) : ∃ lo, 0 ≤ lo ∧ lo < B ^ m ∧ vl B l = lo + B ^ m * (rd l ((m + 1 : Nat) : Int) * B + rd l (m : Int)) := by
  have h1 := vl_split (B := B) m l
  have h2 := vl_nonneg (Int.le_of_lt hB) (h.take m)
  have h3 := vl_lt hB (h.take m)
  rw [List.length_take, Nat.min_eq_left (by omega)] at h3
  refine ⟨_, h2, h3, ?_⟩
  rw [vl_drop (show m < l.length by omega), vl_drop (show m + 1 < l.length by omega), List.drop_eq_nil_of_le (show l.length ≤ m + 1 + 1 by omega)] at h1
  rw [h1, show vl B [] = 0 from rfl]
  generalize rd l ((m + 1 : Nat) : Int) = y
  generalize rd l (m : Int) = z
  grind
/-- One limb of the quotient. -/
theorem div_round (hB : B = 4294967296) {u v : List Int} {i m : Nat} (du : Dg B u) (dv : Dg B v) (hvn : v.length = m + 2) (hu : i + (m + 2) < u.length) (hul : u.length ≤ 1000000) (hv1 : 0 < rd v ((m + 1 : Nat) : Int)) (hUV : vl B u < vl B v * (B ^ i * B)) :
    ∃ (x : Int) (b : Bool) (r : List Int), Ev (fun k => nat_guess.f k u (i : Int) v) x ∧ Ev (fun k => nat_lower.f k u (i : Int) x v) (b, r) ∧ (0 ≤ x ∧ x < B) ∧
      (b = false → Dg B r ∧ r.length = u.length ∧ vl B u = x * (B ^ i * vl B v) + vl B r ∧ vl B r < B ^ i * vl B v) ∧
      (b = true → 1 ≤ x ∧ ∃ r', Ev (fun k => nat_raise.f k r (i : Int) v) r' ∧ Dg B r' ∧ r'.length = u.length ∧ vl B u = (x - 1) * (B ^ i * vl B v) + vl B r' ∧ vl B r' < B ^ i * vl B v) := by
  have hB0 : 0 < B := by rw [hB]; decide
  have hVm := vl_lt hB0 dv
  have hPi := pow_pos' hB0 i
  have hPm := pow_pos' hB0 m
  have hz : vl B (u.drop (i + m + 3)) = 0 := by
    refine high_zero hB0 du (Int.lt_of_lt_of_le hUV ?_)
    have k1 := Int.mul_le_mul_of_nonneg_right (Int.le_of_lt hVm) (Int.le_of_lt (Int.mul_pos hPi hB0))
    rw [hvn] at k1
    have k2 : B ^ (m + 2) * (B ^ i * B) = B ^ (i + m + 3) := by rw [← Int.pow_succ, ← Int.pow_add]; congr 1; omega
    rw [k2] at k1
    exact k1
  have hV0 : 0 < vl B v := by
    have h0 := vl_nonneg (Int.le_of_lt hB0) dv
    obtain ⟨lo, l1, l2, l3⟩ := top2 hB0 dv hvn.symm
    have h1 := dv.place hB0 (m : Int)
    have h2 : 0 < B ^ m * (rd v ((m + 1 : Nat) : Int) * B + rd v (m : Int)) := Int.mul_pos hPm (Int.add_pos_of_pos_of_nonneg (Int.mul_pos hv1 hB0) h1.1)
    rw [l3]; exact Int.add_pos_of_nonneg_of_pos l1 h2
  obtain ⟨lo, l1, l2, l3⟩ := top3 hB0 du (m := i + m) (by omega) hz
  obtain ⟨lo', l1', l2', l3'⟩ := top2 hB0 dv hvn.symm
  have hu0 := du.place hB0 ((i + m + 2 : Nat) : Int)
  have hu1 := du.place hB0 ((i + m + 1 : Nat) : Int)
  have hu2 := du.place hB0 ((i + m : Nat) : Int)
  have hv2 := dv.place hB0 (m : Int)
  have epow : B ^ (i + m) = B ^ i * B ^ m := Int.pow_add _ _ _
  rw [epow] at l2 l3
  have h01 : rd u ((i + m + 2 : Nat) : Int) ≤ rd v ((m + 1 : Nat) : Int) := by
    refine claimC (R := 0) hB0 hPi hPm ?_ l3' l2' hv2.2 hUV
    have k1 : 0 ≤ B ^ i * B ^ m * (rd u ((i + m + 1 : Nat) : Int) * B + rd u ((i + m : Nat) : Int)) := Int.mul_nonneg (Int.le_of_lt (Int.mul_pos hPi hPm)) (Int.add_nonneg (Int.mul_nonneg hu1.1 (Int.le_of_lt hB0)) hu2.1)
    have k2 : vl B u = lo + B ^ i * B ^ m * (rd u ((i + m + 1 : Nat) : Int) * B + rd u ((i + m : Nat) : Int)) + B ^ i * B ^ m * B * B * rd u ((i + m + 2 : Nat) : Int) := by
      rw [l3]
      generalize rd u ((i + m + 2 : Nat) : Int) = x
      generalize rd u ((i + m + 1 : Nat) : Int) = y
      generalize rd u ((i + m : Nat) : Int) = z
      grind
    rw [k2]
    exact Int.le_add_of_nonneg_left (Int.add_nonneg l1 k1)
  obtain ⟨x, gx, x0, xB, g1, g2⟩ := guess_ev hB (u := u) (v := v) (j := i) (n := m + 2) du dv (by omega) hvn (by omega) hul rfl rfl rfl rfl rfl hv1 h01
  have hA := claimA hB0 hPi hPm l3 l1 l3' l1' l2' hv1 hv2.1 x0 xB g1
  have hBb := claimB hPi hPm l3 l2 l3' l1' x0 hV0 hUV g2
  clear g1 g2 h01 l3 l3' l2 l2' l1 l1' hu0 hu1 hu2 hv2 epow hUV hVm
  obtain ⟨b, r, e1, e2, e3, e4, e5⟩ := lower_ev hB ⟨x0, xB⟩ du dv (j := i) (by omega) hul
  have hnn : i + v.length + 1 = i + m + 3 := by omega
  rw [hnn] at e4 e5
  have hr := low_all hB0 e2 (m := i + m + 3) (by rw [e4]; exact hz)
  have hU0 := vl_nonneg (Int.le_of_lt hB0) du
  have hPV := Int.mul_pos hPi hV0
  have hraise := raise_ev hB (u := r) (j := i) (v := v) e2 dv (by rw [e3]; omega) (by rw [e3]; exact hul)
  rw [hnn] at hraise
  refine ⟨x, b, r, gx, e1, ⟨x0, xB⟩, fun hb => ?_, fun hb => ?_⟩
  · subst hb
    refine ⟨e2, e3, ?_, ?_⟩
    · clear hA hBb hraise; generalize x * (B ^ i * vl B v) = Z at *; simp at e5; omega
    · clear hA hraise; generalize x * (B ^ i * vl B v) = Z at *; simp at e5; omega
  · subst hb
    simp only [if_true, Int.mul_one] at e5
    have x1 : 1 ≤ x := by
      rcases (show x = 0 ∨ 1 ≤ x by clear hA hBb hraise e5; omega) with h | h
      · subst h
        rw [Int.zero_mul] at e5
        clear hA hBb hraise; omega
      · exact h
    refine ⟨x1, ?_⟩
    obtain ⟨c', r', f1, f2, f3, f4, f5, f6⟩ := hraise
    have hr' := low_all hB0 f2 (m := i + m + 3) (by rw [f4, e4]; exact hz)
    have f3' : r'.length = u.length := by rw [f3]; exact e3
    have hc' : c' = 1 := by
      rcases (show c' = 0 ∨ c' = 1 by clear hA hBb e5 f6; omega) with h | h
      · exfalso
        rw [h, Int.mul_zero] at f6
        clear e4 f4 hBb
        generalize x * (B ^ i * vl B v) = Z at *
        generalize B ^ i * vl B v = Y at *
        omega
      · exact h
    rw [hc', Int.mul_one] at f6
    have ex : (x - 1) * (B ^ i * vl B v) = x * (B ^ i * vl B v) - B ^ i * vl B v := by rw [Int.sub_mul, Int.one_mul]
    refine ⟨r', f1, f2, f3', ?_, ?_⟩
    · rw [ex]
      clear hA hBb ex
      generalize x * (B ^ i * vl B v) = Z at *
      generalize B ^ i * vl B v = Y at *
      omega
    · clear ex hBb
      generalize x * (B ^ i * vl B v) = Z at *
      generalize B ^ i * vl B v = Y at *
      omega
end NatDivMod
/-! ### limbs: DivMod -/
section NatQ
variable {B : Int}
theorem bitlen_spec : ∀ (x : Nat), x < 2 ^ 64 → x < 2 ^ Lib.bitLen x ∧ (x ≠ 0 → 2 ^ Lib.bitLen x ≤ 2 * x) := by
  intro x
  induction x using Nat.strongRecOn with
  | _ x ih =>
    intro h
    by_cases h0 : x = 0
    · subst h0; exact ⟨by decide, fun h => absurd rfl h⟩
    · rw [Lib.bitLen_half x h0 h]
      obtain ⟨i1, i2⟩ := ih (x / 2) (by omega) (by omega)
      rw [Nat.pow_add]
      by_cases h1 : x / 2 = 0
      · have hx : x = 1 := by omega
        subst hx
        decide
      · have i3 := i2 h1
        generalize 2 ^ Lib.bitLen (x / 2) = p at *
        exact ⟨by omega, fun _ => by omega⟩
theorem lead_ev {x : Int} (h0 : 0 < x) (h1 : x < 4294967296) : ∃ n : Nat, n < 32 ∧ bits_LeadingZeros32.f x = some (n : Int) ∧ x * 2 ^ n < 4294967296 := by
  obtain ⟨s1, s2⟩ := bitlen_spec x.toNat (by omega)
  have hle : Lib.bitLen x.toNat ≤ 32 := Lib.bitLen_le _ 32 (by omega) (by omega)
  have hpos : 1 ≤ Lib.bitLen x.toNat := by
    rcases Nat.eq_zero_or_pos (Lib.bitLen x.toNat) with h | h
    · rw [h] at s1; omega
    · exact h
  refine ⟨32 - Lib.bitLen x.toNat, by omega, ?_, ?_⟩
  · unfold bits_LeadingZeros32.f bits_Len32.f
    rw [if_pos (by omega)]
    show some (wrap64 (32 - (Lib.bitLen x.toNat : Int))) = _
    rw [wr (n := 32 - (Lib.bitLen x.toNat : Int)) (by omega) (by omega)]
    congr 1; omega
  · have e : (4294967296 : Int) = 2 ^ Lib.bitLen x.toNat * 2 ^ (32 - Lib.bitLen x.toNat) := by
      rw [← Int.pow_add, show Lib.bitLen x.toNat + (32 - Lib.bitLen x.toNat) = 32 by omega]; rfl
    have hp := pow_pos' (show (0 : Int) < 2 by omega) (32 - Lib.bitLen x.toNat)
    have hx : x < 2 ^ Lib.bitLen x.toNat := by rw [pow2_nat]; omega
    have k1 := Int.mul_lt_mul_of_pos_right hx hp
    rw [← e] at k1
    exact k1
theorem divmod_l0 (hB : B = 4294967296) {v : List Int} {m : Nat} (dv : Dg B v) (hvn : v.length = m + 2) (hv1 : 0 < rd v ((m + 1 : Nat) : Int)) {s : Nat} (hs : s < 32) {L : Nat} (hL : L ≤ 1000000) (hV0 : 0 < vl B v) (U : Int) : ∀ (i : Nat) (qs u : List Int), i + qs.length ≤ 1000000 → u.length = L → i + (m + 2) ≤ L → Dg B qs → Dg B u → Hid (U = vl B v * (B ^ i * vl B qs) + vl B u) → Hid (vl B u < B ^ i * vl B v) →
    Ev (fun k => nat_DivMod.l0 k (List.replicate i 0 ++ qs) (s : Int) u v ((i : Int) - 1)) (cn B (U / vl B v), cn B (U % vl B v / 2 ^ s), 0)
  | 0, qs, u, hi, hu, him, dq, du, hU, hlt => by
    have hU0 := vl_nonneg (show 0 ≤ B by omega) du
    refine Ev.step (fun k => nat_DivMod.l0.eq_2 _ _ _ _ _ _) (ev_neg (by omega) ?_)
    rw [List.replicate_zero, List.nil_append]
    refine Ev.bind (nat_trim.ev (x := qs) (by omega)) (Ev.bind (nat_right.ev hB hs (by omega) du) (ev_ret ?_))
    have hU := hU.out
    have hlt := hlt.out
    rw [Int.pow_zero, Int.one_mul] at hU hlt
    have e1 : U / vl B v = vl B qs := by
      rw [hU, Int.add_comm, Int.add_mul_ediv_left _ _ (Int.ne_of_gt hV0), Int.ediv_eq_zero_of_lt hU0 hlt, Int.zero_add]
    have e2 : U % vl B v = vl B u := by
      rw [hU, Int.add_comm, Int.add_mul_emod_self_left, Int.emod_eq_of_lt hU0 hlt]
    rw [e1, e2, tr_cn (B := B) (by omega) dq]
  | i + 1, qs, u, hi, hu, him, dq, du, hU, hlt => by
    have hPi : B ^ (i + 1) = B ^ i * B := Int.pow_succ _ _
    obtain ⟨x, b, r, g1, g2, g3, g4, g5⟩ := div_round hB (u := u) (v := v) (i := i) (m := m) du dv hvn (by omega) (by omega) hv1 (by
      have := hlt.out; rw [hPi, Int.mul_comm] at this; exact this)
    have hB0 : 0 < B := by omega
    have next : ∀ (d : Int) (u' : List Int), 0 ≤ d → d < B → Dg B u' → u'.length = u.length → vl B u = d * (B ^ i * vl B v) + vl B u' → vl B u' < B ^ i * vl B v → Ev (fun k => nat_DivMod.l0 k ((List.replicate (i + 1) 0 ++ qs).set i (d % 4294967296)) (s : Int) u' v (wrap64 ((i : Int) - 1))) (cn B (U / vl B v), cn B (U % vl B v / 2 ^ s), 0) := by
      intro d u' d0 dB du' hl he hlt'
      rw [wpred i (by omega), show d % 4294967296 = d by rw [Int.emod_eq_of_lt d0 (by omega)], show (List.replicate (i + 1) (0 : Int) ++ qs).set i d = List.replicate i 0 ++ ([d] ++ qs) by
        rw [List.replicate_succ', List.append_assoc, List.set_append_right _ _ (by simp)]; simp]
      refine divmod_l0 hB dv hvn hv1 hs hL hV0 U i ([d] ++ qs) u' (by simp; omega) (by omega) (by omega) (Dg.app (.one d0 dB) dq) du' ⟨?_⟩ ⟨hlt'⟩
      rw [hU.out, he, hPi, vl_app, vl_one]
      simp only [List.length_singleton, Int.pow_one]
      generalize B ^ i = P at *
      generalize vl B v = V at *
      generalize vl B qs = Q at *
      generalize vl B u' = Z at *
      grind
    refine Ev.step (fun k => nat_DivMod.l0.eq_2 _ _ _ _ _ _) (ev_pos (by omega) ?_)
    have ei : (((i + 1 : Nat) : Int) - 1) = (i : Int) := by omega
    have ci : (i : Int) < ((List.replicate (i + 1) (0 : Int) ++ qs).length : Int) := by simp; omega
    rw [ei]
    refine Ev.bind g1 (Ev.bind g2 ?_)
    cases b with
    | true =>
      obtain ⟨x1, r', h1, h2, h3, h4, h5⟩ := g5 rfl
      refine ev_pos rfl (Ev.bind h1 (ev_pos (Int.natCast_nonneg _) (ev_pos ci ?_)))
      rw [natT, u64id (x := x - 1) (by omega) (by omega)]
      exact next (x - 1) r' (by omega) (by omega) h2 h3 h4 h5
    | false =>
      obtain ⟨h2, h3, h4, h5⟩ := g4 rfl
      refine ev_neg (by simp) (ev_pos (Int.natCast_nonneg _) (ev_pos ci ?_))
      rw [natT]
      exact next x r g3.1 g3.2 h2 h3 h4 h5
theorem nat_DivMod.ev (hB : B = 4294967296) {a b : List Int} (ha : a.length ≤ 900000) (hb : b.length ≤ 900000) (da : Dg B a) (db : Dg B b) : Ev (fun k => nat_DivMod.f k a b) (if vl B b = 0 then ([], [], 4) else (cn B (vl B a / vl B b), cn B (vl B a % vl B b), 0)) := by
  have h2 : 2 ≤ B := by omega
  have hB0 : 0 < B := by omega
  have la := tr_length a
  have lb := tr_length b
  have ta := tr_tr a
  have tb := tr_tr b
  have da' := tr_Dg da
  have db' := tr_Dg db
  have va := tr_vl (B := B) a
  have vb := tr_vl (B := B) b
  refine Ev.bind (nat_trim.ev (x := a) (by omega)) (Ev.bind (nat_trim.ev (x := b) (by omega)) ?_)
  rw [← va, ← vb]
  generalize tr a = x at *
  generalize tr b = y at *
  have hx0 := vl_nonneg (Int.le_of_lt hB0) da'
  have hy0 := vl_nonneg (Int.le_of_lt hB0) db'
  clear va vb
  by_cases hy : y.length = 0
  · rw [List.length_eq_zero_iff.1 hy]
    exact ev_pos rfl (ev_ret rfl)
  · have hyp : 0 < vl B y := by
      have k1 := top_low h2 db' tb (by intro e; rw [e] at hy; simp at hy)
      have k2 := pow_pos' hB0 (y.length - 1)
      exact Int.lt_of_lt_of_le k2 k1
    rw [if_neg (Int.ne_of_gt hyp)]
    refine ev_neg (by omega) (Ev.bind (nat_Cmp.ev h2 (by omega) (by omega) da' db') ?_)
    by_cases hlt : vl B x < vl B y
    · rw [show cmpI (vl B x) (vl B y) = -1 by unfold cmpI; rw [if_pos hlt]]
      have hn := nat_Norm.ev (x := x) (by omega)
      rw [tr_cn h2 da'] at hn
      refine ev_pos (by decide) (Ev.bind hn (ev_ret ?_))
      rw [Int.ediv_eq_zero_of_lt hx0 hlt, Int.emod_eq_of_lt hx0 hlt, cn_zero (Int.le_refl _)]
    · refine ev_neg (by unfold cmpI; rw [if_neg hlt]; split <;> decide) ?_
      by_cases h1 : y.length = 1
      · have hp := last_pos db' hB0 tb (m := 0) h1
        have hd := db'.place hB0 ((0 : Nat) : Int)
        have hyv : vl B y = rd y ((0 : Nat) : Int) := by
          have := vl_drop (B := B) (l := y) (i := 0) (by omega)
          rw [List.drop_zero, List.drop_eq_nil_of_le (show y.length ≤ 0 + 1 by omega), show vl B [] = 0 from rfl, Int.mul_zero, Int.add_zero] at this
          exact this
        have hs := nat_short.ev hB (l := x) (d := rd y ((0 : Nat) : Int)) (by omega) da' ⟨hp, hd.2⟩
        rw [← hyv] at hs
        have hm0 := Int.emod_nonneg (vl B x) (Int.ne_of_gt hyp)
        have hm1 := Int.emod_lt_of_pos (vl B x) hyp
        rw [← hyv] at hd
        refine ev_pos (by omega) (ev_pos (by omega) ?_)
        rw [show rd y 0 = vl B y from hyv.symm]
        refine Ev.bind hs ?_
        have hw : vl B x % vl B y < 18446744073709551616 := Int.lt_trans hm1 (Int.lt_of_lt_of_le hd.2 (by rw [hB]; decide))
        dsimp only
        rw [u64id (x := vl B x % vl B y) hm0 hw]
        exact Ev.bind (nat_Of.ev hB hm0 hw) (ev_ret rfl)
      · obtain ⟨m, hm⟩ : ∃ m, y.length = m + 2 := ⟨y.length - 2, by omega⟩
        have hp := last_pos db' hB0 tb (m := m + 1) hm
        have hd := db'.place hB0 ((m + 1 : Nat) : Int)
        obtain ⟨n, hn, hl, hs⟩ := lead_ev hp (Int.lt_of_lt_of_le hd.2 (Int.le_of_eq hB))
        have hxy : y.length ≤ x.length := by
          rcases Nat.lt_or_ge x.length y.length with h | h
          · exact absurd (shorter h2 da' db' tb h) hlt
          · exact h
        obtain ⟨u, u1, u2, u3, u4⟩ := nat_left.ev hB hn (a := x) (by omega) da'
        obtain ⟨w, w1, w2, w3, w4⟩ := nat_left.ev hB hn (a := y) (by omega) db'
        have hS := pow_pos' (show (0 : Int) < 2 by omega) n
        have hSS : (1 : Int) ≤ 2 ^ n := hS
        have hvw : vl B w < B ^ (m + 2) := by
          obtain ⟨lo, l1, l2, l3⟩ := top2 hB0 db' hm.symm
          have hd0 := db'.place hB0 (m : Int)
          have k1 : rd y ((m + 1 : Nat) : Int) * 2 ^ n + 2 ^ n ≤ B := by
            have e := pow_split (show n ≤ 32 by omega)
            have hBe : B = 2 ^ (32 - n) * 2 ^ n := by rw [← e, hB]; decide
            have k2 : rd y ((m + 1 : Nat) : Int) < 2 ^ (32 - n) := by
              rcases (show rd y ((m + 1 : Nat) : Int) < 2 ^ (32 - n) ∨ 2 ^ (32 - n) ≤ rd y ((m + 1 : Nat) : Int) from by
                rcases Int.lt_trichotomy (rd y ((m + 1 : Nat) : Int)) (2 ^ (32 - n)) with h | h | h
                · exact Or.inl h
                · exact Or.inr (Int.le_of_eq h.symm)
                · exact Or.inr (Int.le_of_lt h)) with h | h
              · exact h
              · exfalso
                have := Int.mul_le_mul_of_nonneg_right h (Int.le_of_lt hS)
                rw [← hBe, hB] at this
                exact absurd hs (Int.not_lt.2 this)
            have k3 := Int.mul_le_mul_of_nonneg_right (show rd y ((m + 1 : Nat) : Int) + 1 ≤ 2 ^ (32 - n) from k2) (Int.le_of_lt hS)
            rw [← hBe, Int.add_mul, Int.one_mul] at k3
            exact k3
          have hyb := vl_lt hB0 (db'.take (m + 1))
          rw [List.length_take, Nat.min_eq_left (by omega)] at hyb
          have hys : vl B y = vl B (y.take (m + 1)) + B ^ (m + 1) * rd y ((m + 1 : Nat) : Int) := by
            have := vl_take_succ (B := B) y (m + 1)
            rw [List.take_of_length_le (show y.length ≤ m + 1 + 1 by omega)] at this
            exact this
          rw [w4, hys, show B ^ (m + 2) = B ^ (m + 1) * B from Int.pow_succ _ _]
          have hP := pow_pos' hB0 (m + 1)
          have k4 := Int.mul_lt_mul_of_pos_right hyb hS
          have k5 := Int.mul_le_mul_of_nonneg_left k1 (Int.le_of_lt hP)
          have k6 : (vl B (y.take (m + 1)) + B ^ (m + 1) * rd y ((m + 1 : Nat) : Int)) * 2 ^ n = vl B (y.take (m + 1)) * 2 ^ n + B ^ (m + 1) * (rd y ((m + 1 : Nat) : Int) * 2 ^ n) := by
            generalize rd y ((m + 1 : Nat) : Int) = q
            grind
          rw [k6]
          rw [Int.mul_add] at k5
          clear k6 hys hs
          generalize vl B (y.take (m + 1)) * 2 ^ n = z1 at *
          generalize B ^ (m + 1) * (rd y ((m + 1 : Nat) : Int) * 2 ^ n) = z2 at *
          generalize B ^ (m + 1) * 2 ^ n = z3 at *
          generalize B ^ (m + 1) * B = z4 at *
          clear hyb
          omega
        have hwp : 0 < vl B w := by rw [w4]; exact Int.mul_pos hyp hS
        have lw := tr_length w
        have dw := tr_Dg w2
        have tw := tr_tr w
        have vw := tr_vl (B := B) w
        have hlen : (tr w).length = m + 2 := by
          have hle : (tr w).length ≤ m + 2 := by rw [tr_cn h2 w2]; exact cn_length h2 hvw
          rcases Nat.lt_or_ge (tr w).length (m + 2) with h | h
          · exfalso
            have k1 := shorter h2 dw db' tb (by omega)
            rw [vw, w4] at k1
            have k2 := Int.mul_le_mul_of_nonneg_left hSS hy0
            rw [Int.mul_one] at k2
            exact absurd k1 (Int.not_lt.2 k2)
          · omega
        have hwl := last_pos dw hB0 tw (m := m + 1) hlen
        have e1 : wrap64 ((y.length : Int) - 1) = ((m + 1 : Nat) : Int) := by rw [wr (n := (y.length : Int) - 1) (by omega) (by omega)]; omega
        have e2 : wrap64 ((x.length : Int) - (y.length : Int)) = ((x.length - y.length : Nat) : Int) := by clear e1; rw [wr (n := (x.length : Int) - (y.length : Int)) (by omega) (by omega)]; omega
        have e3 : wrap64 (((x.length - y.length : Nat) : Int) + 1) = ((x.length - y.length + 1 : Nat) : Int) := suc (by clear e1 e2; omega)
        have c1 : ¬ (y.length : Int) = 1 := by clear e1 e2 e3; omega
        have c2 : ((m + 1 : Nat) : Int) < (y.length : Int) := by clear e1 e2 e3; omega
        have c3 : x.length - y.length + 1 ≤ 70368744177664 := by clear e1 e2 e3; omega
        refine ev_neg c1 ?_
        rw [e1, e2, e3, natT]
        refine ev_pos (Int.natCast_nonneg _) (ev_pos c2 (ev_some hl ?_))
        rw [u64id (x := (n : Int)) (by clear e1 e2 e3; omega) (by clear e1 e2 e3; omega)]
        refine Ev.bind u1 (Ev.bind w1 (Ev.bind (nat_trim.ev (x := w) (by clear e1 e2 e3; omega)) (ev_pos (Int.natCast_nonneg _) (ev_pos c3 ?_))))
        have hx := vl_lt hB0 da'
        have hfin := divmod_l0 hB (v := tr w) (m := m) dw hlen hwl hn (L := x.length + 1) (by clear e1 e2 e3; omega) (by rw [vw]; exact hwp) (vl B u) (x.length - y.length + 1) [] u (by simp; omega) u3 (by clear e1 e2 e3; omega) .nil u2 ⟨by simp [vl]⟩ ⟨by
          rw [vw, w4, u4]
          have k1 := top_low h2 db' tb (by intro e; rw [e] at hy; simp at hy)
          have k2 := Int.mul_le_mul_of_nonneg_left k1 (Int.le_of_lt (pow_pos' hB0 (x.length - y.length + 1)))
          rw [← Int.pow_add, show x.length - y.length + 1 + (y.length - 1) = x.length by clear e1 e2 e3; omega] at k2
          have k3 := Int.mul_lt_mul_of_pos_right (Int.lt_of_lt_of_le hx k2) hS
          rw [Int.mul_assoc] at k3
          exact k3⟩
        rw [List.append_nil, show (((x.length - y.length + 1 : Nat) : Int) - 1) = ((x.length - y.length : Nat) : Int) by clear e1 e2 e3; omega] at hfin
        refine ev_cast hfin ?_
        rw [vw, w4, u4]
        have hS0 : (2 : Int) ^ n ≠ 0 := Int.ne_of_gt hS
        rw [Int.mul_comm (vl B x), Int.mul_comm (vl B y), Int.mul_ediv_mul_of_pos _ _ hS, Int.mul_emod_mul_of_pos _ _ hS, Int.mul_ediv_cancel_left _ hS0]
end NatQ
/-! ### quotients and rests, with signs -/
section BigDiv
theorem emod_abs (z w : Int) : z % (w.natAbs : Int) = z % w := by
  rcases Int.le_total 0 w with h | h
  · rw [Int.natAbs_of_nonneg h]
  · rw [show (w.natAbs : Int) = -w by omega, Int.emod_neg]
theorem ediv_lt_abs {r w : Int} (h0 : 0 ≤ r) (h1 : r < (w.natAbs : Int)) : r / w = 0 := by
  rcases Int.le_total 0 w with h | h
  · exact Int.ediv_eq_zero_of_lt h0 (by omega)
  · have := Int.ediv_eq_zero_of_lt h0 (show r < -w by omega)
    rw [Int.ediv_neg] at this
    omega
theorem ediv_small {B : Int} (h2 : 2 ≤ B) {n : Nat} {z : Int} (w : Int) (h : Az B n z) : Az B (n + 1) (z / w) := by
  refine ⟨Int.natCast_nonneg _, ?_⟩
  have h1 : (z / w).natAbs ≤ z.natAbs + 1 := by
    have := Int.natAbs_ediv_le_natAbs z w
    omega
  have h3 := h.2
  have hp := pow_pos' (show 0 < B by omega) n
  rw [Int.pow_succ]
  have h4 := Int.mul_le_mul_of_nonneg_left h2 (show 0 ≤ B ^ n by omega)
  omega
theorem emod_small {B : Int} (h2 : 2 ≤ B) {n : Nat} {w : Int} (z : Int) (hw : w ≠ 0) (h : Az B n w) : Az B n (z % w) := by
  refine h.of h2 ?_
  have h1 := Int.emod_nonneg z hw
  have h3 := Int.emod_lt_of_pos z (show 0 < (w.natAbs : Int) by omega)
  rw [emod_abs] at h3
  omega
theorem eu {z w : Int} (hw : w ≠ 0) {q r : Int} (e : z = w * q + r) (a1 : 0 ≤ r) (a2 : r < (w.natAbs : Int)) : z / w = q ∧ z % w = r := by
  rw [e]
  refine ⟨?_, ?_⟩
  · rw [Int.add_comm, Int.add_mul_ediv_left _ _ hw, ediv_lt_abs a1 a2]; omega
  · rw [Int.add_comm, Int.add_mul_emod_self_left, ← emod_abs, Int.emod_eq_of_lt a1 a2]
theorem eu_of (z : Int) {w : Int} (hw : w ≠ 0) : z = w * (z / w) + z % w ∧ 0 ≤ z % w ∧ z % w < (w.natAbs : Int) := by
  refine ⟨(Int.mul_ediv_add_emod z w).symm, Int.emod_nonneg z hw, ?_⟩
  have := Int.emod_lt_of_pos z (show 0 < (w.natAbs : Int) by omega)
  rwa [emod_abs] at this
theorem div_signs {z w : Int} (hw : w ≠ 0) (q r : Int) (hq : q = sg (decide (z < 0) != decide (w < 0)) ((z.natAbs : Int) / (w.natAbs : Int))) (hr : r = sg (decide (z < 0)) ((z.natAbs : Int) % (w.natAbs : Int))) :
    (r < 0 → z / w = q - sn w ∧ z % w = r + (w.natAbs : Int)) ∧ (¬ r < 0 → z / w = q ∧ z % w = r) := by
  have hp : 0 < (w.natAbs : Int) := by omega
  have h1 := Int.emod_nonneg (z.natAbs : Int) (show (w.natAbs : Int) ≠ 0 by omega)
  have h2 := Int.emod_lt_of_pos (z.natAbs : Int) hp
  have h3 := Int.mul_ediv_add_emod (z.natAbs : Int) (w.natAbs : Int)
  generalize ((z.natAbs : Int) / (w.natAbs : Int)) = a at *
  generalize ((z.natAbs : Int) % (w.natAbs : Int)) = b at *
  have uniq : ∀ q' r' : Int, z = w * q' + r' → 0 ≤ r' → r' < (w.natAbs : Int) → z / w = q' ∧ z % w = r' := fun q' r' e a1 a2 => eu hw e a1 a2
  have ew : w * sn w = (w.natAbs : Int) := by
    unfold sn
    by_cases w0 : w < 0
    · rw [if_pos w0]; omega
    · rw [if_neg w0, if_neg hw]; omega
  have er : z = w * q + r := by
    rw [hq, hr]
    by_cases z0 : z < 0 <;> by_cases w0 : w < 0
    · rw [decide_eq_true z0, decide_eq_true w0]
      show z = w * sg false a + sg true b
      have : (w.natAbs : Int) = -w := by omega
      rw [this] at h3
      unfold sg; rw [if_neg (by simp), if_pos rfl]
      have : -w * a = -(w * a) := Int.neg_mul _ _
      omega
    · rw [decide_eq_true z0, decide_eq_false w0]
      show z = w * sg true a + sg true b
      have : (w.natAbs : Int) = w := by omega
      rw [this] at h3
      unfold sg; rw [if_pos rfl, if_pos rfl]
      have : w * -a = -(w * a) := Int.mul_neg _ _
      omega
    · rw [decide_eq_false z0, decide_eq_true w0]
      show z = w * sg true a + sg false b
      have : (w.natAbs : Int) = -w := by omega
      rw [this] at h3
      unfold sg; rw [if_pos rfl, if_neg (by simp)]
      have h4 : -w * a = -(w * a) := Int.neg_mul _ _
      have h5 : w * -a = -(w * a) := Int.mul_neg _ _
      omega
    · rw [decide_eq_false z0, decide_eq_false w0]
      show z = w * sg false a + sg false b
      have : (w.natAbs : Int) = w := by omega
      rw [this] at h3
      unfold sg; rw [if_neg (by simp), if_neg (by simp)]
      omega
  have rb : r.natAbs = b.natAbs := by rw [hr]; unfold sg; split <;> omega
  refine ⟨fun hn => uniq _ _ ?_ (by omega) (by omega), fun hn => uniq _ _ er (by omega) (by omega)⟩
  rw [Int.mul_sub, ew]; omega
theorem decs {B : Int} (h2 : 2 ≤ B) {s : Bool} {l : List Int} {z : Int} {n : Nat} (h : Rp B n s l z) (a : Int) (ha : 0 ≤ a) (t : Bool) (hz : z = 0 → a = 0) : sg (s != t) a = sg (decide (z < 0) != t) a ∧ sg s a = sg (decide (z < 0)) a := by
  by_cases h0 : a = 0
  · subst h0; simp [sg_zero]
  · have nn := h.nn h2
    have e := h.eq
    have hne : z ≠ 0 := fun g => h0 (hz g)
    have : s = decide (z < 0) := by
      cases s
      · symm; rw [decide_eq_false_iff_not]; unfold sg at e; simp at e; omega
      · symm; rw [decide_eq_true_iff]; unfold sg at e; simp at e
        have : vl B l ≠ 0 := fun g => hne (by omega)
        omega
    rw [this]; exact ⟨rfl, rfl⟩
theorem big_DivMod.ev {B : Int} (hB : B = 4294967296) {s t : Bool} {l r : List Int} {z w : Int} {n m : Nat} (h : Rp B n s l z) (k : Rp B m t r w) (hn : n ≤ 10000) (hm : m ≤ 10000) :
    Ev (fun k => big_DivMod.f k s l t r) (if w = 0 then (false, [], false, [], 4) else ((bn B (z / w)).1, (bn B (z / w)).2, (bn B (z % w)).1, (bn B (z % w)).2, 0)) := by
  have h2 : 2 ≤ B := by omega
  have hl := h.len
  have hr := k.len
  have az := h.abs h2
  have aw := k.abs h2
  have hd := nat_DivMod.ev hB (a := l) (b := r) (by omega) (by omega) h.dg k.dg
  rw [← az, ← aw] at hd
  refine Ev.bind hd ?_
  by_cases hw : w = 0
  · rw [if_pos hw, if_pos (by omega)]
    exact ev_neg (by simp) (ev_ret rfl)
  rw [if_neg hw, if_neg (by omega)]
  have sz : Sm B n (z.natAbs : Int) := h.az h2
  have sw : Sm B m (w.natAbs : Int) := k.az h2
  have hp : 0 < (w.natAbs : Int) := by omega
  have q0 := Int.ediv_nonneg (show 0 ≤ (z.natAbs : Int) by omega) (show 0 ≤ (w.natAbs : Int) by omega)
  have q1 := Int.ediv_le_self (w.natAbs : Int) (show 0 ≤ (z.natAbs : Int) by omega)
  have m0 := Int.emod_nonneg (z.natAbs : Int) (show (w.natAbs : Int) ≠ 0 by omega)
  have m1 := Int.emod_lt_of_pos (z.natAbs : Int) hp
  have sq : Sm B n ((z.natAbs : Int) / (w.natAbs : Int)) := ⟨q0, by have := sz.2; omega⟩
  have sm : Sm B m ((z.natAbs : Int) % (w.natAbs : Int)) := ⟨m0, by have := sw.2; omega⟩
  have zz : z = 0 → ((z.natAbs : Int) / (w.natAbs : Int)) = 0 := fun g => by rw [g]; simp
  have zm : z = 0 → ((z.natAbs : Int) % (w.natAbs : Int)) = 0 := fun g => by rw [g]; simp
  have es : sg (s != t) ((z.natAbs : Int) / (w.natAbs : Int)) = sg (decide (z < 0) != decide (w < 0)) ((z.natAbs : Int) / (w.natAbs : Int)) := by
    have ht : t = decide (w < 0) := by
      have e := k.eq
      have nn := k.nn h2
      cases t
      · symm; rw [decide_eq_false_iff_not]; unfold sg at e; simp at e; omega
      · symm; rw [decide_eq_true_iff]; unfold sg at e; simp at e
        have : vl B r ≠ 0 := fun g => hw (by omega)
        omega
    rw [← ht]; exact (decs h2 h _ q0 t zz).1
  have em := (decs h2 h _ m0 t zm).2
  refine ev_pos rfl (Ev.bind (big_norm.ev hB (z := sg (s != t) ((z.natAbs : Int) / (w.natAbs : Int))) (n := n) ⟨cn_Dg h2 _, sq.len h2, by rw [sq.vl h2]⟩ (by omega)) (Ev.bind (big_norm.ev hB (z := sg s ((z.natAbs : Int) % (w.natAbs : Int))) (n := m) ⟨cn_Dg h2 _, sm.len h2, by rw [sm.vl h2]⟩ (by omega)) ?_))
  rw [es, em]
  have D := div_signs hw _ _ rfl rfl (z := z)
  have aq : Az B n (sg (decide (z < 0) != decide (w < 0)) ((z.natAbs : Int) / (w.natAbs : Int))) := by unfold Az; rw [sg_abs q0]; exact sq
  have am : Az B m (sg (decide (z < 0)) ((z.natAbs : Int) % (w.natAbs : Int))) := by unfold Az; rw [sg_abs m0]; exact sm
  generalize sg (decide (z < 0) != decide (w < 0)) ((z.natAbs : Int) / (w.natAbs : Int)) = q at *
  generalize sg (decide (z < 0)) ((z.natAbs : Int) % (w.natAbs : Int)) = rr at *
  have hs := big_Sign.ev hB (am.rp h2) (by omega)
  refine Ev.bind hs ?_
  by_cases hn' : rr < 0
  · refine ev_pos (by unfold sn; rw [if_pos hn']; omega) ?_
    obtain ⟨d1, d2⟩ := D.1 hn'
    have awz : Az B m (w.natAbs : Int) := (k.az h2).of h2 (by omega)
    have asn : Az B 1 (sn w) := ⟨Int.natCast_nonneg _, by rw [hB]; unfold sn; (repeat split) <;> decide⟩
    have hsn := sn_cases w
    refine Ev.bind (big_Abs.ev hB k (by omega)) (Ev.bind (big_Add.ev hB (am.rp h2) (awz.rp h2) (by omega) (by omega)) (Ev.bind (big_Sign.ev hB k (by omega)) (Ev.bind (big_Of.ev hB (by omega) (by omega)) (Ev.bind (big_Sub.ev hB (aq.rp h2) (asn.rp h2) (by omega) (by omega)) (ev_ret ?_)))))
    rw [d1, d2]
  · refine ev_neg (by unfold sn; rw [if_neg hn']; split <;> omega) (ev_ret ?_)
    obtain ⟨d1, d2⟩ := D.2 hn'
    rw [d1, d2]
end BigDiv
section Gcds
variable {B : Int}
end Gcds
/-! ### rounded quotients, divisors, the lesser and the greater -/
section BigMore
def flr (z w : Int) : Int := if w < 0 then (-z) / (-w) else z / w
def cel (z w : Int) : Int := -(flr (-z) w)
theorem flr_eq (z : Int) {w : Int} (hw : w ≠ 0) : flr z w = z / w - (if w < 0 ∧ z % w ≠ 0 then 1 else 0) := by
  obtain ⟨h1, h2, h3⟩ := eu_of z hw
  unfold flr
  by_cases h : w < 0
  · rw [if_pos h]
    by_cases h0 : z % w = 0
    · rw [if_neg (fun g => g.2 h0)]
      have := (eu (z := -z) (w := -w) (q := z / w) (r := 0) (by omega) (by rw [Int.neg_mul]; omega) (by omega) (by omega)).1
      omega
    · rw [if_pos ⟨h, h0⟩]
      have e : -w * (z / w - 1) = -(w * (z / w)) + w := by rw [Int.neg_mul, Int.mul_sub]; omega
      have := (eu (z := -z) (w := -w) (q := z / w - 1) (r := -w - z % w) (by omega) (by rw [e]; omega) (by omega) (by omega)).1
      omega
  · rw [if_neg h, if_neg (fun g => h g.1)]; omega
theorem cel_eq (z : Int) {w : Int} (hw : w ≠ 0) : cel z w = z / w + (if 0 < w ∧ z % w ≠ 0 then 1 else 0) := by
  obtain ⟨h1, h2, h3⟩ := eu_of z hw
  unfold cel flr
  by_cases h : w < 0
  · rw [if_pos h, if_neg (by omega), Int.neg_neg, Int.ediv_neg]; omega
  · rw [if_neg h]
    by_cases h0 : z % w = 0
    · rw [if_neg (fun g => g.2 h0)]
      have := (eu (z := -z) (w := w) (q := -(z / w)) (r := 0) hw (by rw [Int.mul_neg]; omega) (by omega) (by omega)).1
      omega
    · rw [if_pos ⟨by omega, h0⟩]
      have e : w * (-(z / w) - 1) = -(w * (z / w)) - w := by rw [Int.mul_sub, Int.mul_neg]; omega
      have := (eu (z := -z) (w := w) (q := -(z / w) - 1) (r := w - z % w) hw (by rw [e]; omega) (by omega) (by omega)).1
      omega
theorem flr_small {B : Int} (h2 : 2 ≤ B) {n : Nat} {z : Int} (w : Int) (h : Az B n z) : Az B (n + 1) (flr z w) := by
  unfold flr; split
  · exact ediv_small h2 _ h.neg
  · exact ediv_small h2 _ h
theorem cel_small {B : Int} (h2 : 2 ≤ B) {n : Nat} {z : Int} (w : Int) (h : Az B n z) : Az B (n + 1) (cel z w) := (flr_small h2 w h.neg).neg
theorem sn_neg {z : Int} : sn z < 0 ↔ z < 0 := by unfold sn; by_cases h : z < 0 <;> simp [h]; split <;> omega
theorem sn_pos {z : Int} : sn z > 0 ↔ 0 < z := by
  unfold sn
  by_cases h : z < 0
  · rw [if_pos h]; omega
  · by_cases h1 : z = 0
    · rw [if_neg h, if_pos h1]; omega
    · rw [if_neg h, if_neg h1]; omega
theorem sn_eq {z : Int} : sn z = 0 ↔ z = 0 := by
  unfold sn
  by_cases h : z < 0
  · rw [if_pos h]; omega
  · by_cases h1 : z = 0
    · rw [if_neg h, if_pos h1]; omega
    · rw [if_neg h, if_neg h1]; omega
variable {B : Int}
theorem Rp.nil (B : Int) (n : Nat) (s : Bool) : Rp B n s [] 0 := ⟨.nil, Nat.zero_le _, sg_zero s⟩
theorem big_Floor.ev (hB : B = 4294967296) {s t : Bool} {l r : List Int} {z w : Int} {n m : Nat} (h : Rp B n s l z) (k : Rp B m t r w) (hn : n ≤ 10000) (hm : m ≤ 10000) :
    Ev (fun k => big_Floor.f k s l t r) (if w = 0 then (false, [], 4) else ((bn B (flr z w)).1, (bn B (flr z w)).2, 0)) := by
  have h2 : 2 ≤ B := by omega
  refine Ev.bind (big_Sign.ev hB k (by omega)) (ev_ite (fun e => ?_) (fun e => ?_))
  · have hw := sn_neg.1 e
    have hd := big_DivMod.ev hB ((h.az h2).neg.rp h2) ((k.az h2).neg.rp h2) hn hm
    rw [if_neg (by omega)] at hd
    refine Ev.bind (big_Neg.ev hB h (by omega)) (Ev.bind (big_Neg.ev hB k (by omega)) (Ev.bind hd (ev_ret ?_)))
    rw [if_neg (by omega)]; unfold flr; rw [if_pos hw]
  · have hw : ¬ w < 0 := fun g => e (sn_neg.2 g)
    have hd := big_DivMod.ev hB h k hn hm
    refine Ev.bind hd (ev_ret ?_)
    by_cases h0 : w = 0
    · rw [if_pos h0, if_pos h0]
    · rw [if_neg h0, if_neg h0]; unfold flr; rw [if_neg hw]
theorem big_Ceil.ev (hB : B = 4294967296) {s t : Bool} {l r : List Int} {z w : Int} {n m : Nat} (h : Rp B n s l z) (k : Rp B m t r w) (hn : n ≤ 10000) (hm : m ≤ 10000) :
    Ev (fun k => big_Ceil.f k s l t r) (if w = 0 then (false, [], 4) else ((bn B (cel z w)).1, (bn B (cel z w)).2, 0)) := by
  have h2 : 2 ≤ B := by omega
  have hf := big_Floor.ev hB ((h.az h2).neg.rp h2) k hn hm
  refine Ev.bind (big_Neg.ev hB h (by omega)) (Ev.bind hf ?_)
  by_cases h0 : w = 0
  · rw [if_pos h0, if_pos h0]
    have := big_Neg.ev hB (Rp.nil B 0 false) (by omega)
    rw [show (-0 : Int) = 0 from rfl, bn_zero] at this
    exact Ev.bind this (ev_ret rfl)
  · rw [if_neg h0, if_neg h0]
    exact Ev.bind (big_Neg.ev hB ((flr_small h2 w (h.az h2).neg).rp h2) (by omega)) (ev_ret rfl)
theorem r2div_fin {w a : Int} (hw : w ≠ 0) : sg (decide (w * a < 0) != decide (w < 0)) (((w * a).natAbs : Int) / (w.natAbs : Int)) = a := by
  have e : (((w * a).natAbs : Int) / (w.natAbs : Int)) = (a.natAbs : Int) := by
    rw [Int.natAbs_mul, Int.natCast_mul, Int.mul_ediv_cancel_left _ (by omega)]
  rw [e]
  rcases Int.lt_trichotomy a 0 with ha | ha | ha
  · rcases Int.lt_trichotomy w 0 with h | h | h
    · have := Int.mul_pos_of_neg_of_neg h ha
      rw [decide_eq_false (by omega), decide_eq_true h]; show sg true _ = _; unfold sg; rw [if_pos rfl]; omega
    · exact absurd h hw
    · have := Int.mul_neg_of_pos_of_neg h ha
      rw [decide_eq_true this, decide_eq_false (by omega)]; show sg true _ = _; unfold sg; rw [if_pos rfl]; omega
  · subst ha; simp [sg_zero]
  · rcases Int.lt_trichotomy w 0 with h | h | h
    · have := Int.mul_neg_of_neg_of_pos h ha
      rw [decide_eq_true this, decide_eq_true h]; show sg false _ = _; unfold sg; rw [if_neg (by simp)]; omega
    · exact absurd h hw
    · have := Int.mul_pos h ha
      rw [decide_eq_false (by omega), decide_eq_false (by omega)]; show sg false _ = _; unfold sg; rw [if_neg (by simp)]; omega
theorem sign_of {n : Nat} {s : Bool} {l : List Int} {w : Int} (h2 : 2 ≤ B) (k : Rp B n s l w) (hw : w ≠ 0) : s = decide (w < 0) := by
  have e := k.eq
  have nn := k.nn h2
  cases s
  · symm; rw [decide_eq_false_iff_not]; unfold sg at e; simp at e; omega
  · symm; rw [decide_eq_true_iff]; unfold sg at e; simp at e
    have : vl B l ≠ 0 := fun g => hw (by omega)
    omega
theorem abs_rest {z w : Int} (hw : w ≠ 0) : z % w = if z < 0 ∧ 0 < (z.natAbs : Int) % (w.natAbs : Int) then (w.natAbs : Int) - (z.natAbs : Int) % (w.natAbs : Int) else (z.natAbs : Int) % (w.natAbs : Int) := by
  have h1 := Int.emod_nonneg (z.natAbs : Int) (show (w.natAbs : Int) ≠ 0 by omega)
  have h2 := Int.emod_lt_of_pos (z.natAbs : Int) (show 0 < (w.natAbs : Int) by omega)
  have h3 := Int.mul_ediv_add_emod (z.natAbs : Int) (w.natAbs : Int)
  generalize ((z.natAbs : Int) / (w.natAbs : Int)) = a at *
  generalize ((z.natAbs : Int) % (w.natAbs : Int)) = b at *
  have W : ∀ c : Int, (w.natAbs : Int) * c = w * c ∨ (w.natAbs : Int) * c = w * -c := by
    intro c
    rcases Int.le_total 0 w with g | g
    · left; rw [Int.natAbs_of_nonneg g]
    · right; rw [show (w.natAbs : Int) = -w by omega, Int.neg_mul, Int.mul_neg]
  by_cases hz : z < 0
  · by_cases hb : 0 < b
    · rw [if_pos ⟨hz, hb⟩]
      have e : z = (w.natAbs : Int) * (-a - 1) + ((w.natAbs : Int) - b) := by rw [Int.mul_sub, Int.mul_neg]; omega
      rcases W (-a - 1) with g | g <;> (rw [g] at e; exact (eu hw e (by omega) (by omega)).2)
    · rw [if_neg (fun g => hb g.2)]
      have e : z = (w.natAbs : Int) * (-a) + b := by rw [Int.mul_neg]; omega
      rcases W (-a) with g | g <;> (rw [g] at e; exact (eu hw e h1 h2).2)
  · rw [if_neg (fun g => hz g.1)]
    have e : z = (w.natAbs : Int) * a + b := by omega
    rcases W a with g | g <;> (rw [g] at e; exact (eu hw e h1 h2).2)
theorem r2trim {s : Bool} {l : List Int} {z : Int} {n : Nat} (h : Rp 10 n s l z) (hn : n ≤ 1000000) : Ev (fun k => whetstoneref01_Trim.f k l) (cn 10 (z.natAbs : Int)) := by
  rw [h.abs ten2]; exact ref_trim.cn (by have := h.len; omega) h.dg
theorem r2div {s t : Bool} {l r : List Int} {z w : Int} {n m : Nat} (h : Rp 10 n s l z) (k : Rp 10 m t r w) (hn : n ≤ 10000) (hm : m ≤ 10000) :
    Ev (fun k => whetstoneref02_DivMod.f k s l t r) (if w = 0 then (false, [], false, [], 4) else ((bn 10 (z / w)).1, (bn 10 (z / w)).2, (bn 10 (z % w)).1, (bn 10 (z % w)).2, 0)) := by
  have az := h.az ten2
  have aw := k.az ten2
  refine Ev.bind (r2sign k (by omega)) ?_
  by_cases hw : w = 0
  · rw [if_pos hw]; exact ev_pos (sn_eq.2 hw) (ev_ret rfl)
  rw [if_neg hw]
  have hp : 0 < (w.natAbs : Int) := by omega
  have lz := az.rp ten2 |>.len
  have lw := aw.rp ten2 |>.len
  have lz' : (cn 10 (z.natAbs : Int)).length ≤ n := lz
  have lw' : (cn 10 (w.natAbs : Int)).length ≤ m := lw
  have hd := rdiv_ev (a := cn 10 (z.natAbs : Int)) (b := cn 10 (w.natAbs : Int)) (by omega) (by omega) (D10 _) (D10 _) (by rw [V10 (by omega)]; exact hp)
  rw [V10 (show 0 ≤ (z.natAbs : Int) by omega), V10 (show 0 ≤ (w.natAbs : Int) by omega)] at hd
  have m0 := Int.emod_nonneg (z.natAbs : Int) (show (w.natAbs : Int) ≠ 0 by omega)
  have m1 := Int.emod_lt_of_pos (z.natAbs : Int) hp
  have hr := abs_rest (z := z) hw
  have am : Az 10 m ((z.natAbs : Int) % (w.natAbs : Int)) := ⟨by omega, by have := aw.2; omega⟩
  have ar := emod_small ten2 z hw aw
  obtain ⟨eu1, eu2, eu3⟩ := eu_of z hw
  have ht := sign_of ten2 k hw
  have j1 : Ev (fun k => whetstoneref02_DivMod.j1 k s l t r (bn 10 (z % w)).1 (bn 10 (z % w)).2) ((bn 10 (z / w)).1, (bn 10 (z / w)).2, (bn 10 (z % w)).1, (bn 10 (z % w)).2, 0) := by
    have ad := az.sub ten2 ar
    have ld : (cn 10 ((z - z % w).natAbs : Int)).length ≤ n + m + 1 := (ad.rp ten2).len
    have hq := rdiv_ev (a := cn 10 ((z - z % w).natAbs : Int)) (b := cn 10 (w.natAbs : Int)) (by omega) (by omega) (D10 _) (D10 _) (by rw [V10 (by omega)]; exact hp)
    rw [V10 (show 0 ≤ ((z - z % w).natAbs : Int) by omega), V10 (show 0 ≤ (w.natAbs : Int) by omega)] at hq
    have q0 := Int.ediv_nonneg (show 0 ≤ ((z - z % w).natAbs : Int) by omega) (show 0 ≤ (w.natAbs : Int) by omega)
    have q1 := Int.ediv_le_self (w.natAbs : Int) (show 0 ≤ ((z - z % w).natAbs : Int) by omega)
    have sq : Sm 10 (n + m + 1) (((z - z % w).natAbs : Int) / (w.natAbs : Int)) := ⟨q0, by have := ad.2; omega⟩
    refine Ev.step (fun k => whetstoneref02_DivMod.j1.eq_2 _ _ _ _ _ _ _) (Ev.bind (r2sub h (ar.rp ten2) (by omega) (by omega)) (Ev.bind (r2trim (ad.rp ten2) (by omega)) (Ev.bind (r2trim k (by omega)) (Ev.bind hq (Ev.bind (r2norm (z := z / w) (n := n + m + 1) ⟨D10 _, sq.len ten2, ?_⟩ (by omega)) (ev_ret rfl))))))
    rw [V10 q0, ht]
    show sg (decide (z - z % w < 0) != decide (w < 0)) _ = _
    rw [show z - z % w = w * (z / w) by omega]
    exact r2div_fin hw
  have j0 : ∀ b : Bool, (b = true ↔ (z < 0 ∧ 0 < (z.natAbs : Int) % (w.natAbs : Int))) → Ev (fun k => whetstoneref02_DivMod.j0 k b s l t r (bn 10 ((z.natAbs : Int) % (w.natAbs : Int))).1 (bn 10 ((z.natAbs : Int) % (w.natAbs : Int))).2) ((bn 10 (z / w)).1, (bn 10 (z / w)).2, (bn 10 (z % w)).1, (bn 10 (z % w)).2, 0) := by
    intro b hb
    refine Ev.step (fun k => whetstoneref02_DivMod.j0.eq_2 _ _ _ _ _ _ _ _) (ev_ite (fun e => ?_) (fun e => ?_))
    · rw [if_pos (hb.1 e)] at hr
      refine Ev.bind (r2abs k (by omega)) (Ev.bind (r2sub ((aw.of ten2 (z := (w.natAbs : Int)) (by omega)).rp ten2) (am.rp ten2) (by omega) (by omega)) ?_)
      rw [← hr]; exact j1
    · rw [if_neg (fun g => e (hb.2 g))] at hr
      rw [← hr]; exact j1
  refine ev_neg (fun g => hw (sn_eq.1 g)) (Ev.bind (r2trim h (by omega)) (Ev.bind (r2trim k (by omega)) (Ev.bind hd (Ev.bind (r2norm (z := (z.natAbs : Int) % (w.natAbs : Int)) (n := m) ⟨D10 _, (Sm.len ten2 (v := (z.natAbs : Int) % (w.natAbs : Int)) ⟨m0, by have := aw.2; omega⟩), by rw [V10 m0]; rfl⟩ (by omega)) (Ev.bind (r2sign h (by omega)) ?_)))))
  refine ev_ite (fun e => Ev.bind (r2sign (am.rp ten2) (by omega)) (j0 _ ?_)) (fun e => j0 _ ?_)
  · rw [decide_eq_true_iff, sn_pos]; exact ⟨fun g => ⟨sn_neg.1 e, g⟩, fun g => g.2⟩
  · exact ⟨fun g => absurd g (by simp), fun g => absurd (sn_neg.2 g.1) e⟩
theorem r2floor {s t : Bool} {l r : List Int} {z w : Int} {n m : Nat} (h : Rp 10 n s l z) (k : Rp 10 m t r w) (hn : n ≤ 10000) (hm : m ≤ 10000) :
    Ev (fun k => whetstoneref02_Floor.f k s l t r) (if w = 0 then (false, [], 4) else ((bn 10 (flr z w)).1, (bn 10 (flr z w)).2, 0)) := by
  have az := h.az ten2
  have aw := k.az ten2
  refine Ev.bind (r2div h k hn hm) ?_
  by_cases hw : w = 0
  · rw [if_pos hw, if_pos hw]; exact ev_neg (by simp) (ev_ret rfl)
  rw [if_neg hw, if_neg hw]
  have aq := ediv_small ten2 w az
  have ar := emod_small ten2 z hw aw
  have hf := flr_eq z hw
  have a1 : Az 10 1 1 := ⟨by decide, by decide⟩
  have j0 : ∀ b : Bool, (b = true ↔ (w < 0 ∧ z % w ≠ 0)) → Ev (fun k => whetstoneref02_Floor.j0 k b (bn 10 (z / w)).1 (bn 10 (z / w)).2) ((bn 10 (flr z w)).1, (bn 10 (flr z w)).2, 0) := by
    intro b hb
    refine Ev.step (fun k => whetstoneref02_Floor.j0.eq_2 _ _ _ _) (ev_ite (fun e => ?_) (fun e => ?_))
    · rw [if_pos (hb.1 e)] at hf
      refine Ev.bind (r2of (by omega) (by omega)) (Ev.bind (r2sub (aq.rp ten2) (a1.rp ten2) (by omega) (by omega)) (ev_ret ?_))
      rw [hf]
    · rw [if_neg (fun g => e (hb.2 g))] at hf
      rw [hf, Int.sub_zero]; exact ev_ret rfl
  refine ev_pos rfl (Ev.bind (r2sign k (by omega)) (ev_ite (fun e => Ev.bind (r2sign (ar.rp ten2) (by omega)) (j0 _ ?_)) (fun e => j0 _ ?_)))
  · rw [bne_iff_ne, ne_eq, sn_eq]; exact ⟨fun g => ⟨sn_neg.1 e, g⟩, fun g => g.2⟩
  · exact ⟨fun g => absurd g (by simp), fun g => absurd (sn_neg.2 g.1) e⟩
theorem r2ceil {s t : Bool} {l r : List Int} {z w : Int} {n m : Nat} (h : Rp 10 n s l z) (k : Rp 10 m t r w) (hn : n ≤ 10000) (hm : m ≤ 10000) :
    Ev (fun k => whetstoneref02_Ceil.f k s l t r) (if w = 0 then (false, [], 4) else ((bn 10 (cel z w)).1, (bn 10 (cel z w)).2, 0)) := by
  have az := h.az ten2
  have aw := k.az ten2
  refine Ev.bind (r2div h k hn hm) ?_
  by_cases hw : w = 0
  · rw [if_pos hw, if_pos hw]; exact ev_neg (by simp) (ev_ret rfl)
  rw [if_neg hw, if_neg hw]
  have aq := ediv_small ten2 w az
  have ar := emod_small ten2 z hw aw
  have hf := cel_eq z hw
  have a1 : Az 10 1 1 := ⟨by decide, by decide⟩
  have j0 : ∀ b : Bool, (b = true ↔ (0 < w ∧ z % w ≠ 0)) → Ev (fun k => whetstoneref02_Ceil.j0 k b (bn 10 (z / w)).1 (bn 10 (z / w)).2) ((bn 10 (cel z w)).1, (bn 10 (cel z w)).2, 0) := by
    intro b hb
    refine Ev.step (fun k => whetstoneref02_Ceil.j0.eq_2 _ _ _ _) (ev_ite (fun e => ?_) (fun e => ?_))
    · rw [if_pos (hb.1 e)] at hf
      refine Ev.bind (r2of (by omega) (by omega)) (Ev.bind (r2add (aq.rp ten2) (a1.rp ten2) (by omega) (by omega)) (ev_ret ?_))
      rw [hf]
    · rw [if_neg (fun g => e (hb.2 g))] at hf
      rw [hf, Int.add_zero]; exact ev_ret rfl
  refine ev_pos rfl (Ev.bind (r2sign k (by omega)) (ev_ite (fun e => Ev.bind (r2sign (ar.rp ten2) (by omega)) (j0 _ ?_)) (fun e => j0 _ ?_)))
  · rw [bne_iff_ne, ne_eq, sn_eq]; exact ⟨fun g => ⟨sn_pos.1 e, g⟩, fun g => g.2⟩
  · exact ⟨fun g => absurd g (by simp), fun g => absurd (sn_pos.2 g.1) e⟩
/-- Does the first divide the second? -/
def dv (z w : Int) : Bool := if z = 0 then decide (w = 0) else decide (w % z = 0)
end BigMore
theorem bquot_end (s t : Bool) (l r : List Int) : Ev (fun k => whetstonelaw02_BigQuotients.j0 k true s l t r) true :=
  Ev.step (fun k => whetstonelaw02_BigQuotients.j0.eq_2 _ _ _ _ _ _) (ev_pos rfl (Ev.bind signed_ev (ev_ret rfl)))
theorem bquot_all {B : Int} (hB : B = 4294967296) {s t : Bool} {l r : List Int} {x y : Int} (hx : Rp B 8 s l x) (hy : Rp B 8 t r y) : Ev (fun k => whetstonelaw02_BigQuotients.j0 k false s l t r) true := by
  have h2 : 2 ≤ B := by omega
  have ax := hx.az h2
  have ay := hy.az h2
  have rx := (ax.ten hB).rp ten2
  have ry := (ay.ten hB).rp ten2
  have ox := of_ev hB hx (by omega)
  have oy := of_ev hB hy (by omega)
  have z0 := same2 hB (Az.zero h2 1) (by omega)
  rw [bn_zero, bn_zero] at z0
  refine Ev.step (fun k => whetstonelaw02_BigQuotients.j0.eq_2 _ _ _ _ _ _) (ev_neg (by simp) ?_)
  refine Ev.bind (big_DivMod.ev hB hx hy (by omega) (by omega)) (Ev.bind ox (Ev.bind oy (Ev.bind (r2div rx ry (by omega) (by omega)) ?_)))
  refine Ev.bind (big_Floor.ev hB hx hy (by omega) (by omega)) (Ev.bind ox (Ev.bind oy (Ev.bind (r2floor rx ry (by omega) (by omega)) ?_)))
  refine Ev.bind (big_Ceil.ev hB hx hy (by omega) (by omega)) (Ev.bind ox (Ev.bind oy (Ev.bind (r2ceil rx ry (by omega) (by omega)) (Ev.bind signed_ev (ev_pos rfl ?_)))))
  by_cases h : y = 0
  · simp only [if_pos h]
    exact Ev.bind z0 (ev_pos (by trivial) (Ev.bind z0 (ev_pos (by trivial) (ev_pos (by trivial) (Ev.bind z0 (ev_pos (by trivial) (ev_pos (by trivial) (Ev.bind z0 (ev_pos (by trivial) (ev_ret rfl))))))))))
  · simp only [if_neg h]
    exact Ev.bind (same2 hB (ediv_small h2 y ax) (by omega)) (ev_pos (by trivial) (Ev.bind (same2 hB (emod_small h2 x h ay) (by omega)) (ev_pos (by trivial) (ev_pos (by trivial) (Ev.bind (same2 hB (flr_small h2 y ax) (by omega)) (ev_pos (by trivial) (ev_pos (by trivial) (Ev.bind (same2 hB (cel_small h2 y ax) (by omega)) (ev_pos (by trivial) (ev_ret rfl))))))))))
/-- whatever the two numbers are, the law's call is true: quotients and rests, rounded each way, of limbs and of digits are the same numbers'. -/
theorem BigQuotients : whetstonelaw02_BigQuotients.Pure := by
  intro s l t r _ d0 _ d1
  refine Ev.rounds (ev_some small_big (ev_ite (fun h0 => ev_some small_big ?_) (fun _ => bquot_end _ _ _ _)))
  by_cases h : (r.length : Int) ≤ 8
  · rw [decide_eq_true h]; exact bquot_all rfl (Dg_ofs d0 (le8 h0) _) (Dg_ofs d1 (by omega) _)
  · rw [decide_eq_false h]; exact bquot_end _ _ _ _
end Go.Proofs.Ytkbefeadmchmbaa.Pure
