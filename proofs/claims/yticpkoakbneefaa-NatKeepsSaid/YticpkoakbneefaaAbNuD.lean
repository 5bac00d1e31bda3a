/-
The walk over the program's texts, told with what its values say: a part of it. No further condition.
-/
import Derived.Test.YticpkoakbneefaaAbLd
namespace Go.Proofs.Yticpkoakbneefaa
open Go.Proofs.Yticpkoakbneefaa.Ab
set_option linter.unusedVariables false
set_option linter.unusedSimpArgs false
/-! Numbers and their limbs, in plain words. -/
def rd (l : List Int) (i : Int) : Int := l.getD i.toNat 0
theorem wrap_u64 (n : Int) : IntKind.u64.wrap n = n % 18446744073709551616 := by simp [IntKind.wrap, IntKind.signed, IntKind.bits]
theorem wrap_u32 (n : Int) : IntKind.u32.wrap n = n % 4294967296 := by simp [IntKind.wrap, IntKind.signed, IntKind.bits]
theorem natT (n : Nat) : ((n : Int)).toNat = n := Int.toNat_natCast n
/-! ### numbers and their places -/
def vl (B : Int) : List Int → Int
  | [] => 0
  | x :: t => x + B * vl B t
def Dg (B : Int) (l : List Int) : Prop := ∀ x ∈ l, 0 ≤ x ∧ x < B
def tr : List Int → List Int
  | [] => []
  | x :: t => if tr t = [] ∧ x = 0 then [] else x :: tr t
def can (B n : Nat) : List Int := if h : n = 0 ∨ B < 2 then [] else ((n % B : Nat) : Int) :: can B (n / B)
termination_by n
decreasing_by exact Nat.div_lt_self (by omega) (by omega)
def cn (B v : Int) : List Int := can B.toNat v.toNat
section Num
variable {B : Int} {l : List Int}
theorem vl_cons (x : Int) (t : List Int) : vl B (x :: t) = x + B * vl B t := rfl
theorem cn_zero {v : Int} (h : v ≤ 0) : cn B v = [] := by
  unfold cn; rw [can, dif_pos (Or.inl (by omega))]
theorem cn_cons {v : Int} (hB : 2 ≤ B) (h : 0 < v) : cn B v = (v % B) :: cn B (v / B) := by
  unfold cn; rw [can, dif_neg (by omega)]
  obtain ⟨b, rfl⟩ := Int.eq_ofNat_of_zero_le (show 0 ≤ B by omega)
  obtain ⟨n, rfl⟩ := Int.eq_ofNat_of_zero_le (show 0 ≤ v by omega)
  rfl
theorem Dg.cons {x : Int} (h : Dg B (x :: l)) : (0 ≤ x ∧ x < B) ∧ Dg B l := ⟨h x (by simp), fun y hy => h y (by simp [hy])⟩
theorem Dg.nil : Dg B [] := fun _ h => by cases h
theorem Dg.app {l' : List Int} (h : Dg B l) (h' : Dg B l') : Dg B (l ++ l') := fun x hx => (List.mem_append.1 hx).elim (h x) (h' x)
theorem Dg.one {x : Int} (h : 0 ≤ x) (h' : x < B) : Dg B [x] := fun y hy => by rw [List.mem_singleton.1 hy]; exact ⟨h, h'⟩
theorem Dg.snoc {x : Int} (hl : Dg B l) (h : 0 ≤ x) (h' : x < B) : Dg B (l ++ [x]) := hl.app (.one h h')
theorem Dg.zeros (hB : 0 < B) (n : Nat) : Dg B (List.replicate n 0) := fun x hx => by rw [List.eq_of_mem_replicate hx]; exact ⟨Int.le_refl _, hB⟩
theorem Dg.take (h : Dg B l) (n : Nat) : Dg B (l.take n) := fun x hx => h x (List.mem_of_mem_take hx)
theorem Dg.drop (h : Dg B l) (n : Nat) : Dg B (l.drop n) := fun x hx => h x (List.mem_of_mem_drop hx)
theorem Dg.place (h : Dg B l) (hB : 0 < B) (i : Int) : 0 ≤ rd l i ∧ rd l i < B := by
  unfold rd
  rcases Nat.lt_or_ge i.toNat l.length with hi | hi
  · rw [List.getD_eq_getElem?_getD, List.getElem?_eq_getElem hi]; exact h _ (List.getElem_mem _)
  · rw [List.getD_eq_getElem?_getD, List.getElem?_eq_none hi]; exact ⟨Int.le_refl _, hB⟩
theorem rd_nat {i : Nat} : rd l (i : Int) = l[i]?.getD 0 := by
  unfold rd; rw [Int.toNat_natCast, List.getD_eq_getElem?_getD]
theorem rd_out {i : Nat} (h : l.length ≤ i) : rd l (i : Int) = 0 := by
  rw [rd_nat, List.getElem?_eq_none h]; rfl
theorem Dg.set (h : Dg B l) {i : Nat} {y : Int} (h0 : 0 ≤ y) (h1 : y < B) : Dg B (l.set i y) := fun x hx => by
  rcases List.mem_or_eq_of_mem_set hx with h2 | rfl
  · exact h x h2
  · exact ⟨h0, h1⟩
theorem vl_nonneg (hB : 0 ≤ B) : ∀ {l : List Int}, Dg B l → 0 ≤ vl B l
  | [], _ => Int.le_refl _
  | x :: t, h => by
    have h1 := h.cons
    have h2 := Int.mul_nonneg hB (vl_nonneg hB h1.2)
    rw [vl_cons]; omega
theorem pow_pos' (hB : 0 < B) (n : Nat) : 0 < B ^ n := Int.pow_pos hB
theorem vl_lt (hB : 0 < B) : ∀ {l : List Int}, Dg B l → vl B l < B ^ l.length
  | [], _ => by simp [vl]
  | x :: t, h => by
    have h1 := h.cons
    have h2 : vl B t + 1 ≤ B ^ t.length := vl_lt hB h1.2
    have h3 := Int.mul_le_mul_of_nonneg_left h2 (show 0 ≤ B by omega)
    rw [vl_cons, List.length_cons, Int.pow_succ]
    grind
theorem vl_app (a b : List Int) : vl B (a ++ b) = vl B a + B ^ a.length * vl B b := by
  induction a with
  | nil => simp [vl]
  | cons x t ih =>
    rw [List.cons_append, vl_cons, vl_cons, ih, List.length_cons, Int.pow_succ]; grind
theorem vl_one (x : Int) : vl B [x] = x := by simp [vl]
theorem vl_snoc (a : List Int) (x : Int) : vl B (a ++ [x]) = vl B a + B ^ a.length * x := by rw [vl_app, vl_one]
theorem vl_zeros (n : Nat) : vl B (List.replicate n 0) = 0 := by
  induction n with
  | zero => rfl
  | succ n ih => rw [List.replicate_succ, vl_cons, ih]; simp
theorem vl_take_succ (l : List Int) : ∀ (i : Nat), vl B (l.take (i + 1)) = vl B (l.take i) + B ^ i * rd l i := by
  induction l with
  | nil => intro i; simp [vl, rd]
  | cons x t ih =>
    intro i
    cases i with
    | zero => simp [vl, rd]
    | succ i =>
      rw [List.take_succ_cons, List.take_succ_cons, vl_cons, vl_cons, ih i, Int.pow_succ]
      have : rd (x :: t) ((i + 1 : Nat) : Int) = rd t i := by rw [rd_nat, rd_nat]; simp
      rw [this]; grind
theorem vl_set : ∀ (l : List Int) (i : Nat) (y : Int), i < l.length → vl B (l.set i y) = vl B l + B ^ i * (y - rd l i) := by
  intro l
  induction l with
  | nil => intro i y h; simp at h
  | cons x t ih =>
    intro i y h
    cases i with
    | zero => rw [List.set_cons_zero, vl_cons, vl_cons]; have : rd (x :: t) ((0 : Nat) : Int) = x := rfl
              rw [this]; simp; omega
    | succ i =>
      rw [List.set_cons_succ, vl_cons, vl_cons, ih i y (by simpa using h), Int.pow_succ]
      have : rd (x :: t) ((i + 1 : Nat) : Int) = rd t i := by rw [rd_nat, rd_nat]; simp
      rw [this]; grind
theorem rd_set (l : List Int) (i j : Nat) (y : Int) (h : i < l.length) : rd (l.set i y) j = if i = j then y else rd l j := by
  rw [rd_nat, rd_nat, List.getElem?_set]
  by_cases e : i = j
  · subst e; simp [h]
  · simp [e]
/-- The place i of a number. -/
theorem vl_split (i : Nat) (l : List Int) : vl B l = vl B (l.take i) + B ^ i * vl B (l.drop i) := by
  rcases Nat.lt_or_ge i l.length with h | h
  · have := vl_app (B := B) (l.take i) (l.drop i)
    rw [List.take_append_drop, List.length_take, Nat.min_eq_left (by omega)] at this
    exact this
  · rw [List.take_of_length_le h, List.drop_eq_nil_of_le h]; simp [vl]
theorem vl_drop {B : Int} {l : List Int} {i : Nat} (h : i < l.length) : vl B (l.drop i) = rd l i + B * vl B (l.drop (i + 1)) := by
  rw [List.drop_eq_getElem_cons h, vl_cons, rd_nat, List.getElem?_eq_getElem h]; rfl
theorem tdiv10 {x y : Int} (h : 0 ≤ x) : Int.tdiv x y = x / y := Int.tdiv_eq_ediv_of_nonneg h
theorem tmod10 {x y : Int} (h : 0 ≤ x) : Int.tmod x y = x % y := Int.tmod_eq_emod_of_nonneg h
theorem tr_vl : ∀ (l : List Int), vl B (tr l) = vl B l
  | [] => rfl
  | x :: t => by
    have ih := tr_vl t
    unfold tr
    split
    · next h => rw [h.1] at ih; rw [vl_cons, ← ih, h.2]; simp [vl]
    · rw [vl_cons, vl_cons, ih]
theorem tr_Dg : ∀ {l : List Int}, Dg B l → Dg B (tr l)
  | [], h => h
  | x :: t, h => by
    have h1 := h.cons
    unfold tr
    split
    · exact .nil
    · intro y hy
      rcases List.mem_cons.1 hy with rfl | hy
      · exact h1.1
      · exact tr_Dg h1.2 y hy
theorem tr_tr : ∀ (l : List Int), tr (tr l) = tr l
  | [] => rfl
  | x :: t => by
    have ih := tr_tr t
    rw [tr]
    split
    · rfl
    · next h => rw [tr, ih, if_neg h]
theorem tr_length : ∀ (l : List Int), (tr l).length ≤ l.length
  | [] => Nat.le_refl _
  | x :: t => by
    have ih := tr_length t
    rw [tr]
    split <;> simp <;> omega
theorem tr_snoc0 : ∀ (l : List Int), tr (l ++ [0]) = tr l
  | [] => by simp [tr]
  | x :: t => by rw [List.cons_append, tr, tr_snoc0 t, ← tr]
theorem tr_snoc {x : Int} (hx : x ≠ 0) : ∀ (l : List Int), tr (l ++ [x]) = l ++ [x]
  | [] => by simp [tr, hx]
  | y :: t => by
    rw [List.cons_append, tr, tr_snoc hx t, if_neg]
    intro h; have := congrArg List.length h.1; simp at this
theorem tr_tail {x : Int} {t : List Int} (h : tr (x :: t) = x :: t) : tr t = t := by
  rw [tr] at h
  split at h
  · cases h
  · injection h
theorem cn_self (hB : 2 ≤ B) : ∀ {l : List Int}, Dg B l → tr l = l → cn B (vl B l) = l
  | [], _, _ => cn_zero (by simp [vl])
  | x :: t, h, ht => by
    have h1 := h.cons
    have h2 := vl_nonneg (by omega) h1.2
    have ht2 := tr_tail ht
    have ih := cn_self hB h1.2 ht2
    have h3 := Int.mul_nonneg (show 0 ≤ B by omega) h2
    have hv : vl B (x :: t) = x + B * vl B t := rfl
    by_cases h0 : vl B (x :: t) = 0
    · exfalso
      have hx : x = 0 := by omega
      have hm : B * vl B t = 0 := by omega
      have hz : vl B t = 0 := by
        rcases Int.mul_eq_zero.1 hm with h | h
        · omega
        · exact h
      rw [hz, cn_zero (Int.le_refl _)] at ih
      rw [← ih, tr, hx] at ht
      simp [tr] at ht
    · rw [cn_cons hB (by omega)]
      have e1 : (x + B * vl B t) % B = x := by rw [Int.add_mul_emod_self_left, Int.emod_eq_of_lt h1.1.1 h1.1.2]
      have e2 : (x + B * vl B t) / B = vl B t := by
        rw [Int.add_mul_ediv_left _ _ (by omega), Int.ediv_eq_zero_of_lt h1.1.1 h1.1.2]; omega
      rw [hv, e1, e2, ih]
theorem tr_cn (hB : 2 ≤ B) (h : Dg B l) : tr l = cn B (vl B l) := by
  rw [← cn_self hB (tr_Dg h) (tr_tr l), tr_vl]
theorem cn_all (hB : 2 ≤ B) : ∀ (n : Nat) (v : Int), v.toNat ≤ n → Dg B (cn B v) ∧ tr (cn B v) = cn B v ∧ (0 ≤ v → vl B (cn B v) = v)
  | 0, v, h => by
    rw [cn_zero (by omega)]
    exact ⟨.nil, rfl, fun _ => by simp [vl]; omega⟩
  | n + 1, v, h => by
    by_cases h0 : v ≤ 0
    · rw [cn_zero h0]
      exact ⟨.nil, rfl, fun _ => by simp [vl]; omega⟩
    · rw [cn_cons hB (by omega)]
      have hq : v / B < v := Int.ediv_lt_of_lt_mul (by omega) (by
        have := Int.mul_lt_mul_of_pos_left (show (1 : Int) < B by omega) (show 0 < v by omega); omega)
      have hq0 : 0 ≤ v / B := Int.ediv_nonneg (by omega) (by omega)
      obtain ⟨i1, i2, i3⟩ := cn_all hB n (v / B) (by omega)
      have hm := Int.emod_add_mul_ediv v B
      have hm0 := Int.emod_nonneg v (show B ≠ 0 by omega)
      have hm1 := Int.emod_lt_of_pos v (show 0 < B by omega)
      refine ⟨fun y hy => ?_, ?_, fun _ => ?_⟩
      · rcases List.mem_cons.1 hy with rfl | hy
        · exact ⟨hm0, hm1⟩
        · exact i1 y hy
      · rw [tr, i2, if_neg]
        intro ⟨h1, h2⟩
        have i3 := i3 hq0
        rw [h1] at i3
        have : vl B [] = 0 := rfl
        rw [this] at i3
        rw [← i3, h2] at hm
        simp at hm
        omega
      · rw [vl_cons, i3 hq0]; exact hm
theorem cn_Dg (hB : 2 ≤ B) (v : Int) : Dg B (cn B v) := (cn_all hB _ v (Nat.le_refl _)).1
theorem cn_tr (hB : 2 ≤ B) (v : Int) : tr (cn B v) = cn B v := (cn_all hB _ v (Nat.le_refl _)).2.1
theorem vl_cn (hB : 2 ≤ B) {v : Int} (h : 0 ≤ v) : vl B (cn B v) = v := (cn_all hB _ v (Nat.le_refl _)).2.2 h
theorem cn_nil (hB : 2 ≤ B) {v : Int} (h : 0 < v) : cn B v ≠ [] := by rw [cn_cons hB h]; simp
theorem cn_length (hB : 2 ≤ B) : ∀ {k : Nat} {v : Int}, v < B ^ k → (cn B v).length ≤ k
  | 0, v, h => by rw [cn_zero (by simp at h; omega)]; simp
  | k + 1, v, h => by
    by_cases h0 : v ≤ 0
    · rw [cn_zero h0]; simp
    · rw [cn_cons hB (by omega), List.length_cons]
      have := cn_length hB (k := k) (v := v / B) (Int.ediv_lt_of_lt_mul (by omega) (by rw [← Int.pow_succ]; exact h))
      omega
theorem rep_set (p : List Int) (m : Nat) (y : Int) : (p ++ List.replicate (m + 1) 0).set p.length y = (p ++ [y]) ++ List.replicate m 0 := by
  rw [List.replicate_succ, List.set_append_right _ _ (Nat.le_refl _)]
  simp
theorem eqc (hB : 2 ≤ B) {a b : List Int} (ha : Dg B a) (hb : Dg B b) (h : vl B a = vl B b) : tr a = tr b := by
  rw [tr_cn hB ha, tr_cn hB hb, h]
end Num

/-! ### limbs: what the program's sums and products are -/
section Limbs
variable {B : Int}
theorem takeS {l : List Int} {n : Nat} (h : n < l.length) : l.take (n + 1) = l.take n ++ [rd l (n : Int)] := by
  rw [rd_nat, List.getElem?_eq_getElem h, List.take_succ_eq_append_getElem h]; rfl
theorem trS {l : List Int} {n : Nat} (h : n < l.length) (h0 : rd l (n : Int) = 0) : tr (l.take n) = tr (l.take (n + 1)) := by
  rw [takeS h, h0, tr_snoc0]
theorem trN {l : List Int} {n : Nat} (h : n < l.length) (h0 : ¬ rd l (n : Int) = 0) : l.take (n + 1) = tr (l.take (n + 1)) := by
  rw [takeS h, tr_snoc h0]
theorem add_step {P V A b x y c : Int} (h : V + P * c = A + b) : V + P * ((x + y + c) % B) + P * B * ((x + y + c) / B) = (A + P * x) + (b + P * y) := by
  have := Int.emod_add_mul_ediv (x + y + c) B
  grind
theorem u64id {x : Int} (h : 0 ≤ x) (h' : x < 18446744073709551616) : IntKind.u64.wrap x = x := by rw [wrap_u64]; omega
theorem pow_le {i j : Nat} (hB : 1 ≤ B) (h : i ≤ j) : B ^ i ≤ B ^ j := by
  obtain ⟨d, rfl⟩ := Nat.le.dest h
  rw [Int.pow_add]
  have h1 := pow_pos' (show 0 < B by omega) i
  have h2 := pow_pos' (show 0 < B by omega) d
  have := Int.mul_le_mul_of_nonneg_left (show 1 ≤ B ^ d by omega) (show 0 ≤ B ^ i by omega)
  omega
end Limbs

/-! ### how many places a number has -/
def Sm (B : Int) (n : Nat) (v : Int) : Prop := 0 ≤ v ∧ v < B ^ n
section Sizes
variable {B : Int}
theorem Sm.of (hB : 2 ≤ B) {l : List Int} {n : Nat} (h : Dg B l) (hl : l.length ≤ n) : Sm B n (vl B l) :=
  ⟨vl_nonneg (by omega) h, by have := vl_lt (show 0 < B by omega) h; have := pow_le (show 1 ≤ B by omega) hl; omega⟩
theorem Sm.add (hB : 2 ≤ B) {n m : Nat} {a b : Int} (ha : Sm B n a) (hb : Sm B m b) : Sm B (n + m + 1) (a + b) := by
  refine ⟨Int.add_nonneg ha.1 hb.1, ?_⟩
  have h1 := pow_le (show 1 ≤ B by omega) (show n ≤ n + m by omega)
  have h2 := pow_le (show 1 ≤ B by omega) (show m ≤ n + m by omega)
  have h3 := pow_pos' (show 0 < B by omega) (n + m)
  have h4 := Int.mul_le_mul_of_nonneg_left hB (show 0 ≤ B ^ (n + m) by omega)
  have := ha.2; have := hb.2
  rw [Int.pow_succ]; omega
theorem Sm.mul (hB : 2 ≤ B) {n m : Nat} {a b : Int} (ha : Sm B n a) (hb : Sm B m b) : Sm B (n + m) (a * b) := by
  refine ⟨Int.mul_nonneg ha.1 hb.1, ?_⟩
  have h1 := Int.mul_le_mul_of_nonneg_right (show a ≤ B ^ n by have := ha.2; omega) hb.1
  have h2 := Int.mul_lt_mul_of_pos_left hb.2 (pow_pos' (show 0 < B by omega) n)
  rw [Int.pow_add]; omega
theorem Sm.len (hB : 2 ≤ B) {n : Nat} {v : Int} (h : Sm B n v) : (cn B v).length ≤ n := cn_length hB h.2
theorem Sm.le (hB : 2 ≤ B) {n m : Nat} {v : Int} (h : Sm B n v) (hm : n ≤ m) : Sm B m v := ⟨h.1, by have := pow_le (show 1 ≤ B by omega) hm; have := h.2; omega⟩
theorem Sm.vl (hB : 2 ≤ B) {n : Nat} {v : Int} (h : Sm B n v) : vl B (cn B v) = v := vl_cn hB h.1
end Sizes
/-! ### limbs: the product -/
section LimbsMul
variable {B : Int}
theorem carry_step {V P T r t c : Int} (h : V + P * c = T) (ht : t = r + c) : V + P * (t % B - r) + P * B * (t / B) = T := by
  have := Int.emod_add_mul_ediv t B
  grind
theorem mul_fits {x y r c : Int} (hx : 0 ≤ x ∧ x < 4294967296) (hy : 0 ≤ y ∧ y < 4294967296) (hr : 0 ≤ r ∧ r < 4294967296) (hc : 0 ≤ c ∧ c < 4294967296) : 0 ≤ x * y ∧ x * y + r + c < 18446744073709551616 := by
  have h1 := Int.mul_nonneg hx.1 hy.1
  have h2 := Int.mul_le_mul_of_nonneg_left (show y ≤ 4294967295 by omega) hx.1
  omega
theorem vl_empty {a : List Int} (h : a.length = 0) : vl B a = 0 := by rw [List.length_eq_zero_iff.1 h]; rfl
end LimbsMul

/-! ### bits of a limb -/
section Bits32
theorem b32 (v : BitVec 32) : IntKind.u32.wrap (v.toNat : Int) = v.toNat := by rw [wrap_u32]; have := v.isLt; omega
theorem b64 (v : BitVec 64) : IntKind.u64.wrap (v.toNat : Int) = v.toNat := by rw [wrap_u64]; have := v.isLt; omega
theorem ofN64 {x : Int} (h : 0 ≤ x) (h' : x < 18446744073709551616) : ((BitVec.ofInt 64 x).toNat : Int) = x := by
  rw [BitVec.toNat_ofInt]; omega
end Bits32

/-! ### bits of a limb: the borrow -/
section Bits32b
theorem ofb32 (v : BitVec 32) : BitVec.ofInt 32 (v.toNat : Int) = v := by
  rw [BitVec.ofInt_natCast]; simp
theorem ofN32 {x : Int} (h : 0 ≤ x) (h' : x < 4294967296) : ((BitVec.ofInt 32 x).toNat : Int) = x := by
  rw [BitVec.toNat_ofInt]; omega
theorem top32 (v : BitVec 32) : (v.toNat : Int) / 2147483648 = if v.msb then 1 else 0 := by
  have h := v.isLt
  rw [BitVec.msb_eq_decide]
  by_cases hv : 2147483648 ≤ v.toNat
  · rw [decide_eq_true hv]; simp only [if_true]; omega
  · rw [decide_eq_false hv]; simp only [Bool.false_eq_true, if_false]; omega
theorem msb32 {x : Int} (h : 0 ≤ x) (h' : x < 4294967296) : (BitVec.ofInt 32 x).msb = decide (2147483648 ≤ x) := by
  have := ofN32 h h'
  rw [BitVec.msb_eq_decide]
  by_cases hv : 2147483648 ≤ x
  · rw [decide_eq_true hv, decide_eq_true (show 2 ^ (32 - 1) ≤ (BitVec.ofInt 32 x).toNat by omega)]
  · rw [decide_eq_false hv, decide_eq_false (show ¬ 2 ^ (32 - 1) ≤ (BitVec.ofInt 32 x).toNat by omega)]
end Bits32b

/-! ### limbs: shifting -/
section NatLeft
theorem pow2_nat (n : Nat) : (2 : Int) ^ n = ((2 ^ n : Nat) : Int) := by simp
theorem shift_low {x : Int} {n : Nat} (hn : n < 32) : x * 2 ^ n % 4294967296 % 2 ^ n = 0 := by
  have : (4294967296 : Int) = 2 ^ (32 - n) * 2 ^ n := by
    rw [← Int.pow_add, Nat.sub_add_cancel (by omega)]; rfl
  rw [Int.emod_emod_of_dvd _ ⟨2 ^ (32 - n), by rw [Int.mul_comm]; exact this⟩, Int.mul_emod_left]
theorem left_step {V P c T x S : Int} (B : Int) (h : V + P * c = T * S) : V + P * (c + x * S % B) + P * B * (x * S / B) = (T + P * x) * S := by
  have := Int.emod_add_mul_ediv (x * S) B
  grind
end NatLeft

/-! ### limbs: the long division -/
section NatRight
theorem ediv_pow_succ {B v : Int} (hB : 0 < B) (i : Nat) : v / B ^ (i + 1) = v / B ^ i / B := by
  rw [Int.pow_succ, Int.ediv_ediv_of_nonneg (by have := pow_pos' hB i; omega)]
theorem mod_pow_succ {B v : Int} (hB : 0 < B) (i : Nat) : v % B ^ (i + 1) = v % B ^ i + B ^ i * (v / B ^ i % B) := by
  have h1 := Int.emod_add_mul_ediv v (B ^ (i + 1))
  have h2 := Int.emod_add_mul_ediv v (B ^ i)
  have h3 := Int.emod_add_mul_ediv (v / B ^ i) B
  rw [ediv_pow_succ hB] at h1
  rw [Int.pow_succ] at h1 ⊢
  generalize v / B ^ i / B = q at *
  generalize v / B ^ i % B = r at *
  generalize v % B ^ i = s at *
  generalize v % (B ^ i * B) = t at *
  generalize v / B ^ i = w at *
  generalize B ^ i = P at *
  grind
theorem drop_div {B : Int} (hB : 0 < B) {l : List Int} (h : Dg B l) (i : Nat) : vl B l / B ^ i = vl B (l.drop i) := by
  have h1 := vl_split (B := B) i l
  have h2 := vl_nonneg (show 0 ≤ B by omega) (h.take i)
  have h3 := vl_lt hB (h.take i)
  have h4 := pow_le (show 1 ≤ B by omega) (show (l.take i).length ≤ i by simp; omega)
  have hp := pow_pos' hB i
  rw [h1, Int.add_mul_ediv_left _ _ (by omega), Int.ediv_eq_zero_of_lt h2 (by omega)]; omega
theorem pow_split {n m : Nat} (h : n ≤ m) : (2 : Int) ^ m = 2 ^ (m - n) * 2 ^ n := by
  rw [← Int.pow_add, Nat.sub_add_cancel h]
theorem right_limb {B : Int} (hB : B = 4294967296) {n : Nat} (hn : n < 32) {a : List Int} (da : Dg B a) {i : Nat} (hi : i < a.length) : vl B a / 2 ^ n / B ^ i % B = (rd a i + rd a ((i + 1 : Nat) : Int) * B) / 2 ^ n % B := by
  have hp0 := pow_pos' (show (0 : Int) < 2 by omega) n
  have hpB := pow_pos' (show 0 < B by omega) i
  have e1 : vl B a / 2 ^ n / B ^ i = vl B (a.drop i) / 2 ^ n := by
    rw [Int.ediv_ediv_of_nonneg (by omega), Int.mul_comm, ← Int.ediv_ediv_of_nonneg (by omega), drop_div (by omega) da]
  have hr : vl B (a.drop (i + 1)) = rd a ((i + 1 : Nat) : Int) + B * vl B (a.drop (i + 1 + 1)) := by
    rcases Nat.lt_or_ge (i + 1) a.length with h | h
    · exact vl_drop h
    · rw [rd_out h, List.drop_eq_nil_of_le h, List.drop_eq_nil_of_le (by omega)]; simp [vl]
  have e2 : (2 : Int) ^ 64 = 2 ^ n * (2 ^ (32 - n) * B) := by
    have : (2 : Int) ^ 64 = 2 ^ 32 * B := by rw [hB]; decide
    rw [this, pow_split (show n ≤ 32 by omega)]; grind
  have e3 : B * B = 2 ^ n * (2 ^ (32 - n) * B) := by rw [← e2, hB]; decide
  rw [e1, vl_drop hi, hr]
  generalize rd a ((i + 1 : Nat) : Int) = y
  generalize rd a (i : Int) = x
  generalize vl B (a.drop (i + 1 + 1)) = z
  have e4 : x + B * (y + B * z) = (x + y * B) + 2 ^ n * (2 ^ (32 - n) * B * z) := by
    have : 2 ^ n * (2 ^ (32 - n) * B * z) = B * B * z := by rw [e3]; grind
    rw [this]; grind
  rw [e4, Int.add_mul_ediv_left _ _ (by omega), show (2 : Int) ^ (32 - n) * B * z = B * (2 ^ (32 - n) * z) by grind, Int.add_mul_emod_self_left]
end NatRight

/-! ### limbs: dividing by one limb, shifting -/
section NatShort
end NatShort

/-! ### limbs: the quotient's limb -/
section NatGuess
variable {B : Int}
theorem gs1 {q r v1 t : Int} (e : q * v1 + r = t) : (q - 1) * v1 + (r + v1) = t := by rw [← e]; grind
theorem gs2 {q r v1 v2 t u2 : Int} (e : q * v1 + r = t) (h : q * v2 > r * B + u2) : (q - 1 + 1) * (v1 * B + v2) > t * B + u2 := by
  rw [← e]
  have : (q - 1 + 1) * (v1 * B + v2) = (q * v1) * B + q * v2 := by grind
  rw [this, Int.add_mul]; omega
theorem gs3 {q r v1 u0 u1 : Int} (hB : 0 ≤ B) (e : (q - 1) * v1 + (r + v1) = u0 * B + u1) (h1 : u1 < B) (h01 : u0 ≤ v1) (hv : 0 ≤ v1) (hb : r + v1 ≥ B) : q - 1 < B := by
  rcases (show q - 1 < B ∨ B ≤ q - 1 by omega) with h | h
  · exact h
  · exfalso
    have k1 := Int.mul_le_mul_of_nonneg_right h hv
    have k2 := Int.mul_le_mul_of_nonneg_right h01 hB
    rw [Int.mul_comm B v1] at k1
    omega
theorem gs4 {q r v1 v2 t u2 : Int} (e : (q - 1) * v1 + (r + v1) = t) (hB : 0 < B) (hq : q - 1 < B) (h2 : 0 ≤ v2 ∧ v2 < B) (h3 : 0 ≤ u2) (hb : r + v1 ≥ B) : (q - 1) * (v1 * B + v2) ≤ t * B + u2 := by
  rw [← e]
  have k1 : (q - 1) * v2 ≤ (B - 1) * v2 := Int.mul_le_mul_of_nonneg_right (by omega) (by omega)
  have k2 : (B - 1) * v2 ≤ (B - 1) * B := Int.mul_le_mul_of_nonneg_left (by omega) (by omega)
  have k3 : B * B ≤ (r + v1) * B := Int.mul_le_mul_of_nonneg_right hb (by omega)
  have k4 : (B - 1) * B ≤ B * B := Int.mul_le_mul_of_nonneg_right (by omega) (by omega)
  have : (q - 1) * (v1 * B + v2) = (q - 1) * v1 * B + (q - 1) * v2 := by grind
  rw [this, Int.add_mul]; omega
theorem gs5 {q r v1 v2 t u2 : Int} (e : q * v1 + r = t) (h : q * v2 ≤ r * B + u2) : q * (v1 * B + v2) ≤ t * B + u2 := by
  rw [← e]
  have : q * (v1 * B + v2) = q * v1 * B + q * v2 := by grind
  rw [this, Int.add_mul]; omega
theorem gs6 (hB : B = 4294967296) {q v2 : Int} (h0 : 0 ≤ q) (h1 : q < B) (h2 : 0 ≤ v2 ∧ v2 < B) : 0 ≤ q * v2 ∧ q * v2 < 18446744073709551616 := by
  have k1 : q * v2 ≤ (B - 1) * v2 := Int.mul_le_mul_of_nonneg_right (by omega) (by omega)
  have k2 : (B - 1) * v2 ≤ (B - 1) * B := Int.mul_le_mul_of_nonneg_left (by omega) (by omega)
  have k3 := Int.mul_nonneg h0 h2.1
  subst hB
  omega
theorem gs7 {q r v2 u2 : Int} (hB : 0 ≤ B) (h0 : 0 ≤ q) (hr : 0 ≤ r) (hu : 0 ≤ u2) (h : q * v2 > r * B + u2) : 1 ≤ q := by
  rcases (show q = 0 ∨ 1 ≤ q by omega) with e | e
  · subst e
    have := Int.mul_nonneg hr hB
    rw [Int.zero_mul] at h; omega
  · exact e
theorem nat_pred {q : Int} {m : Nat} (h : 1 ≤ q) (hm : q.toNat ≤ m + 1) : (q - 1).toNat ≤ m := by omega
theorem gs8 {t v1 v2 u2 : Int} (hB : 0 ≤ B) (h1 : 0 < v1) (ht : 0 ≤ t) (h2 : 0 ≤ v2) (hu : u2 < B) : (t / v1 + 1) * (v1 * B + v2) > t * B + u2 := by
  have hm := Int.emod_add_mul_ediv t v1
  have hm1 := Int.emod_lt_of_pos t h1
  have hq0 : 0 ≤ t / v1 := Int.ediv_nonneg ht (by omega)
  have k1 : t + 1 ≤ (t / v1 + 1) * v1 := by rw [Int.add_mul, Int.mul_comm (t / v1)]; omega
  have k2 := Int.mul_le_mul_of_nonneg_right k1 hB
  have k3 : 0 ≤ (t / v1 + 1) * v2 := Int.mul_nonneg (by omega) h2
  have : (t / v1 + 1) * (v1 * B + v2) = (t / v1 + 1) * v1 * B + (t / v1 + 1) * v2 := by grind
  rw [this]
  rw [Int.add_mul] at k2
  omega
theorem two_limbs {x y : Int} (hB : 0 < B) (hx : x < B) (hy : y < B) : x * B + y < B * B := by
  have := Int.mul_le_mul_of_nonneg_right (show x ≤ B - 1 by omega) (show 0 ≤ B by omega)
  rw [Int.sub_mul] at this; omega
end NatGuess

/-! ### limbs: the long division -/
section NatLong
variable {B : Int}
/-- A statement that omega does not read. -/
structure Hid (p : Prop) : Prop where
  out : p
theorem lower_step {V T P q b bo ca y r t u' bo' ca' m : Int} (h : V - P * (bo + ca) = T - q * b) (ht : t = q * y + ca) (hm : m + B * ca' = t) (hd : u' - B * bo' = r - m - bo) : V + P * (u' - r) - P * B * (bo' + ca') = T - q * (b + P * y) := by grind
theorem lower_limb (hB : B = 4294967296) {q y ca : Int} (hq : 0 ≤ q ∧ q < B) (hy : 0 ≤ y ∧ y < B) (hc : 0 ≤ ca ∧ ca < B) : (0 ≤ q * y ∧ q * y + ca < 18446744073709551616) ∧ 0 ≤ (q * y + ca) / B ∧ (q * y + ca) / B < B := by
  have k1 : q * y ≤ (B - 1) * y := Int.mul_le_mul_of_nonneg_right (by omega) (by omega)
  have k2 : (B - 1) * y ≤ (B - 1) * (B - 1) := Int.mul_le_mul_of_nonneg_left (by omega) (by omega)
  have k3 := Int.mul_nonneg hq.1 hy.1
  subst hB
  refine ⟨⟨k3, by omega⟩, by omega, by omega⟩
theorem lower_diff {r m b : Int} (hr : 0 ≤ r ∧ r < 4294967296) (hm : 0 ≤ m ∧ m < 4294967296) (hb : 0 ≤ b ∧ b ≤ 1) : ∃ u' b', Hid (IntKind.u64.wrap (IntKind.u64.wrap (r - m) - b) % 4294967296 = u') ∧ Hid (IntKind.u64.wrap (IntKind.u64.wrap (r - m) - b) / 9223372036854775808 = b') ∧ u' - 4294967296 * b' = r - m - b ∧ (0 ≤ u' ∧ u' < 4294967296) ∧ 0 ≤ b' ∧ b' ≤ 1 := by
  refine ⟨_, _, ⟨rfl⟩, ⟨rfl⟩, ?_⟩
  rw [wrap_u64, wrap_u64]
  omega
theorem half_limb (hB : B = 4294967296) {x y c : Int} (hx : 0 ≤ x ∧ x < B) (hy : 0 ≤ y ∧ y < B) (hc : 0 ≤ c ∧ c ≤ 1) : 0 ≤ (x + y + c) / B ∧ (x + y + c) / B ≤ 1 := by subst hB; omega
end NatLong

/-! ### limbs: quotient and rest -/
section NatDivMod
variable {B : Int}
theorem high_zero (hB : 0 < B) {l : List Int} (h : Dg B l) {m : Nat} (hv : vl B l < B ^ m) : vl B (l.drop m) = 0 := by
  have h1 := vl_split (B := B) m l
  have h2 := vl_nonneg (Int.le_of_lt hB) (h.take m)
  have h3 := vl_nonneg (Int.le_of_lt hB) (h.drop m)
  have hp := pow_pos' hB m
  rcases (show vl B (l.drop m) = 0 ∨ 1 ≤ vl B (l.drop m) by omega) with e | e
  · exact e
  · have := Int.mul_le_mul_of_nonneg_left e (Int.le_of_lt hp); omega
theorem low_all (hB : 0 < B) {l : List Int} (h : Dg B l) {m : Nat} (hv : vl B (l.drop m) = 0) : 0 ≤ vl B l ∧ vl B l < B ^ m := by
  have h1 := vl_split (B := B) m l
  rw [hv] at h1
  have h2 := vl_nonneg (Int.le_of_lt hB) (h.take m)
  have h3 := vl_lt hB (h.take m)
  have h4 := pow_le (show 1 ≤ B by omega) (show (l.take m).length ≤ m by simp; omega)
  omega
theorem claimA {U V P Q U3 v1 v2 lo lo' x : Int} (hB : 0 < B) (hP : 0 < P) (hQ : 0 < Q) (hU : U = lo + P * Q * U3) (hlo : 0 ≤ lo) (hV : V = lo' + Q * (v1 * B + v2)) (hlo0 : 0 ≤ lo') (hlo' : lo' < Q) (hv1 : 1 ≤ v1) (hv2 : 0 ≤ v2) (hx : 0 ≤ x) (hxB : x < B) (h : x * (v1 * B + v2) ≤ U3) : x * (P * V) < U + P * V := by
  have k1 : x * lo' ≤ B * lo' := Int.mul_le_mul_of_nonneg_right (by omega) hlo0
  have k2 : B * lo' < B * Q := Int.mul_lt_mul_of_pos_left hlo' hB
  have k3 : B * Q ≤ v1 * (B * Q) := by
    have := Int.mul_le_mul_of_nonneg_right hv1 (Int.le_of_lt (Int.mul_pos hB hQ))
    omega
  have k4 : 0 ≤ Q * v2 := Int.mul_nonneg (Int.le_of_lt hQ) hv2
  have k5 : x * lo' < V := by
    have : V = lo' + v1 * (B * Q) + Q * v2 := by rw [hV]; grind
    omega
  have k6 : P * (x * lo') < P * V := Int.mul_lt_mul_of_pos_left k5 hP
  have k7 := Int.mul_le_mul_of_nonneg_left h (Int.le_of_lt (Int.mul_pos hP hQ))
  have k8 : x * (P * V) = P * (x * lo') + P * Q * (x * (v1 * B + v2)) := by rw [hV]; grind
  omega
theorem claimB {U V P Q U3 v1 v2 lo lo' x : Int} (hP : 0 < P) (hQ : 0 < Q) (hU : U = lo + P * Q * U3) (hlo : lo < P * Q) (hV : V = lo' + Q * (v1 * B + v2)) (hlo0 : 0 ≤ lo') (hx : 0 ≤ x) (hV0 : 0 < V) (hUV : U < V * (P * B)) (h : (x + 1) * (v1 * B + v2) > U3 ∨ x + 1 ≥ B) : U < x * (P * V) + P * V := by
  rcases h with h | h
  · have k1 := Int.mul_le_mul_of_nonneg_left (show U3 + 1 ≤ (x + 1) * (v1 * B + v2) by omega) (Int.le_of_lt (Int.mul_pos hP hQ))
    have k2 : 0 ≤ P * ((x + 1) * lo') := Int.mul_nonneg (Int.le_of_lt hP) (Int.mul_nonneg (by omega) hlo0)
    have k3 : x * (P * V) + P * V = P * ((x + 1) * lo') + P * Q * ((x + 1) * (v1 * B + v2)) := by rw [hV]; grind
    rw [Int.mul_add, Int.mul_one] at k1
    omega
  · have k1 := Int.mul_le_mul_of_nonneg_right h (Int.le_of_lt (Int.mul_pos hP hV0))
    have k2 : V * (P * B) = B * (P * V) := by grind
    rw [Int.add_mul, Int.one_mul] at k1
    omega
theorem claimC {U V P Q u0 v1 v2 lo' R : Int} (hB : 0 < B) (hP : 0 < P) (hQ : 0 < Q) (hU : P * Q * B * B * u0 ≤ U) (hV : V = lo' + Q * (v1 * B + v2)) (hlo' : lo' < Q) (hv2 : v2 < B) (hUV : U < V * (P * B)) : u0 ≤ v1 := by
  rcases (show u0 ≤ v1 ∨ v1 + 1 ≤ u0 by omega) with h | h
  · exact h
  · exfalso
    have k0 : 0 < P * Q * B * B := Int.mul_pos (Int.mul_pos (Int.mul_pos hP hQ) hB) hB
    have k1 := Int.mul_le_mul_of_nonneg_left h (Int.le_of_lt k0)
    have k2 : Q * (v2 + 1) ≤ Q * B := Int.mul_le_mul_of_nonneg_left (by omega) (Int.le_of_lt hQ)
    have k3 : V ≤ Q * B * (v1 + 1) := by
      have : Q * (v1 * B + v2) = Q * B * v1 + Q * v2 := by grind
      rw [Int.mul_add, Int.mul_one] at k2
      rw [Int.mul_add, Int.mul_one]
      omega
    have k4 := Int.mul_le_mul_of_nonneg_right k3 (Int.le_of_lt (Int.mul_pos hP hB))
    have k5 : Q * B * (v1 + 1) * (P * B) = P * Q * B * B * (v1 + 1) := by grind
    omega
theorem top3 (hB : 0 < B) {l : List Int} (h : Dg B l) {m : Nat} (hm : m + 2 < l.length) (hz : vl B (l.drop (m + 3)) = 0) : ∃ lo, 0 ≤ lo ∧ lo < B ^ m ∧ vl B l = lo + B ^ m * ((rd l ((m + 2 : Nat) : Int) * B + rd l ((m + 1 : Nat) : Int)) * B + rd l (m : Int)) := by
  have h1 := vl_split (B := B) m l
  have h2 := vl_nonneg (Int.le_of_lt hB) (h.take m)
  have h3 := vl_lt hB (h.take m)
  rw [List.length_take, Nat.min_eq_left (by omega)] at h3
  refine ⟨_, h2, h3, ?_⟩
  rw [vl_drop (show m < l.length by omega), vl_drop (show m + 1 < l.length by omega), vl_drop (show m + 1 + 1 < l.length by omega), hz] at h1
  rw [h1]
  generalize rd l ((m + 2 : Nat) : Int) = x
  generalize rd l ((m + 1 : Nat) : Int) = y
  generalize rd l (m : Int) = z
  grind
theorem top2 (hB : 0 < B) {l : List Int} (h : Dg B l) {m : Nat} (hm : m + 2 = l.length) : ∃ lo, 0 ≤ lo ∧ lo < B ^ m ∧ vl B l = lo + B ^ m * (rd l ((m + 1 : Nat) : Int) * B + rd l (m : Int)) := by
  have h1 := vl_split (B := B) m l
  have h2 := vl_nonneg (Int.le_of_lt hB) (h.take m)
  have h3 := vl_lt hB (h.take m)
  rw [List.length_take, Nat.min_eq_left (by omega)] at h3
  refine ⟨_, h2, h3, ?_⟩
  rw [vl_drop (show m < l.length by omega), vl_drop (show m + 1 < l.length by omega), List.drop_eq_nil_of_le (show l.length ≤ m + 1 + 1 by omega)] at h1
  rw [h1, show vl B [] = 0 from rfl]
  generalize rd l ((m + 1 : Nat) : Int) = y
  generalize rd l (m : Int) = z
  grind
end NatDivMod

-- dropped: Dg_of add32 and32 and64 borrow32 counted_ev div_round guess_ev guess_idx guess_l0 join64 join64' low32 lower_ev lower_l0 nat_Add.ev nat_Add.j0_ev nat_Add.l0_ev nat_Mul.ev nat_Mul.l0_ev nat_Norm.ev nat_Norm.l0_ev nat_addTo.ev nat_addTo.l0_ev nat_addTo.l1_ev nat_left.ev nat_left.l0_ev nat_right.ev nat_right.l0_ev nat_short.ev nat_trim.ev nat_trim.l0_ev or32 or32_disj or64 pred raise_ev raise_l0 short_run shr_id suc words_ev words_l0 xor32
end Go.Proofs.Yticpkoakbneefaa
namespace Go.Proofs.Yticpkoakbneefaa
open Go.Proofs.Yticpkoakbneefaa.Ab
set_option linter.unusedVariables false
set_option linter.unusedSimpArgs false
attribute [local simp] Gr.refl Gr.new Gr.set Gr.kill Nat.add_assoc r_cks chk wantG
variable {E : En Try.prog}
def nE (x : Int) : List V := [.int .u32 x]
/-- It reads as these limbs. -/
def Nm (σ : St) (v : V) (l : List Int) : Prop := Rd σ 1 v (l.map nE)
section
variable {σ σ' σ0 : St} {v : V} {l : List Int}
theorem Nm.len (h : Nm σ v l) : lenV v = some (.int .i64 l.length) := by simpa using Rd.len h
theorem Nm.at (h : Nm σ v l) {k : IntKind} {i : Nat} (hi : i < l.length) : iaV σ 1 v (.int k i) = some (elA v i) := Rd.at h (by simpa using hi)
theorem Nm.ld (h : Nm σ v l) {i : Nat} (hi : i < l.length) : ldV σ (elA v i) = some (.int .u32 (rd l i)) := by
  have h1 : l[i]? = some (rd l i) := by rw [rd_nat, List.getElem?_eq_getElem hi]; rfl
  have := Rd.el h (i := i) (e := nE (rd l i)) (by rw [List.getElem?_map, h1]; rfl)
  simpa [nE] using this
theorem Nm.cutTo (h : Nm σ v l) {n : Nat} (hn : n ≤ l.length) : Nm σ (cutV v 0 n) (l.take n) := by
  have := Rd.cut h (a := 0) (b := n) (Nat.zero_le _) (by simpa using hn)
  simpa [Nm, List.map_take] using this
theorem Nm.gr (h : Nm σ v l) (g : Gr σ σ') (ho : v.old σ) : Nm σ' v l := Rd.gr h g ho
/-- New memory that reads as these limbs. -/
def isl : V → Bool
  | .islc _ _ => true
  | _ => false
structure New (σ0 σ : St) (v : V) (l : List Int) : Prop where
  rd : Nm σ v l
  gr : Gr σ0 σ
  lo : ∀ k, v.row = some k → σ0.n ≤ k ∧ k < σ.n
  wr : isl v = false
theorem New.old (h : New σ0 σ v l) : v.old σ := fun p off len e => (h.lo p (by rw [e]; rfl)).2
theorem New.step (h : New σ0 σ v l) (g : Gr σ σ') : New σ0 σ' v l := ⟨h.rd.gr g h.old, h.gr.trans g, fun k hk => ⟨(h.lo k hk).1, Nat.lt_of_lt_of_le (h.lo k hk).2 g.n⟩, h.wr⟩
theorem New.base {σ1 : St} (h : New σ1 σ v l) (g : Gr σ0 σ1) : New σ0 σ v l := ⟨h.rd, g.trans h.gr, fun k hk => ⟨Nat.le_trans g.n (h.lo k hk).1, (h.lo k hk).2⟩, h.wr⟩
theorem cut_row {v : V} {a b : Nat} : (cutV v a b).row = v.row := by cases v <;> rfl
theorem cut_isl {v : V} {a b : Nat} : isl (cutV v a b) = isl v := by cases v <;> rfl
theorem New.cutTo (h : New σ0 σ v l) {n : Nat} (hn : n ≤ l.length) : New σ0 σ (cutV v 0 n) (l.take n) := ⟨h.rd.cutTo hn, h.gr, fun k hk => h.lo k (by rwa [cut_row] at hk), by rw [cut_isl]; exact h.wr⟩
end
theorem tr_take : ∀ (l : List Int), tr l = l.take (tr l).length
  | [] => rfl
  | x :: t => by
    unfold tr
    split
    · rfl
    · rw [List.length_cons, List.take_succ_cons, ← tr_take t]
theorem trim_loop {σ : St} {v : V} {l : List Int} (hv : Nm σ v l) (hl : l.length < 2 ^ 40) {x : D} (hx : ∀ (f : Fr) (n : Nat), f.ds = [] → f.env 0 = v → f.env 3 = .int .i64 n → n ≤ l.length → run E false [.t 2] [.d x] f σ = some (.ret (cutV v 0 n), σ)) {B : D} (hB : B = b13_0) :
    ∀ (n : Nat) (f : Fr), n ≤ l.length → f.ds = [] → f.env 0 = v → f.env 3 = .int .i64 n → run E false [.t 2] (.d (.loop [0, 3] B) :: .blk 0 :: [.d x]) f σ = some (.ret (cutV v 0 (tr (l.take n)).length), σ)
  | 0, f, hn, hd, e0, e3 => by
    rw [r_loopU hB]
    simp [b13_0, hd, e0, e3, tr]
    exact hx _ 0 (by simp) (by simp) (by simp) (by omega)
  | n + 1, f, hn, hd, e0, e3 => by
    rw [r_loopU hB]
    have hw : IntKind.i64.wrap (((n + 1 : Nat) : Int) - 1) = (n : Int) := by rw [IntWalk.i64_in _ (by omega)]; omega
    have hp : 0 < n + 1 := by omega
    have ld := hv.ld (i := n) (by omega)
    have hit := hv.at (k := .i64) (i := n) (by omega)
    obtain ⟨m, hm⟩ : ∃ m, m = n + 1 := ⟨_, rfl⟩
    rw [← hm] at hw e3 hp
    by_cases h0 : rd l n = 0
    · have ih := fun f => trim_loop hv hl hx hB n f (by omega)
      rw [← trS (by omega) h0]
      simp [b13_0, hd, e0, e3, hp, hw, hit, ld, eq_true h0]
      exact ih _ (by simp) (by simp) (by simp)
    · rw [← trN (by omega) h0]
      simp [b13_0, hd, e0, e3, hp, hw, hit, ld, h0]
      rw [hx _ m (by simp) (by simp) (by simp) (by omega), ← hm, Nat.min_eq_left (by omega)]
theorem trim_ev (hT : E.T = T) {σ : St} {v : V} {l : List Int} (hv : Nm σ v l) (hl : l.length < 2 ^ 40) : ev E 13 [v] σ = some (.ret (cutV v 0 (tr l).length), σ) := by
  refine ev_raw (fd := f13) (by rw [hT]; rfl) (by simp [f13]) rfl ?_
  have k := fun f => trim_loop (E := E) (B := b13_0) hv hl (x := .kb [0, 3] (.seq (.reg [⟨some 18, none, .mv (.t 0)⟩, ⟨some 19, none, .mv (.t 3)⟩, ⟨some 20, none, .lsl 1 (.t 18) none (some (.t 19))⟩, ⟨some 2, none, .mv (.t 20)⟩]) .ret)) (fun f n hd e0 e3 hn => by
    have hcut : ∀ env (hi : Opd), hi.ev env = .int .i64 n → lslV env σ 1 v none (some hi) = some (cutV v 0 n) := fun env hi h => Rd.lsl hv (a := 0) (b := n) rfl (by simp [bound, h]) (Nat.zero_le _) (by simpa using hn)
    simp [hd, e0, e3, hcut]) rfl l.length f (Nat.le_refl _)
  rw [List.take_length] at k
  simp [f13, d13, hv.len]
  exact k _ (by simp) (by simp) (by simp)
theorem trim_nm {σ : St} {v : V} {l : List Int} (hv : Nm σ v l) : Nm σ (cutV v 0 (tr l).length) (tr l) := by
  have := hv.cutTo (tr_length l)
  rwa [← tr_take] at this
theorem New.trim {σ0 σ : St} {v : V} {l : List Int} (h : New σ0 σ v l) : New σ0 σ (cutV v 0 (tr l).length) (tr l) := by
  have := h.cutTo (tr_length l)
  rwa [← tr_take] at this
/-- Norm: as trim, in new memory. -/
theorem norm_loop {σ : St} {v : V} {l : List Int} (hv : Nm σ v l) (hl : l.length < 2 ^ 40) {x : D} {C : Option (CO × St) → Prop} (hx : ∀ (f : Fr) (n : Nat), f.ds = [] → f.env 0 = v → f.env 3 = .int .i64 n → n = (tr l).length → C (run E false [.t 2] [.d x] f σ)) {B : D} (hB : B = b7_0) :
    ∀ (n : Nat) (f : Fr), n ≤ l.length → tr (l.take n) = tr l → f.ds = [] → f.env 0 = v → f.env 3 = .int .i64 n → C (run E false [.t 2] (.d (.loop [0, 3] B) :: .blk 0 :: [.d x]) f σ)
  | 0, f, hn, ht, hd, e0, e3 => by
    rw [r_loopU hB]
    simp [b7_0, hd, e0, e3]
    exact hx _ 0 (by simp) (by simp) (by simp) (by rw [← ht]; simp [tr])
  | n + 1, f, hn, ht, hd, e0, e3 => by
    rw [r_loopU hB]
    have hw : IntKind.i64.wrap (((n + 1 : Nat) : Int) - 1) = (n : Int) := by rw [IntWalk.i64_in _ (by omega)]; omega
    have hp : 0 < n + 1 := by omega
    have ld := hv.ld (i := n) (by omega)
    have hit := hv.at (k := .i64) (i := n) (by omega)
    obtain ⟨m, hm⟩ : ∃ m, m = n + 1 := ⟨_, rfl⟩
    rw [← hm] at hw e3 hp
    by_cases h0 : rd l n = 0
    · have ih := fun f => norm_loop hv hl hx hB n f (by omega) (by rw [trS (by omega) h0]; exact ht)
      simp [b7_0, hd, e0, e3, hp, hw, hit, ld, eq_true h0]
      exact ih _ (by simp) (by simp) (by simp)
    · simp [b7_0, hd, e0, e3, hp, hw, hit, ld, h0]
      exact hx _ m (by simp) (by simp) (by simp) (by rw [← ht, ← trN (by omega) h0, List.length_take]; omega)
theorem norm_ev (hT : E.T = T) {σ : St} {v : V} {l : List Int} (hv : Nm σ v l) (hl : l.length < 2 ^ 40) : ∃ u τ, ev E 7 [v] σ = some (.ret u, τ) ∧ New σ τ u (tr l) := by
  suffices h : ∃ u τ, run E false f7.res [.d f7.body] ⟨envOf [v], []⟩ σ = some (.ret u, τ) ∧ New σ τ u (tr l) by
    obtain ⟨u, τ, h, k⟩ := h
    exact ⟨u, τ, ev_raw (fd := f7) (by rw [hT]; rfl) (by simp [f7]) rfl h, k⟩
  have htl := tr_length l
  obtain ⟨n, hn⟩ : ∃ n, n = (tr l).length := ⟨_, rfl⟩
  have hnm := trim_nm hv
  rw [← hn] at hnm htl
  obtain ⟨u, τ, a1, a2, _⟩ := (Own.nils σ 1).appA (y := cutV v 0 n) (ys := (tr l).map nE) (srcOf_rd hnm) (bytes := 4) (by simp [reach]; omega) (by simp [reach]; omega)
  have a2' : Own σ τ 1 u ((tr l).map nE) := by simpa using a2
  have hcut : ∀ env (hi : Opd), hi.ev env = .int .i64 n → lslV env σ 1 v none (some hi) = some (cutV v 0 n) := fun env hi h => Rd.lsl hv (a := 0) (b := n) rfl (by simp [bound, h]) (Nat.zero_le _) (by simpa using htl)
  simp [f7, d7, hv.len]
  refine norm_loop hv hl (C := fun r => ∃ u τ, r = some (CO.ret u, τ) ∧ New σ τ u (tr l)) ?_ rfl l.length _ (Nat.le_refl _) (by rw [List.take_length]) (by simp) (by simp) (by simp)
  intro f k hd e0 e3 hk
  have : k = n := by rw [hk, hn]
  subst this
  exact ⟨u, τ, by simp [hd, e0, e3, hcut, a1], a2'.rd, a2'.gr, a2'.lo, by rcases a2'.sl with ⟨rfl, _⟩ | ⟨_, rfl, _⟩ <;> rfl⟩
theorem add32_ev (hT : E.T = T) {σ : St} {x y c : Int} (hx : 0 ≤ x ∧ x < 4294967296) (hy : 0 ≤ y ∧ y < 4294967296) (hc : 0 ≤ c ∧ c ≤ 1) : ev E 12 [.int .u32 x, .int .u32 y, .int .u32 c] σ = some (.ret (.tup [.int .u32 ((x + y + c) % 4294967296), .int .u32 ((x + y + c) / 4294967296)]), σ) := by
  refine ev_same (fd := f12) (o := .ret (.tup [.int .u32 ((x + y + c) % 4294967296), .int .u32 ((x + y + c) / 4294967296)])) (by rw [hT]; rfl) (by simp [f12]) rfl ?_ (by simp)
  have w1 : IntKind.u64.wrap x = x := u64id (by omega) (by omega)
  have w2 : IntKind.u64.wrap y = y := u64id (by omega) (by omega)
  have w3 : IntKind.u64.wrap c = c := u64id (by omega) (by omega)
  have w4 : IntKind.u64.wrap (x + y) = x + y := u64id (by omega) (by omega)
  have w5 : IntKind.u64.wrap (x + y + c) = x + y + c := u64id (by omega) (by omega)
  obtain ⟨z, hz⟩ : ∃ z, z = x + y + c := ⟨_, rfl⟩
  rw [← hz] at w5 ⊢
  have w6 : IntKind.u32.wrap z = z % 4294967296 := wrap_u32 z
  have w7 : z.fdiv (2 ^ min 32 IntKind.u64.bits) = z / 4294967296 := by
    rw [show min 32 IntKind.u64.bits = 32 from by simp [IntKind.bits], Int.fdiv_eq_ediv_of_nonneg _ (by decide)]; rfl
  have w8 : IntKind.u32.wrap (z / 4294967296) = z / 4294967296 := by rw [wrap_u32]; omega
  simp [f12, d12, w1, w2, w3, w4, w5, ← hz, w6, w7, w8]
end Go.Proofs.Yticpkoakbneefaa
namespace Go.Proofs.Yticpkoakbneefaa
open Go.Proofs.Yticpkoakbneefaa.Ab
set_option linter.unusedVariables false
set_option linter.unusedSimpArgs false
attribute [local simp] Gr.refl Gr.new Gr.set Gr.kill Nat.add_assoc r_cks chk wantG
variable {E : En Try.prog} {B : Int}
def tlD : D → D
  | .seq _ (.kb _ b) => b
  | d => d
def subD : Nat → D → D → D
  | 0, _, x => x
  | n + 1, .seq a (.kb t b), x => .seq a (.kb t (subD n b x))
  | _, d, _ => d
/-! A row of limbs that is written. -/
section
variable {σ : St} {l N i : Nat} {X : List Int}
theorem row_at (h : σ.H l = some (.row 1 (X.map nE))) (hN : N = X.length) (hi : i < N) {k : IntKind} : iaV σ 1 (.slc l 0 N) (.int k i) = some (.ptr l i 0) := by simp [iaV, h, hi]
theorem row_ld (h : σ.H l = some (.row 1 (X.map nE))) (hi : i < X.length) : ldV σ (.ptr l i 0) = some (.int .u32 (rd X i)) := by
  have h1 : X[i]? = some (rd X i) := by rw [rd_nat, List.getElem?_eq_getElem hi]; rfl
  rw [ldV_ptr, h]; simp [h1, nE]
theorem row_st (h : σ.H l = some (.row 1 (X.map nE))) (hi : i < X.length) (y : Int) : stV σ 1 (.ptr l i 0) (.int .u32 y) = some (σ.set l (.row 1 ((X.set i y).map nE))) := by
  rw [stV_ptr, h]
  simp [hi, nE, setAt, List.map_set]
theorem row_nm (h : σ.H l = some (.row 1 (X.map nE))) (hN : N = X.length) : Nm σ (.slc l 0 N) X := by
  subst hN; simp [Nm, Rd, cont, h, List.take_of_length_le]
end
theorem New.row {σ0 σ : St} {l N : Nat} {X : List Int} (h : σ.H l = some (.row 1 (X.map nE))) (hN : N = X.length) (g : Gr σ0 σ) (h0 : σ0.n ≤ l) (h1 : l < σ.n) : New σ0 σ (.slc l 0 N) X :=
  ⟨row_nm h hN, g, fun k hk => by simp [V.row] at hk; omega, rfl⟩
def AddQ (B : Int) (σ0 : St) (l : Nat) (va : V) (a b : List Int) (f' : Fr) (σ' : St) : Prop := ∃ (p : List Int) (c : Int), p.length = a.length ∧ Dg B p ∧ (0 ≤ c ∧ c ≤ 1) ∧ vl B p + B ^ p.length * c = vl B a + vl B b ∧ Gr σ0 σ' ∧ σ'.H l = some (.row 1 ((p ++ [0]).map nE)) ∧ l < σ'.n ∧
  f'.ds = [] ∧ f'.env 0 = va ∧ f'.env 5 = .slc l 0 (a.length + 1) ∧ f'.env 6 = .int .u32 c
theorem add_loop (hT : E.T = T) (hB : B = 4294967296) {σ0 : St} {va vb : V} {a b : List Int} (ha : Nm σ0 va a) (hao : va.old σ0) (hb : Nm σ0 vb b) (hbo : vb.old σ0) (hal : a.length < 2 ^ 30) (hba : b.length ≤ a.length) (da : Dg B a) (db : Dg B b) {l : Nat} (hl0 : σ0.n ≤ l) {dd : Bool} {rs : List RC} {st : List SE} {B0 : D} (hB0 : B0 = b5_0) :
    ∀ (m : Nat) (p : List Int) (c : Int) (f : Fr) (σ : St), p.length + m = a.length → Dg B p → 0 ≤ c ∧ c ≤ 1 → vl B p + B ^ p.length * c = vl B (a.take p.length) + vl B (b.take p.length) → Gr σ0 σ → σ.H l = some (.row 1 ((p ++ List.replicate (m + 1) 0).map nE)) → l < σ.n →
      f.ds = [] → f.env 0 = va → f.env 1 = vb → f.env 5 = .slc l 0 (a.length + 1) → f.env 6 = .int .u32 c → f.env 21 = .int .i64 a.length → f.env 22 = .int .i64 p.length →
      Lands E dd rs st (AddQ B σ0 l va a b) (run E dd rs (.d (.loop [0, 1, 5, 6, 21, 22] B0) :: .blk 0 :: st) f σ)
  | 0, p, c, f, σ, hp, dp, hc, hv, hg, hH, hln, hd, e0, e1, e5, e6, e21, e22 => by
    rw [r_loopU hB0]
    have h : ¬ p.length < a.length := by omega
    simp [b5_0, hd, e0, e1, e5, e6, e21, e22, h]
    exact .here ⟨p, c, by omega, dp, hc, by rw [hv, List.take_of_length_le (by omega), List.take_of_length_le (by omega)], hg, hH, hln, by simp, by simp, by simp, by simp⟩
  | m + 1, p, c, f, σ, hp, dp, hc, hv, hg, hH, hln, hd, e0, e1, e5, e6, e21, e22 => by
    rw [r_loopU hB0]
    have h : p.length < a.length := by omega
    have hx := da.place (by omega) (p.length : Int)
    have hy := db.place (by omega) (p.length : Int)
    have hs := add_step (B := B) (x := rd a p.length) (y := rd b p.length) hv
    rw [← vl_take_succ, ← vl_take_succ] at hs
    have hXl : (p ++ List.replicate (m + 1 + 1) 0).length = a.length + 1 := by simp; omega
    have ha' := ha.gr hg hao
    have hb' := hb.gr hg hbo
    have i1 := ha'.at (k := .i64) h
    have l1 := ha'.ld h
    have i3 : iaV σ 1 (.slc l 0 (a.length + 1)) (.int .i64 p.length) = some (.ptr l p.length 0) := row_at hH hXl.symm (by omega)
    have s3 := row_st hH (i := p.length) (by rw [hXl]; omega) ((rd a p.length + rd b p.length + c) % 4294967296)
    rw [rep_set] at s3
    have hw : IntKind.i64.wrap ((p.length : Int) + 1) = ((p.length + 1 : Nat) : Int) := by rw [IntWalk.i64_in _ (by omega)]; omega
    have ad := add32_ev hT (σ := σ) (x := rd a p.length) (y := rd b p.length) (c := c) (by omega) (by omega) hc
    have ih := fun f a0 a1 a2 a3 a4 a5 a6 => add_loop hT hB ha hao hb hbo hal hba da db hl0 (dd := dd) (rs := rs) (st := st) hB0 m (p ++ [(rd a p.length + rd b p.length + c) % 4294967296]) ((rd a p.length + rd b p.length + c) / 4294967296) f (σ.set l (.row 1 (((p ++ [(rd a p.length + rd b p.length + c) % 4294967296]) ++ List.replicate (m + 1) 0).map nE))) (by simp; omega) (dp.snoc (by omega) (by omega)) (by omega) (by
        rw [vl_snoc, List.length_append, List.length_singleton, Int.pow_succ, ← hB]; exact hs) (hg.set hl0 _) (by simp) (by simpa using hln) a0 a1 a2 a3 a4 a5 a6
    obtain ⟨q, hq⟩ : ∃ q, q = (rd a p.length + rd b p.length + c) % 4294967296 := ⟨_, rfl⟩
    obtain ⟨q', hq'⟩ : ∃ q, q = (rd a p.length + rd b p.length + c) / 4294967296 := ⟨_, rfl⟩
    obtain ⟨R, hR⟩ : ∃ R, R = ((p ++ [q]) ++ List.replicate (m + 1) 0).map nE := ⟨_, rfl⟩
    rw [← hq] at ad s3
    rw [← hq'] at ad
    rw [← hR] at s3
    simp only [← hq, ← hq', ← hR, List.length_append, List.length_singleton] at ih
    obtain ⟨n, hn⟩ : ∃ n, n = p.length + 1 := ⟨_, rfl⟩
    simp only [← hn] at hw ih
    by_cases hbl : p.length < b.length
    · have i2 := hb'.at (k := .i64) hbl
      have l2 := hb'.ld hbl
      simp [b5_0, hd, e0, e1, e5, e6, e21, e22, h, hb'.len, hbl, i1, l1, i2, l2, i3, s3, ad, hw, -stV_ptr]
      exact ih _ (by simp) (by simp) (by simp) (by simp) (by simp) (by simp) (by simp)
    · have hy0 : rd b p.length = 0 := rd_out (by omega)
      rw [hy0] at ad
      simp [b5_0, hd, e0, e1, e5, e6, e21, e22, h, hb'.len, hbl, i1, l1, i3, s3, ad, hw, -stV_ptr]
      exact ih _ (by simp) (by simp) (by simp) (by simp) (by simp) (by simp) (by simp)
def X5 : D := tlD (tlD d5)
theorem add_core (hT : E.T = T) (hB : B = 4294967296) {σ : St} {va vb : V} {a b : List Int} (ha : Nm σ va a) (hao : va.old σ) (hb : Nm σ vb b) (hbo : vb.old σ) (hal : a.length < 2 ^ 30) (hba : b.length ≤ a.length) (da : Dg B a) (db : Dg B b) {f : Fr} (hd : f.ds = []) (e0 : f.env 0 = va) (e1 : f.env 1 = vb) :
    ∃ u τ, run E false [.t 4] [.d X5] f σ = some (.ret u, τ) ∧ New σ τ u (cn B (vl B a + vl B b)) := by
  obtain ⟨n, hn⟩ : ∃ n, n = a.length + 1 := ⟨_, rfl⟩
  have hw : IntKind.i64.wrap ((a.length : Int) + 1) = (n : Int) := by rw [IntWalk.i64_in _ (by omega)]; omega
  obtain ⟨s1, hs1⟩ : ∃ s1, s1 = σ.new (.row 1 (List.replicate n [.int .u32 0])) := ⟨_, rfl⟩
  have g1 : Gr σ s1 := by rw [hs1]; exact (Gr.refl σ).new _
  have hrb : (4 : Int) * n ≤ reach := by simp [reach]; omega
  have hrb2 : (n : Int) ≤ reach := by simp [reach]; omega
  have hmk : mkslV σ 4 [.int .u32 0] (.int .i64 n) (.int .i64 n) = some (.slc σ.n 0 n, s1) := by
    rw [mkslV_int, hs1, if_pos ⟨by omega, by omega, hrb, hrb2⟩]; simp
  have hH : s1.H σ.n = some (.row 1 ((([] : List Int) ++ List.replicate (a.length + 1) 0).map nE)) := by rw [hs1]; simp [hn, nE]
  have ha' := ha.gr g1 hao
  simp [X5, tlD, d5, hd, e0, e1, ha.len, ha'.len, hw, hmk, -mkslV_int]
  refine Lands.to (C := fun r => ∃ u τ, r = some (CO.ret u, τ) ∧ New σ τ u (cn B (vl B a + vl B b))) (add_loop hT hB ha hao hb hbo hal hba da db (Nat.le_refl σ.n) rfl a.length [] 0 _ s1 (by simp) .nil (by omega) (by simp [vl]) g1 hH (by rw [hs1]; simp) (by simp) (by simp) (by simp) (by simp [hn]) (by simp) (by simp) (by simp)) ?_
  rintro f' σ' ⟨p, c, h1, h2, h3, h4, h5, h6, h7, h8, h9, h10, h11⟩
  have ha2 := ha.gr h5 hao
  have i3 : iaV σ' 1 (.slc σ.n 0 (a.length + 1)) (.int .i64 a.length) = some (.ptr σ.n a.length 0) := row_at h6 (by simp [h1]) (by omega)
  have s3 := row_st h6 (i := a.length) (by simp [h1]) c
  have hset : (p ++ [0]).set a.length c = p ++ [c] := by rw [← h1]; simp
  rw [hset] at s3
  obtain ⟨s2, hs2⟩ : ∃ s2, s2 = σ'.set σ.n (.row 1 ((p ++ [c]).map nE)) := ⟨_, rfl⟩
  have g2 : Gr σ s2 := by rw [hs2]; exact h5.set (Nat.le_refl _) _
  have hrow : s2.H σ.n = some (.row 1 ((p ++ [c]).map nE)) := by rw [hs2]; simp
  have hnew := New.row (N := a.length + 1) hrow (by simp [h1]) g2 (Nat.le_refl _) (by rw [hs2]; simpa using h7)
  have htr := trim_ev hT hnew.rd (by simp; omega)
  have hfin := hnew.trim
  have hcn : tr (p ++ [c]) = cn B (vl B a + vl B b) := by
    rw [tr_cn (B := B) (by omega) (h2.snoc h3.1 (by omega)), vl_snoc, h4]
  rw [hcn] at htr hfin
  rw [← hs2] at s3
  refine ⟨_, s2, ?_, hfin⟩
  simp [h8, h9, h10, h11, ha2.len, i3, s3, htr, -stV_ptr]
theorem add_ev (hT : E.T = T) (hB : B = 4294967296) {σ : St} {va vb : V} {a b : List Int} (ha : Nm σ va a) (hao : va.old σ) (hb : Nm σ vb b) (hbo : vb.old σ) (hal : a.length < 2 ^ 30) (hbl : b.length < 2 ^ 30) (da : Dg B a) (db : Dg B b) :
    ∃ u τ, ev E 5 [va, vb] σ = some (.ret u, τ) ∧ New σ τ u (cn B (vl B a + vl B b)) := by
  suffices h : ∃ u τ, run E false f5.res [.d f5.body] ⟨envOf [va, vb], []⟩ σ = some (.ret u, τ) ∧ New σ τ u (cn B (vl B a + vl B b)) by
    obtain ⟨u, τ, h, k⟩ := h
    exact ⟨u, τ, ev_raw (fd := f5) (by rw [hT]; rfl) (by simp [f5]) rfl h, k⟩
  have hX : f5.body = subD 2 d5 X5 := rfl
  rw [hX]
  by_cases h : a.length < b.length
  · have := fun f => add_core hT hB hb hbo ha hao hbl (by omega) db da (f := f)
    simp [f5, d5, subD, ha.len, hb.len, h]
    rw [Int.add_comm]
    exact this _ (by simp) (by simp) (by simp)
  · have := fun f => add_core hT hB ha hao hb hbo hal (by omega) da db (f := f)
    simp [f5, d5, subD, ha.len, hb.len, h]
    exact this _ (by simp) (by simp) (by simp)
end Go.Proofs.Yticpkoakbneefaa
namespace Go.Proofs.Yticpkoakbneefaa
open Go.Proofs.Yticpkoakbneefaa.Ab
set_option linter.unusedVariables false
set_option linter.unusedSimpArgs false
attribute [local simp] Gr.refl Gr.new Gr.set Gr.kill Nat.add_assoc r_cks chk wantG
variable {E : En Try.prog} {B : Int}
/-- One row changed, no more. -/
structure Ch (σ τ : St) (l : Nat) (r : List Int) : Prop where
  n : τ.n = σ.n
  W : τ.W = σ.W
  H : ∀ k, k ≠ l → τ.H k = σ.H k
  row : τ.H l = some (.row 1 (r.map nE))
theorem Ch.set {σ : St} {l : Nat} (r : List Int) : Ch σ (σ.set l (.row 1 (r.map nE))) l r := ⟨rfl, rfl, fun k hk => by simp [hk], by simp⟩
theorem Ch.trans {σ τ υ : St} {l : Nat} {r r' : List Int} (h : Ch σ τ l r) (k : Ch τ υ l r') : Ch σ υ l r' := ⟨k.n.trans h.n, k.W.trans h.W, fun x hx => (k.H x hx).trans (h.H x hx), k.row⟩
theorem Ch.gr {σ0 σ τ : St} {l : Nat} {r : List Int} (h : Ch σ τ l r) (g : Gr σ0 σ) (hl : σ0.n ≤ l) : Gr σ0 τ := ⟨by rw [h.n]; exact g.n, fun k hk => (h.H k (by omega)).trans (g.H k hk), h.W.trans g.W⟩
theorem Ch.nm {σ τ : St} {l : Nat} {r x : List Int} {v : V} (h : Ch σ τ l r) (hv : Nm σ v x) (hr : ∀ k, v.row = some k → k ≠ l) : Nm τ v x := Rd.mono hv fun k off len e => h.H k (hr k (by rw [e]; rfl))
theorem fd32 (z : Int) (hz : 0 ≤ z) : z.fdiv (2 ^ min 32 IntKind.u64.bits) = z / 4294967296 := by
  rw [show min 32 IntKind.u64.bits = 32 from by simp [IntKind.bits], Int.fdiv_eq_ediv_of_nonneg _ (by decide)]; rfl
theorem addto1 (hB : B = 4294967296) (T : Int) {l N : Nat} {B1 : D} (hB1 : B1 = b14_1) : ∀ (m i : Nat) (row : List Int) (c : Int) (f : Fr) (σ : St), i + m = row.length → row.length = N → N < 2 ^ 30 → Dg B row → 0 ≤ c ∧ c < B → vl B row + B ^ i * c = T → T < B ^ row.length → σ.H l = some (.row 1 (row.map nE)) →
    f.ds = [] → f.env 0 = .slc l 0 N → f.env 8 = .int .u64 c → f.env 12 = .int .i64 i →
    ∃ r τ, run E false [] (.d (.loop [0, 8, 12] B1) :: [.blk 2]) f σ = some (.ret (.tup []), τ) ∧ Ch σ τ l r ∧ Dg B r ∧ r.length = row.length ∧ vl B r = T
  | 0, i, row, c, f, σ, hi, hN, hl, dr, hc, hv, hT, hH, hd, e0, e8, e12 => by
    have h0 : c = 0 := by
      have h1 := vl_nonneg (show 0 ≤ B by omega) dr
      have h2 := pow_pos' (show 0 < B by omega) i
      have e : i = row.length := by omega
      rw [← e] at hT
      rcases (show 0 < c ∨ c ≤ 0 by omega) with h | h
      · have := Int.mul_le_mul_of_nonneg_left (show 1 ≤ c by omega) (show 0 ≤ B ^ i by omega)
        omega
      · omega
    subst h0
    rw [r_loopU hB1]
    exact ⟨row, σ, by simp [b14_1, hd, e0, e8, e12], ⟨rfl, rfl, fun _ _ => rfl, hH⟩, dr, rfl, by simpa using hv⟩
  | m + 1, i, row, c, f, σ, hi, hN, hl, dr, hc, hv, hT, hH, hd, e0, e8, e12 => by
    have hr := dr.place (show 0 < B by omega) (i : Int)
    rw [r_loopU hB1]
    by_cases h0 : c = 0
    · subst h0
      exact ⟨row, σ, by simp [b14_1, hd, e0, e8, e12], ⟨rfl, rfl, fun _ _ => rfl, hH⟩, dr, rfl, by simpa using hv⟩
    · have hs := carry_step (B := B) (r := rd row i) (t := rd row i + c) hv rfl
      rw [← vl_set row i _ (by omega), ← Int.pow_succ] at hs
      have hc0 : 0 < c := by omega
      have i1 : iaV σ 1 (.slc l 0 N) (.int .i64 i) = some (.ptr l i 0) := row_at hH hN.symm (by omega)
      have l1 := row_ld hH (i := i) (by omega)
      obtain ⟨x, hx⟩ : ∃ x, x = rd row i := ⟨_, rfl⟩
      rw [← hx] at l1 hr hs
      have w1 : IntKind.u64.wrap x = x := u64id (by omega) (by omega)
      have w2 : IntKind.u64.wrap (x + c) = x + c := u64id (by omega) (by omega)
      obtain ⟨t, ht⟩ : ∃ t, t = x + c := ⟨_, rfl⟩
      rw [← ht] at w2 hs
      have w3 : IntKind.u32.wrap t = t % B := by rw [wrap_u32, hB]
      have w4 : t.fdiv (2 ^ min 32 IntKind.u64.bits) = t / B := by rw [fd32 t (by omega), hB]
      have w5 : IntKind.i64.wrap ((i : Int) + 1) = ((i + 1 : Nat) : Int) := by rw [IntWalk.i64_in _ (by omega)]; omega
      have s1 := row_st hH (i := i) (by omega) (t % B)
      have ih := fun f => addto1 hB T (l := l) (N := N) hB1 m (i + 1) (row.set i (t % B)) (t / B) f (σ.set l (.row 1 ((row.set i (t % B)).map nE))) (by simp; omega) (by simpa using hN) hl (dr.set (by subst hB; omega) (by subst hB; omega)) (by subst hB; omega) hs (by simpa using hT) (by simp)
      obtain ⟨R, hR⟩ : ∃ R, R = row.set i (t % B) := ⟨_, rfl⟩
      obtain ⟨q, hq⟩ : ∃ q, q = t % B := ⟨_, rfl⟩
      obtain ⟨q', hq'⟩ : ∃ q, q = t / B := ⟨_, rfl⟩
      rw [← hR, ← hq] at s1
      rw [← hq] at w3
      rw [← hq'] at w4
      simp only [← hR, ← hq'] at ih
      have hRl : R.length = row.length := by rw [hR]; simp
      simp only [hRl] at ih
      obtain ⟨k, hk⟩ : ∃ k, k = i + 1 := ⟨_, rfl⟩
      simp only [← hk] at w5 ih
      show ∃ r τ, _ ∧ Ch σ τ l r ∧ _
      simp [b14_1, hd, e0, e8, e12, hc0, i1, l1, w1, w2, ← ht, w3, w4, w5, s1, -stV_ptr, -ldV_ptr]
      obtain ⟨r, τ, a1, a2, a3⟩ := ih (({ env := lk [0, 8, 12] [.slc l 0 N, .int .u64 q', .int .i64 i], ds := [] } : Fr).put (some 52) (.int .i64 i) |>.put (some 53) (.int .i64 k) |>.put (some 12) (.int .i64 k)) (by simp) (by simp) (by simp) (by simp)
      exact ⟨r, τ, a1, (Ch.set R).trans a2, a3⟩
def X14 : D := tlD (tlD d14)
theorem addto0 (hB : B = 4294967296) (row0 : List Int) (s : Nat) (x : Int) {l N : Nat} {vb : V} {b : List Int} (hx : 0 ≤ x ∧ x < B) (db : Dg B b) (hN : row0.length = N) (hl : N < 2 ^ 30) (hsb : s + b.length ≤ N) (hT : vl B row0 + x * (B ^ s * vl B b) < B ^ row0.length) (hbr : ∀ k, vb.row = some k → k ≠ l) {B0 : D} (hB0 : B0 = b14_0) :
    ∀ (m i : Nat) (row : List Int) (c : Int) (f : Fr) (σ : St), i + m = b.length → row.length = row0.length → Dg B row → 0 ≤ c ∧ c < B → vl B row + B ^ (s + i) * c = vl B row0 + x * (B ^ s * vl B (b.take i)) → Nm σ vb b → σ.H l = some (.row 1 (row.map nE)) →
    f.ds = [] → f.env 0 = .slc l 0 N → f.env 1 = .int .i64 s → f.env 2 = .int .u32 x → f.env 3 = vb → f.env 8 = .int .u64 c → f.env 14 = vb → f.env 15 = .int .i64 b.length → f.env 16 = .int .i64 i →
    ∃ r τ, run E false [] (.d (.loop [0, 1, 2, 3, 8, 14, 15, 16] B0) :: .blk 0 :: [.d (.kb [0, 1, 3, 8] X14)]) f σ = some (.ret (.tup []), τ) ∧ Ch σ τ l r ∧ Dg B r ∧ r.length = row0.length ∧ vl B r = vl B row0 + x * (B ^ s * vl B b)
  | 0, i, row, c, f, σ, hi, hr, dr, hc, hv, hb, hH, hd, e0, e1, e2, e3, e8, e14, e15, e16 => by
    rw [show b.take i = b from List.take_of_length_le (by omega), show i = b.length by omega] at hv
    rw [r_loopU hB0]
    have h : ¬ i < b.length := by omega
    obtain ⟨k, hk⟩ : ∃ k, k = s + b.length := ⟨_, rfl⟩
    have hw : IntKind.i64.wrap ((s : Int) + b.length) = (k : Int) := by rw [IntWalk.i64_in _ (by omega)]; omega
    rw [← hk] at hv
    have a1 := fun f => addto1 (E := E) hB _ (l := l) (N := N) (B1 := b14_1) rfl (row.length - k) k row c f σ (by omega) (by omega) hl dr hc hv (by rw [hr]; exact hT) hH
    simp [b14_0, hd, e0, e1, e2, e3, e8, e14, e15, e16, h, X14, tlD, d14, hb.len, hw]
    simp only [hr] at a1
    exact a1 _ (by simp) (by simp) (by simp) (by simp)
  | m + 1, i, row, c, f, σ, hi, hr, dr, hc, hv, hb, hH, hd, e0, e1, e2, e3, e8, e14, e15, e16 => by
    have hr0 := dr.place (show 0 < B by omega) ((s + i : Nat) : Int)
    have hy := db.place (show 0 < B by omega) (i : Int)
    have hil : i < b.length := by omega
    obtain ⟨z, hz⟩ : ∃ z, z = rd row ((s + i : Nat) : Int) := ⟨_, rfl⟩
    obtain ⟨y, hyy⟩ : ∃ y, y = rd b i := ⟨_, rfl⟩
    rw [← hz] at hr0
    rw [← hyy] at hy
    have hf := mul_fits (x := x) (y := y) (r := z) (c := c) (by omega) (by omega) (by omega) (by omega)
    have hq : (x * y + z + c) / B < B := Int.ediv_lt_of_lt_mul (by omega) (by rw [hB]; omega)
    have hm0 := Int.emod_nonneg (x * y + z + c) (show B ≠ 0 by omega)
    have hm1 := Int.emod_lt_of_pos (x * y + z + c) (show 0 < B by omega)
    have hs : vl B (row.set (s + i) ((x * y + z + c) % B)) + B ^ (s + (i + 1)) * ((x * y + z + c) / B) = vl B row0 + x * (B ^ s * vl B (b.take (i + 1))) := by
      rw [vl_set row (s + i) _ (by omega), vl_take_succ, ← Nat.add_assoc, Int.pow_succ, ← hz, ← hyy]
      have h1 := Int.emod_add_mul_ediv (x * y + z + c) B
      have h2 : B ^ (s + i) = B ^ s * B ^ i := Int.pow_add _ _ _
      generalize B ^ (s + i) = P at *
      generalize (x * y + z + c) % B = q at *
      generalize (x * y + z + c) / B = q' at *
      generalize B ^ s = S at *
      generalize B ^ i = I at *
      clear hN hT hbr hB0 hi hr dr hb hH hd e0 e1 e2 e3 e8 e14 e15 e16 hf hm0 hm1 hq hz hyy
      grind
    obtain ⟨j, hj⟩ : ∃ j, j = s + i := ⟨_, rfl⟩
    have i0 := hb.at (k := .i64) hil
    have l0 := hb.ld hil
    rw [← hyy] at l0
    have i1 : iaV σ 1 (.slc l 0 N) (.int .i64 j) = some (.ptr l j 0) := row_at hH (by omega) (by omega)
    have l1 := row_ld hH (i := j) (by omega)
    rw [hj, ← hz, ← hj] at l1
    have w1 : IntKind.u64.wrap x = x := u64id (by omega) (by omega)
    have w2 : IntKind.u64.wrap y = y := u64id (by omega) (by omega)
    have w3 : IntKind.u64.wrap (x * y) = x * y := u64id (by omega) (by omega)
    have w4 : IntKind.u64.wrap z = z := u64id (by omega) (by omega)
    have w5 : IntKind.u64.wrap (x * y + z) = x * y + z := u64id (by omega) (by omega)
    have w6 : IntKind.u64.wrap (x * y + z + c) = x * y + z + c := u64id (by omega) (by omega)
    have w7 : IntKind.i64.wrap ((s : Int) + i) = (j : Int) := by rw [IntWalk.i64_in _ (by omega)]; omega
    have w8 : IntKind.i64.wrap ((i : Int) + 1) = ((i + 1 : Nat) : Int) := by rw [IntWalk.i64_in _ (by omega)]; omega
    obtain ⟨p, hp⟩ : ∃ p, p = x * y := ⟨_, rfl⟩
    rw [← hp] at w3 w5 w6 hq hm0 hm1 hs hf
    obtain ⟨pz, hpz⟩ : ∃ p', p' = p + z := ⟨_, rfl⟩
    rw [← hpz] at w5 w6 hq hm0 hm1 hs hf
    obtain ⟨t, ht⟩ : ∃ t, t = pz + c := ⟨_, rfl⟩
    rw [← ht] at w6 hq hm0 hm1 hs hf
    have w9 : IntKind.u32.wrap t = t % B := by rw [wrap_u32, hB]
    have w10 : t.fdiv (2 ^ min 32 IntKind.u64.bits) = t / B := by rw [fd32 t (by omega), hB]
    have s1 := row_st hH (i := j) (by omega) (t % B)
    rw [← hj] at hs
    have ih := fun f => addto0 (l := l) hB row0 s x hx db hN hl hsb hT hbr hB0 m (i + 1) (row.set j (t % B)) (t / B) f (σ.set l (.row 1 ((row.set j (t % B)).map nE))) (by omega) (by simpa using hr) (dr.set hm0 hm1) ⟨Int.ediv_nonneg (by omega) (by omega), hq⟩ hs ((Ch.set _).nm hb hbr) (by simp)
    obtain ⟨R, hR⟩ : ∃ R, R = row.set j (t % B) := ⟨_, rfl⟩
    obtain ⟨q, hqq⟩ : ∃ q, q = t % B := ⟨_, rfl⟩
    obtain ⟨q', hq'⟩ : ∃ q, q = t / B := ⟨_, rfl⟩
    rw [← hR, ← hqq] at s1
    rw [← hqq] at w9
    rw [← hq'] at w10
    simp only [← hR, ← hq'] at ih
    obtain ⟨k, hk⟩ : ∃ k, k = i + 1 := ⟨_, rfl⟩
    simp only [← hk] at w8 ih
    rw [r_loopU hB0]
    have fin : ∀ f : Fr, f.ds = [] → f.env 0 = .slc l 0 N → f.env 1 = .int .i64 s → f.env 2 = .int .u32 x → f.env 3 = vb → f.env 8 = .int .u64 q' → f.env 14 = vb → f.env 15 = .int .i64 b.length → f.env 16 = .int .i64 k → ∃ r τ, run E false [] (.d (.loop [0, 1, 2, 3, 8, 14, 15, 16] B0) :: .blk 0 :: [.d (.kb [0, 1, 3, 8] X14)]) f (σ.set l (.row 1 (R.map nE))) = some (.ret (.tup []), τ) ∧ Ch σ τ l r ∧ Dg B r ∧ r.length = row0.length ∧ vl B r = vl B row0 + x * (B ^ s * vl B b) := fun f a0 a1 a2 a3 a4 a5 a6 a7 a8 => by
      obtain ⟨r, τ, z1, z2, z3⟩ := ih f a0 a1 a2 a3 a4 a5 a6 a7 a8
      exact ⟨r, τ, z1, (Ch.set R).trans z2, z3⟩
    clear ih
    show ∃ r τ, _ ∧ Ch σ τ l r ∧ _
    simp [b14_0, hd, e0, e1, e2, e3, e8, e14, e15, e16, hil, i0, l0, i1, l1, w1, w2, w3, w4, ← hp, w5, w6, ← hpz, ← ht, w7, w8, w9, w10, s1, -stV_ptr, -ldV_ptr]
    exact fin _ (by simp) (by simp) (by simp) (by simp) (by simp) (by simp) (by simp) (by simp) (by simp)
theorem addto_ev (hT0 : E.T = T) (hB : B = 4294967296) {σ : St} {row : List Int} {s l N : Nat} {x : Int} {vb : V} {b : List Int} (hH : σ.H l = some (.row 1 (row.map nE))) (hb : Nm σ vb b) (hbr : ∀ k, vb.row = some k → k ≠ l) (hx : 0 ≤ x ∧ x < B) (dr : Dg B row) (db : Dg B b) (hN : row.length = N) (hl : N < 2 ^ 30) (hsb : s + b.length ≤ N) (hT : vl B row + x * (B ^ s * vl B b) < B ^ row.length) :
    ∃ r τ, ev E 14 [.slc l 0 N, .int .i64 s, .int .u32 x, vb] σ = some (.ret (.tup []), τ) ∧ Ch σ τ l r ∧ Dg B r ∧ r.length = row.length ∧ vl B r = vl B row + x * (B ^ s * vl B b) := by
  suffices h : ∃ r τ, run E false f14.res [.d f14.body] ⟨envOf [.slc l 0 N, .int .i64 s, .int .u32 x, vb], []⟩ σ = some (.ret (.tup []), τ) ∧ Ch σ τ l r ∧ Dg B r ∧ r.length = row.length ∧ vl B r = vl B row + x * (B ^ s * vl B b) by
    obtain ⟨r, τ, h, k⟩ := h
    exact ⟨r, τ, ev_raw (fd := f14) (by rw [hT0]; rfl) (by simp [f14]) rfl h, k⟩
  have k := fun f => addto0 (E := E) (l := l) (N := N) hB row s x hx db hN hl hsb hT hbr rfl b.length 0 row 0 f σ (by omega) rfl dr (by omega) (by simp [vl]) hb hH
  have hX : f14.body = subD 2 d14 X14 := rfl
  rw [hX]
  simp [f14, d14, subD, hb.len]
  exact k _ (by simp) (by simp) (by simp) (by simp) (by simp) (by simp) (by simp) (by simp) (by simp)
end Go.Proofs.Yticpkoakbneefaa
