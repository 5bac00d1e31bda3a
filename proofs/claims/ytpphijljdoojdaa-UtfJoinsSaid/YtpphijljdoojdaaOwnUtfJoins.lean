/-
The plain law of UtfJoins: whatever the two texts are, the law's call is true: a letter is what its own bytes make it, so those of both are those of each, one behind the other. No further condition.
-/
import Derived.Test.YtpphijljdoojdaaQUtfJoinsx5
set_option maxRecDepth 100000
set_option linter.unusedVariables false
set_option linter.unusedSimpArgs false
namespace Go.Proofs.Ytpphijljdoojdaa.Pure
open Go.RowKit Go.Proofs.Ytpphijljdoojdaa.QUtfJoins Go.Proofs.YtpphijljdoojdaaW.PrintWords Go.Proofs.YtpphijljdoojdaaW.PrintLast

/-! ### plain lemmas: rounds -/
section Base
variable {α β : Type}
theorem ev_pos {c : Prop} [Decidable c] {g f : Nat → Option α} {r : α} (hc : c) (h : Ev g r) : Ev (fun k => if c then g k else f k) r := by
  simpa only [if_pos hc] using h
theorem ev_neg {c : Prop} [Decidable c] {g f : Nat → Option α} {r : α} (hc : ¬ c) (h : Ev f r) : Ev (fun k => if c then g k else f k) r := by
  simpa only [if_neg hc] using h
theorem ev_ite {c : Prop} [Decidable c] {g f : Nat → Option α} {r : α} (h1 : c → Ev g r) (h2 : ¬ c → Ev f r) : Ev (fun k => if c then g k else f k) r := by
  by_cases hc : c
  · exact ev_pos hc (h1 hc)
  · exact ev_neg hc (h2 hc)
theorem ev_bind {g : Nat → Option α} {f : Nat → α → Option β} {a : α} {r : β} (h : Ev g a) (k : Ev (fun n => f n a) r) : Ev (fun n => (g n).bind (f n)) r := Ev.bind h k
theorem ev_some {o : Option α} {f : Nat → α → Option β} {a : α} {r : β} (h : o = some a) (k : Ev (fun n => f n a) r) : Ev (fun n => o.bind (f n)) r := by
  subst h; exact k
theorem ev_ret {a r : α} (h : a = r) : Ev (fun _ => some a) r := h ▸ Ev.now a
theorem ev_cast {g : Nat → Option α} {a r : α} (h : Ev g a) (e : a = r) : Ev g r := e ▸ h
theorem ev_ex {g : Nat → Option α} {r : α} (h : Ev g r) : ∃ k, g k = some r := h.rounds
theorem wr {n : Int} (h : -9223372036854775808 ≤ n) (h' : n ≤ 9223372036854775807) : wrap64 n = n := by unfold wrap64; omega
theorem drc {b : List α} {i : Nat} {c : α} {t : List α} (h : b.drop i = c :: t) : i < b.length ∧ b.drop (i + 1) = t ∧ b[i]? = some c := by
  have h1 : i < b.length := by
    rcases Nat.lt_or_ge i b.length with h1 | h1
    · exact h1
    · rw [List.drop_eq_nil_of_le h1] at h; cases h
  rw [List.drop_eq_getElem_cons h1] at h
  injection h with h2 h3
  exact ⟨h1, h3, by rw [List.getElem?_eq_getElem h1, h2]⟩
theorem drn {b : List α} {i : Nat} (h : b.drop i = []) : b.length ≤ i := by
  rcases Nat.lt_or_ge i b.length with h1 | h1
  · rw [List.drop_eq_getElem_cons h1] at h; cases h
  · exact h1
theorem rd_at {b : List Int} {i : Nat} {c : Int} (h : b[i]? = some c) : rd b (i : Int) = c := by
  unfold rd; rw [Int.toNat_natCast, List.getD_eq_getElem?_getD, h]; rfl
end Base

/-! ### utf: a letter's bytes -/
section UtfEnc
theorem or8 {c y : Int} (n : Nat) (hc : 0 ≤ c ∧ c % 2 ^ n = 0) (hy : 0 ≤ y ∧ y < 2 ^ n) (hs : c + 2 ^ n ≤ 256) : Go.bits .or .u8 c y = c + y := by
  have hb : ∀ v : BitVec 8, IntKind.u8.wrap (v.toNat : Int) = v.toNat := fun v => by rw [IntKind.wrap_u8]; have := v.isLt; omega
  have e : Go.bits .or .u8 c y = ((BitVec.ofInt 8 c ||| BitVec.ofInt 8 y).toNat : Int) := hb _
  rw [e, BitVec.toNat_or]
  have hp : (2 : Int) ^ n = ((2 ^ n : Nat) : Int) := by simp
  have hpos : 0 < 2 ^ n := Nat.two_pow_pos n
  have h1 : (BitVec.ofInt 8 y).toNat = y.toNat := by rw [BitVec.toNat_ofInt]; omega
  have h2 : (BitVec.ofInt 8 c).toNat = 2 ^ n * (c / 2 ^ n).toNat := by
    have e1 := Int.emod_add_mul_ediv c (2 ^ n)
    rw [hc.2, Int.zero_add, hp] at e1
    have h0 : 0 ≤ c / ((2 ^ n : Nat) : Int) := Int.ediv_nonneg hc.1 (by omega)
    have e2 : (((2 ^ n * (c / ((2 ^ n : Nat) : Int)).toNat : Nat)) : Int) = c := by
      rw [Int.natCast_mul, Int.toNat_of_nonneg h0]; exact e1
    rw [hp, BitVec.toNat_ofInt]; omega
  have h5 := Nat.two_pow_add_eq_or_of_lt (i := n) (b := y.toNat) (by rw [hp] at hy; omega) (c / 2 ^ n).toNat
  rw [h1, h2, ← h5, ← h2, BitVec.toNat_ofInt]
  omega
theorem and63 {x : Int} (h0 : 0 ≤ x) (h1 : x < 2147483648) : Go.bits .and .i32 x 63 = x % 64 := by
  have e : Go.bits .and .i32 x 63 = IntKind.i32.wrap ((BitVec.ofInt 32 x &&& BitVec.ofInt 32 63).toNat : Int) := rfl
  have h2 : (BitVec.ofInt 32 63).toNat = 2 ^ 6 - 1 := by decide
  have h3 : (BitVec.ofInt 32 x).toNat = x.toNat := by rw [BitVec.toNat_ofInt]; omega
  rw [e, BitVec.toNat_and, h2, h3, Nat.and_two_pow_sub_one_eq_mod, IntKind.wrap_i32]
  omega
theorem enc_ev (r : Int) : Ev (fun k => utf_Encode.f k r) ((utf_Encode.f 1 r).getD ([], 0)) := Ev.of (utf_Encode.mono r) (utf_Encode.one r)
end UtfEnc
theorem lettered_ev : Ev (fun k => whetstonelaw03_lettered.f k) true := Ev.of (k := 60) whetstonelaw03_lettered.mono (by decide +kernel)

/-! ### utf: the letter that begins at a byte -/
section UtfLet
theorem and192 : ∀ n : Fin 256, (Go.bits .and .u8 (n.val : Int) 192 == 128) = decide (128 ≤ n.val ∧ n.val < 192) := by decide +kernel
theorem and63b : ∀ n : Fin 256, Go.bits .and .u8 (n.val : Int) 63 = (n.val : Int) % 64 := by decide +kernel
theorem and31 : ∀ n : Fin 256, Go.bits .and .i32 (n.val : Int) 31 = (n.val : Int) % 32 := by decide +kernel
theorem and15 : ∀ n : Fin 256, Go.bits .and .i32 (n.val : Int) 15 = (n.val : Int) % 16 := by decide +kernel
theorem and7 : ∀ n : Fin 256, Go.bits .and .i32 (n.val : Int) 7 = (n.val : Int) % 8 := by decide +kernel
theorem fin_of {x : Int} (h : 0 ≤ x ∧ x < 256) : ∃ n : Fin 256, (n.val : Int) = x := ⟨⟨x.toNat, by omega⟩, by simp; omega⟩
theorem ori32 {c y : Int} (n : Nat) (hc : 0 ≤ c ∧ c % 2 ^ n = 0) (hy : 0 ≤ y ∧ y < 2 ^ n) (hs : c + 2 ^ n ≤ 2147483648) : Go.bits .or .i32 c y = c + y := by
  have e : Go.bits .or .i32 c y = IntKind.i32.wrap ((BitVec.ofInt 32 c ||| BitVec.ofInt 32 y).toNat : Int) := rfl
  rw [e, BitVec.toNat_or]
  have hp : (2 : Int) ^ n = ((2 ^ n : Nat) : Int) := by simp
  have hpos : 0 < 2 ^ n := Nat.two_pow_pos n
  have h1 : (BitVec.ofInt 32 y).toNat = y.toNat := by rw [BitVec.toNat_ofInt]; omega
  have h2 : (BitVec.ofInt 32 c).toNat = 2 ^ n * (c / 2 ^ n).toNat := by
    have e1 := Int.emod_add_mul_ediv c (2 ^ n)
    rw [hc.2, Int.zero_add, hp] at e1
    have h0 : 0 ≤ c / ((2 ^ n : Nat) : Int) := Int.ediv_nonneg hc.1 (by omega)
    have e2 : (((2 ^ n * (c / ((2 ^ n : Nat) : Int)).toNat : Nat)) : Int) = c := by
      rw [Int.natCast_mul, Int.toNat_of_nonneg h0]; exact e1
    rw [hp, BitVec.toNat_ofInt]; omega
  have h5 := Nat.two_pow_add_eq_or_of_lt (i := n) (b := y.toNat) (by rw [hp] at hy; omega) (c / 2 ^ n).toNat
  rw [h1, h2, ← h5, ← h2, BitVec.toNat_ofInt, IntKind.wrap_i32]
  omega
def By (b : List Int) : Prop := ∀ x ∈ b, 0 ≤ x ∧ x < 256
theorem By.place {b : List Int} (h : By b) (i : Int) : 0 ≤ rd b i ∧ rd b i < 256 := by
  unfold rd
  rcases Nat.lt_or_ge i.toNat b.length with hi | hi
  · rw [List.getD_eq_getElem?_getD, List.getElem?_eq_getElem hi]; exact h _ (List.getElem_mem _)
  · rw [List.getD_eq_getElem?_getD, List.getElem?_eq_none hi]; exact ⟨Int.le_refl _, by decide⟩
def r2 (c d : Int) : Int := (c - 192) * 64 + (d - 128)
def r3 (c d e : Int) : Int := ((c - 224) * 64 + (d - 128)) * 64 + (e - 128)
def r4 (c d e f : Int) : Int := (((c - 240) * 64 + (d - 128)) * 64 + (e - 128)) * 64 + (f - 128)
def goesOn (b : List Int) (i : Int) : Prop := i < (b.length : Int) ∧ 128 ≤ rd b i ∧ rd b i < 192
instance (b : List Int) (i : Int) : Decidable (goesOn b i) := inferInstanceAs (Decidable (_ ∧ _))
/-- The letter, and how many bytes it has. -/
def lt (b : List Int) (i : Int) : Int × Int :=
  if rd b i < 128 then (rd b i, 1)
  else if 194 ≤ rd b i ∧ rd b i ≤ 223 ∧ goesOn b (i + 1) then (r2 (rd b i) (rd b (i + 1)), 2)
  else if 224 ≤ rd b i ∧ rd b i ≤ 239 ∧ goesOn b (i + 1) ∧ goesOn b (i + 2) then (if 2048 ≤ r3 (rd b i) (rd b (i + 1)) (rd b (i + 2)) ∧ (r3 (rd b i) (rd b (i + 1)) (rd b (i + 2)) < 55296 ∨ 57343 < r3 (rd b i) (rd b (i + 1)) (rd b (i + 2))) then (r3 (rd b i) (rd b (i + 1)) (rd b (i + 2)), 3) else (0, 0))
  else if 240 ≤ rd b i ∧ rd b i ≤ 244 ∧ goesOn b (i + 1) ∧ goesOn b (i + 2) ∧ goesOn b (i + 3) then (if 65536 ≤ r4 (rd b i) (rd b (i + 1)) (rd b (i + 2)) (rd b (i + 3)) ∧ r4 (rd b i) (rd b (i + 1)) (rd b (i + 2)) (rd b (i + 3)) ≤ 1114111 then (r4 (rd b i) (rd b (i + 1)) (rd b (i + 2)) (rd b (i + 3)), 4) else (0, 0))
  else (0, 0)
theorem more_eq {b : List Int} (hb : By b) {i : Int} (hi : 0 ≤ i) : utf_more.f b i = some (decide (goesOn b i)) := by
  unfold utf_more.f
  obtain ⟨n, hn⟩ := fin_of (hb.place i)
  by_cases h : i < (b.length : Int)
  · rw [if_pos h, if_pos hi, ← hn, and192 n]
    by_cases hg : goesOn b i
    · rw [decide_eq_true hg, decide_eq_true (show 128 ≤ n.val ∧ n.val < 192 from by have h1 := hg.2.1; have h2 := hg.2.2; omega)]
    · rw [decide_eq_false hg, decide_eq_false (show ¬ (128 ≤ n.val ∧ n.val < 192) from fun h2 => hg ⟨h, by omega, by omega⟩)]
  · rw [if_neg h, decide_eq_false (fun hg => h hg.1)]
theorem bits6 {b : List Int} (hb : By b) (i : Int) : Go.bits .and .u8 (rd b i) 63 = rd b i % 64 := by
  obtain ⟨n, hn⟩ := fin_of (hb.place i)
  rw [← hn]; exact and63b n
theorem bits5 {b : List Int} (hb : By b) (i : Int) : Go.bits .and .i32 (rd b i) 31 = rd b i % 32 := by
  obtain ⟨n, hn⟩ := fin_of (hb.place i)
  rw [← hn]; exact and31 n
theorem bits4 {b : List Int} (hb : By b) (i : Int) : Go.bits .and .i32 (rd b i) 15 = rd b i % 16 := by
  obtain ⟨n, hn⟩ := fin_of (hb.place i)
  rw [← hn]; exact and15 n
theorem bits3 {b : List Int} (hb : By b) (i : Int) : Go.bits .and .i32 (rd b i) 7 = rd b i % 8 := by
  obtain ⟨n, hn⟩ := fin_of (hb.place i)
  rw [← hn]; exact and7 n
theorem w32 {x : Int} (h0 : 0 ≤ x) (h1 : x < 2147483648) : wrap32 x = x := by unfold wrap32; omega
theorem or2 {c d : Int} (hc : 192 ≤ c ∧ c < 224) (hd : 128 ≤ d ∧ d < 192) : Go.bits .or .i32 (wrap32 (c % 32 * 64)) (wrap32 (d % 64)) = r2 c d := by
  rw [w32 (by omega) (by omega), w32 (by omega) (by omega), ori32 6 (by constructor <;> omega) (by constructor <;> omega) (by omega)]
  unfold r2; omega
theorem or3 {c d e : Int} (hc : 224 ≤ c ∧ c < 240) (hd : 128 ≤ d ∧ d < 192) (he : 128 ≤ e ∧ e < 192) : Go.bits .or .i32 (Go.bits .or .i32 (wrap32 (c % 16 * 4096)) (wrap32 (wrap32 (d % 64) * 64))) (wrap32 (e % 64)) = r3 c d e := by
  rw [w32 (x := d % 64) (by omega) (by omega), w32 (x := e % 64) (by omega) (by omega), w32 (x := c % 16 * 4096) (by omega) (by omega), w32 (x := d % 64 * 64) (by omega) (by omega), ori32 12 (c := c % 16 * 4096) (by constructor <;> omega) (by constructor <;> omega) (by omega), ori32 6 (by constructor <;> omega) (by constructor <;> omega) (by omega)]
  unfold r3; omega
theorem or4 {c d e f : Int} (hc : 240 ≤ c ∧ c < 248) (hd : 128 ≤ d ∧ d < 192) (he : 128 ≤ e ∧ e < 192) (hf : 128 ≤ f ∧ f < 192) : Go.bits .or .i32 (Go.bits .or .i32 (Go.bits .or .i32 (wrap32 (c % 8 * 262144)) (wrap32 (wrap32 (d % 64) * 4096))) (wrap32 (wrap32 (e % 64) * 64))) (wrap32 (f % 64)) = r4 c d e f := by
  rw [w32 (x := d % 64) (by omega) (by omega), w32 (x := e % 64) (by omega) (by omega), w32 (x := f % 64) (by omega) (by omega), w32 (x := c % 8 * 262144) (by omega) (by omega), w32 (x := d % 64 * 4096) (by omega) (by omega), w32 (x := e % 64 * 64) (by omega) (by omega), ori32 18 (c := c % 8 * 262144) (by constructor <;> omega) (by constructor <;> omega) (by omega), ori32 12 (c := c % 8 * 262144 + d % 64 * 4096) (y := e % 64 * 64) (by constructor <;> omega) (by constructor <;> omega) (by omega), ori32 6 (by constructor <;> omega) (by constructor <;> omega) (by omega)]
  unfold r4; omega
theorem letter_ev {b : List Int} (hb : By b) {i : Int} (hi : 0 ≤ i) (hl : i < (b.length : Int)) (hn : b.length ≤ 1000000) : Ev (fun k => utf_letter.f k b i) (lt b i) := by
  have hc := hb.place i
  have wc : wrap32 (rd b i) = rd b i := w32 (by omega) (by omega)
  have w1 : wrap64 (i + 1) = i + 1 := wr (by omega) (by omega)
  have w2 : wrap64 (i + 2) = i + 2 := wr (by omega) (by omega)
  have w3 : wrap64 (i + 3) = i + 3 := wr (by omega) (by omega)
  have m1 := more_eq hb (show 0 ≤ i + 1 by omega)
  have m2 := more_eq hb (show 0 ≤ i + 2 by omega)
  have m3 := more_eq hb (show 0 ≤ i + 3 by omega)
  have j2 : ¬ (rd b i < 128) → ¬ (194 ≤ rd b i ∧ rd b i ≤ 223 ∧ goesOn b (i + 1)) → ¬ (224 ≤ rd b i ∧ rd b i ≤ 239 ∧ goesOn b (i + 1) ∧ goesOn b (i + 2)) → Ev (fun k => utf_letter.j1 k b i (rd b i) false) (lt b i) := by
    intro n1 n2 n3
    have zero : ¬ (240 ≤ rd b i ∧ rd b i ≤ 244 ∧ goesOn b (i + 1) ∧ goesOn b (i + 2) ∧ goesOn b (i + 3)) → Ev (fun k => utf_letter.j2 k b i (rd b i) false) (lt b i) := by
      intro n4
      refine Ev.step (fun k => utf_letter.j2.eq_2 _ _ _ _ _) (ev_neg (by simp) (ev_ret ?_))
      unfold lt
      rw [if_neg n1, if_neg n2, if_neg n3, if_neg n4]
    refine Ev.step (fun k => utf_letter.j1.eq_2 _ _ _ _ _) (ev_neg (by simp) ?_)
    simp only [w1, w2, w3]
    refine ev_ite (fun h1 => ev_ite (fun h2 => ev_some m1 ?_) (fun h2 => zero (fun h => h2 h.2.1))) (fun h1 => zero (fun h => h1 h.1))
    by_cases g1 : goesOn b (i + 1)
    · refine ev_pos (decide_eq_true g1) (ev_some m2 ?_)
      by_cases g2 : goesOn b (i + 2)
      · refine ev_pos (decide_eq_true g2) (ev_some m3 ?_)
        by_cases g3 : goesOn b (i + 3)
        · rw [decide_eq_true g3]
          refine Ev.step (fun k => utf_letter.j2.eq_2 _ _ _ _ _) (ev_pos rfl ?_)
          simp only [w1, w2, w3, bits6 hb, bits3 hb]
          rw [or4 (by omega) g1.2 g2.2 g3.2]
          have e : lt b i = if 65536 ≤ r4 (rd b i) (rd b (i + 1)) (rd b (i + 2)) (rd b (i + 3)) ∧ r4 (rd b i) (rd b (i + 1)) (rd b (i + 2)) (rd b (i + 3)) ≤ 1114111 then (r4 (rd b i) (rd b (i + 1)) (rd b (i + 2)) (rd b (i + 3)), 4) else (0, 0) := by
            unfold lt
            rw [if_neg n1, if_neg n2, if_neg n3, if_pos ⟨h1, h2, g1, g2, g3⟩]
          rw [e]
          refine ev_pos (by omega) (ev_pos g1.1 (ev_pos (by omega) (ev_pos g2.1 (ev_pos (by omega) (ev_pos g3.1 ?_)))))
          refine ev_ite (fun a1 => ev_ite (fun a2 => ev_ret ?_) (fun a2 => ev_ret ?_)) (fun a1 => ev_ret ?_)
          · rw [if_pos ⟨a1, a2⟩]
          · rw [if_neg (fun h => a2 h.2)]
          · rw [if_neg (fun h => a1 h.1)]
        · rw [decide_eq_false g3]; exact zero (fun h => g3 h.2.2.2.2)
      · exact ev_neg (by rw [decide_eq_false g2]; simp) (zero (fun h => g2 h.2.2.2.1))
    · exact ev_neg (by rw [decide_eq_false g1]; simp) (zero (fun h => g1 h.2.2.1))
  have j1 : ¬ (rd b i < 128) → ¬ (194 ≤ rd b i ∧ rd b i ≤ 223 ∧ goesOn b (i + 1)) → Ev (fun k => utf_letter.j0 k b i (rd b i) false) (lt b i) := by
    intro n1 n2
    refine Ev.step (fun k => utf_letter.j0.eq_2 _ _ _ _ _) (ev_neg (by simp) ?_)
    simp only [w1, w2]
    refine ev_ite (fun h1 => ev_ite (fun h2 => ev_some m1 ?_) (fun h2 => j2 n1 n2 (fun h => h2 h.2.1))) (fun h1 => j2 n1 n2 (fun h => h1 h.1))
    by_cases g1 : goesOn b (i + 1)
    · refine ev_pos (decide_eq_true g1) (ev_some m2 ?_)
      by_cases g2 : goesOn b (i + 2)
      · rw [decide_eq_true g2]
        refine Ev.step (fun k => utf_letter.j1.eq_2 _ _ _ _ _) (ev_pos rfl ?_)
        simp only [w1, w2, bits6 hb, bits4 hb]
        rw [or3 (by omega) g1.2 g2.2]
        have e : lt b i = if 2048 ≤ r3 (rd b i) (rd b (i + 1)) (rd b (i + 2)) ∧ (r3 (rd b i) (rd b (i + 1)) (rd b (i + 2)) < 55296 ∨ 57343 < r3 (rd b i) (rd b (i + 1)) (rd b (i + 2))) then (r3 (rd b i) (rd b (i + 1)) (rd b (i + 2)), 3) else (0, 0) := by
          unfold lt
          rw [if_neg n1, if_neg n2, if_pos ⟨h1, h2, g1, g2⟩]
        rw [e]
        refine ev_pos (by omega) (ev_pos g1.1 (ev_pos (by omega) (ev_pos g2.1 ?_)))
        refine ev_ite (fun a1 => ev_ite (fun a2 => ev_ret ?_) (fun a2 => ev_ite (fun a3 => ev_ret ?_) (fun a3 => ev_ret ?_))) (fun a1 => ev_ret ?_)
        · rw [if_pos ⟨a1, Or.inl a2⟩]
        · rw [if_pos ⟨a1, Or.inr a3⟩]
        · rw [if_neg (fun h => h.2.elim a2 a3)]
        · rw [if_neg (fun h => a1 h.1)]
      · rw [decide_eq_false g2]; exact j2 n1 n2 (fun h => g2 h.2.2.2)
    · exact ev_neg (by rw [decide_eq_false g1]; simp) (j2 n1 n2 (fun h => g1 h.2.2.1))
  refine ev_pos hi (ev_pos hl ?_)
  simp only [wc, w1]
  refine ev_ite (fun h1 => ev_ret ?_) (fun h1 => ev_ite (fun h2 => ev_ite (fun h3 => ev_some m1 ?_) (fun h3 => j1 h1 (fun h => h3 h.2.1))) (fun h2 => j1 h1 (fun h => h2 h.1)))
  · unfold lt; rw [if_pos h1]
  · by_cases g1 : goesOn b (i + 1)
    · rw [decide_eq_true g1]
      refine Ev.step (fun k => utf_letter.j0.eq_2 _ _ _ _ _) (ev_pos rfl ?_)
      simp only [w1, bits6 hb, bits5 hb]
      rw [or2 (by omega) g1.2]
      refine ev_pos (by omega) (ev_pos g1.1 (ev_ret ?_))
      unfold lt
      rw [if_neg h1, if_pos ⟨h2, h3, g1⟩]
    · rw [decide_eq_false g1]; exact j1 h1 (fun h => g1 h.2.2)
end UtfLet

/-! ### utf: all letters -/
section UtfAll
theorem lt_size {b : List Int} (i : Int) : (lt b i).2 = 0 ∨ (1 ≤ (lt b i).2 ∧ (lt b i).2 ≤ 4) := by
  unfold lt
  split
  · right; dsimp only; omega
  split
  · right; dsimp only; omega
  split
  · split
    · right; dsimp only; omega
    · left; rfl
  split
  · split
    · right; dsimp only; omega
    · left; rfl
  · left; rfl
theorem lt_in {b : List Int} {i : Int} (hl : i < (b.length : Int)) : i + (lt b i).2 ≤ (b.length : Int) := by
  unfold lt
  split
  · dsimp only; omega
  split
  · rename_i h1 h2; have := h2.2.2.1; dsimp only; omega
  split
  · rename_i h1 h2 h3; have := h3.2.2.2.1
    split
    · dsimp only; omega
    · dsimp only; omega
  split
  · rename_i h1 h2 h3 h4; have := h4.2.2.2.2.1
    split
    · dsimp only; omega
    · dsimp only; omega
  · dsimp only; omega
theorem lt_pos {b : List Int} (hb : By b) (i : Int) : 0 ≤ (lt b i).1 := by
  have h0 := hb.place i
  unfold lt
  split
  · exact h0.1
  split
  · rename_i h1 h2; have g := h2.2.2; unfold goesOn at g; dsimp only; unfold r2; omega
  split
  · split
    · rename_i h1 h2 h3 h4; dsimp only; omega
    · exact Int.le_refl _
  split
  · split
    · rename_i h1 h2 h3 h4 h5; dsimp only; omega
    · exact Int.le_refl _
  · exact Int.le_refl _
/-- How many bytes are gone on, and the letter (-1: none). -/
def sz (b : List Int) (i : Int) : Int := if (lt b i).2 = 0 then 1 else (lt b i).2
def lv (b : List Int) (i : Int) : Int := if (lt b i).2 = 0 then -1 else (lt b i).1
theorem sz_bd (b : List Int) (i : Int) : 1 ≤ sz b i ∧ sz b i ≤ 4 := by
  unfold sz
  rcases lt_size (b := b) i with h | h
  · rw [if_pos h]; omega
  · rw [if_neg (by omega)]; exact h
theorem sz_in {b : List Int} {i : Int} (hl : i < (b.length : Int)) : i + sz b i ≤ (b.length : Int) := by
  have := lt_in hl
  unfold sz
  split
  · omega
  · exact this
/-- All letters from a byte on. -/
def ls : Nat → List Int → Int → List (Int × Int)
  | 0, _, _ => []
  | n + 1, b, i => if i < (b.length : Int) then (i, lv b i) :: ls n b (i + sz b i) else []
theorem letters_ev {b : List Int} (hb : By b) (hn : b.length ≤ 1000000) : ∀ (n : Nat) (i : Int), 0 ≤ i → (b.length : Int) ≤ i + n → Ev (fun k => utf_Letters.l k b i) (ls n b i)
  | 0, i, h0, h1 => Ev.step (fun k => utf_Letters.l.eq_2 _ _ _) (ev_neg (by omega) (ev_ret rfl))
  | n + 1, i, h0, h1 => by
    refine Ev.step (fun k => utf_Letters.l.eq_2 _ _ _) (ev_ite (fun hl => ?_) (fun hl => ev_ret (by unfold ls; rw [if_neg hl])))
    have hs := lt_size (b := b) i
    have hz := sz_bd b i
    have hi := sz_in hl
    have w : wrap64 (i + (if (lt b i).2 = 0 then 1 else (lt b i).2)) = i + sz b i := wr (n := i + sz b i) (by omega) (by omega)
    refine Ev.bind (letter_ev hb h0 hl hn) (ev_pos (by omega) ?_)
    rw [w]
    refine Ev.bind (letters_ev hb hn n (i + sz b i) (by omega) (by omega)) (ev_ret ?_)
    conv => rhs; unfold ls
    rw [if_pos hl]; rfl
/-- The first byte with which no letter begins. -/
def fb : List (Int × Int) → Int × Int
  | [] => (0, 0)
  | x :: t => if x.2 < 0 then (x.1, 10) else fb t
theorem valid_l0 {b : List Int} (hb : By b) (hn : b.length ≤ 1000000) : ∀ (n : Nat) (i : Int), 0 ≤ i → (b.length : Int) ≤ i + n → Ev (fun k => utf_Valid.l0 k b i) (fb (ls n b i))
  | 0, i, h0, h1 => Ev.step (fun k => utf_Valid.l0.eq_2 _ _ _) (ev_neg (by omega) (ev_ret rfl))
  | n + 1, i, h0, h1 => by
    refine Ev.step (fun k => utf_Valid.l0.eq_2 _ _ _) (ev_ite (fun hl => ?_) (fun hl => ev_ret (by unfold ls; rw [if_neg hl]; rfl)))
    have hs := lt_size (b := b) i
    have hz := sz_bd b i
    have hi := sz_in hl
    refine Ev.bind (letter_ev hb h0 hl hn) ?_
    rw [ls, if_pos hl]
    refine ev_ite (fun c => ev_ret ?_) (fun c => ?_)
    · unfold fb lv; rw [if_pos c]; rfl
    · have e2 : sz b i = (lt b i).2 := by unfold sz; rw [if_neg c]
      have e3 : lv b i = (lt b i).1 := by unfold lv; rw [if_neg c]
      have hp := lt_pos hb i
      rw [fb, if_neg (by rw [e3]; dsimp only; omega), e2, wr (n := i + (lt b i).2) (by omega) (by omega)]
      rw [← e2]
      exact valid_l0 hb hn n _ (by omega) (by omega)
theorem valid_ev {b : List Int} (hb : By b) (hn : b.length ≤ 1000000) : Ev (fun k => utf_Valid.f k b) (fb (ls b.length b 0)) := valid_l0 hb hn b.length 0 (by omega) (by omega)
theorem units_ev {b : List Int} (hb : By b) (hn : b.length ≤ 1000000) : Ev (fun k => utf_Units.f k b) (utf_Units.fold (ls b.length b 0)) :=
  ev_pos (by omega) (Ev.bind (letters_ev hb hn b.length 0 (by omega) (by omega)) (ev_ret rfl))
theorem ls_len : ∀ (n : Nat) (b : List Int) (i : Int), (ls n b i).length ≤ n
  | 0, _, _ => Nat.le_refl _
  | n + 1, b, i => by
    rw [ls]; split
    · rw [List.length_cons]; exact Nat.succ_le_succ (ls_len n b _)
    · simp
end UtfAll

/-! ### utf: where lines begin -/
section UtfLine
def nl (b : List Int) (i : Int) : Prop := rd b i = 10 ∨ (rd b i = 13 ∧ ¬ (i + 1 < (b.length : Int) ∧ rd b (i + 1) = 10))
instance (b : List Int) (i : Int) : Decidable (nl b i) := inferInstanceAs (Decidable (_ ∨ _))
def li : Nat → List Int → Int → List Int
  | 0, _, _ => []
  | n + 1, b, i => if i < (b.length : Int) then (if nl b i then (i + 1) :: li n b (i + 1) else li n b (i + 1)) else []
theorem li_len : ∀ (n : Nat) (b : List Int) (i : Int), (li n b i).length ≤ n
  | 0, _, _ => Nat.le_refl _
  | n + 1, b, i => by
    have := li_len n b (i + 1)
    rw [li]; split
    · split
      · rw [List.length_cons]; omega
      · omega
    · simp
theorem lines_l0 {b : List Int} (hn : b.length ≤ 1000000) : ∀ (n : Nat) (i : Int) (acc : List Int), 0 ≤ i → (b.length : Int) ≤ i + n → acc.length + n ≤ 2000000 → Ev (fun k => utf_Lines.l0 k b acc (b.length : Int) i) (acc ++ li n b i)
  | 0, i, acc, h0, h1, _ => Ev.step (fun k => utf_Lines.l0.eq_2 _ _ _ _ _) (ev_neg (by omega) (ev_ret (by simp [li])))
  | n + 1, i, acc, h0, h1, h2 => by
    refine Ev.step (fun k => utf_Lines.l0.eq_2 _ _ _ _ _) (ev_ite (fun c0 => ev_pos h0 (ev_pos c0 ?_)) (fun c0 => ev_ret (by rw [li, if_neg c0]; simp)))
    have w1 : wrap64 (i + 1) = i + 1 := wr (by omega) (by omega)
    have g1 := lines_l0 hn n (i + 1) (acc ++ [i + 1]) (by omega) (by omega) (by rw [List.length_append]; simp; omega)
    have g2 := lines_l0 hn n (i + 1) acc (by omega) (by omega) (by omega)
    have la : acc.length < 17592186044416 := by omega
    rw [w1]
    have yes : nl b i → acc ++ li (n + 1) b i = (acc ++ [i + 1]) ++ li n b (i + 1) := fun h => by rw [li, if_pos c0, if_pos h]; simp
    have no : ¬ nl b i → acc ++ li (n + 1) b i = acc ++ li n b (i + 1) := fun h => by rw [li, if_pos c0, if_neg h]
    refine ev_ite (fun c1 => ?_) (fun c1 => ev_ite (fun c2 => ev_ite (fun c3 => ?_) (fun c3 => ev_pos (by omega) (ev_pos (by omega) (ev_ite (fun c4 => ?_) (fun c4 => ?_))))) (fun c2 => ?_))
    · rw [yes (Or.inl c1)]; exact ev_pos la g1
    · rw [yes (Or.inr ⟨c2, fun h => by omega⟩)]; exact ev_pos la g1
    · rw [no (fun h => h.elim c1 (fun h => h.2 ⟨by omega, c4⟩))]; exact g2
    · rw [yes (Or.inr ⟨c2, fun h => c4 h.2⟩)]; exact ev_pos la g1
    · rw [no (fun h => h.elim c1 (fun h => c2 h.1))]; exact g2
def lns (b : List Int) : List Int := 0 :: li b.length b 0
theorem alines_ev {b : List Int} (hn : b.length ≤ 1000000) : Ev (fun k => utf_Lines.f k b) (lns b) := lines_l0 hn b.length 0 [0] (by omega) (by omega) (by simp; omega)
end UtfLine

/-! ### utf: two texts, one behind the other -/
section UtfJoin
theorem rd_left (a b : List Int) {i : Int} (h0 : 0 ≤ i) (h : i < (a.length : Int)) : rd (a ++ b) i = rd a i := by
  unfold rd; rw [List.getD_eq_getElem?_getD, List.getElem?_append_left (by omega), ← List.getD_eq_getElem?_getD]
theorem rd_right (a b : List Int) {j : Int} (h0 : 0 ≤ j) : rd (a ++ b) ((a.length : Int) + j) = rd b j := by
  unfold rd
  rw [List.getD_eq_getElem?_getD, List.getElem?_append_right (by omega), show ((a.length : Int) + j).toNat - a.length = j.toNat by omega, ← List.getD_eq_getElem?_getD]
theorem By.app {a b : List Int} (ha : By a) (hb : By b) : By (a ++ b) := fun x hx => (List.mem_append.1 hx).elim (ha x) (hb x)
theorem goes_right (a b : List Int) {j : Int} (h0 : 0 ≤ j) : goesOn (a ++ b) ((a.length : Int) + j) ↔ goesOn b j := by
  unfold goesOn
  rw [rd_right a b h0, List.length_append]
  constructor
  · rintro ⟨h1, h2⟩; exact ⟨by omega, h2⟩
  · rintro ⟨h1, h2⟩; exact ⟨by omega, h2⟩
theorem goes_left (a b : List Int) {j : Int} (h0 : 0 ≤ j) (h : goesOn a j) : goesOn (a ++ b) j ∧ rd (a ++ b) j = rd a j := by
  have e := rd_left a b h0 h.1
  unfold goesOn
  rw [e, List.length_append]
  exact ⟨⟨by have := h.1; omega, h.2⟩, rfl⟩
theorem lt_right (a b : List Int) {j : Int} (h0 : 0 ≤ j) : lt (a ++ b) ((a.length : Int) + j) = lt b j := by
  have g1 := goes_right a b (j := j + 1) (by omega)
  have g2 := goes_right a b (j := j + 2) (by omega)
  have g3 := goes_right a b (j := j + 3) (by omega)
  have e0 := rd_right a b h0
  have e1 := rd_right a b (j := j + 1) (by omega)
  have e2 := rd_right a b (j := j + 2) (by omega)
  have e3 := rd_right a b (j := j + 3) (by omega)
  rw [← Int.add_assoc] at g1 g2 g3 e1 e2 e3
  unfold lt
  simp only [e0, e1, e2, e3, g1, g2, g3]
theorem lt_left (a b : List Int) {i : Int} (h0 : 0 ≤ i) (h : i < (a.length : Int)) (hz : (lt a i).2 ≠ 0) : lt (a ++ b) i = lt a i := by
  have e0 := rd_left a b h0 h
  unfold lt at hz ⊢
  rw [e0]
  by_cases c1 : rd a i < 128
  · rw [if_pos c1, if_pos c1]
  · rw [if_neg c1] at hz ⊢
    rw [if_neg c1]
    by_cases c2 : 194 ≤ rd a i ∧ rd a i ≤ 223 ∧ goesOn a (i + 1)
    · have g1 := goes_left a b (j := i + 1) (by omega) c2.2.2
      rw [if_pos c2, if_pos ⟨c2.1, c2.2.1, g1.1⟩, g1.2]
    · rw [if_neg c2] at hz ⊢
      by_cases c3 : 224 ≤ rd a i ∧ rd a i ≤ 239 ∧ goesOn a (i + 1) ∧ goesOn a (i + 2)
      · have g1 := goes_left a b (j := i + 1) (by omega) c3.2.2.1
        have g2 := goes_left a b (j := i + 2) (by omega) c3.2.2.2
        rw [if_neg (fun h => by omega), if_pos c3, if_pos ⟨c3.1, c3.2.1, g1.1, g2.1⟩, g1.2, g2.2]
      · rw [if_neg c3] at hz ⊢
        by_cases c4 : 240 ≤ rd a i ∧ rd a i ≤ 244 ∧ goesOn a (i + 1) ∧ goesOn a (i + 2) ∧ goesOn a (i + 3)
        · have g1 := goes_left a b (j := i + 1) (by omega) c4.2.2.1
          have g2 := goes_left a b (j := i + 2) (by omega) c4.2.2.2.1
          have g3 := goes_left a b (j := i + 3) (by omega) c4.2.2.2.2
          rw [if_neg (fun h => by omega), if_neg (fun h => by omega), if_pos c4, if_pos ⟨c4.1, c4.2.1, g1.1, g2.1, g3.1⟩, g1.2, g2.2, g3.2]
        · rw [if_neg c4] at hz; exact absurd rfl hz
def sh (d : Int) (x : Int × Int) : Int × Int := (d + x.1, x.2)
theorem ls_right (a b : List Int) : ∀ (m : Nat) (j : Int), 0 ≤ j → ls m (a ++ b) ((a.length : Int) + j) = (ls m b j).map (sh a.length)
  | 0, _, _ => rfl
  | m + 1, j, h => by
    have hz := sz_bd b j
    have e := lt_right a b h
    have es : sz (a ++ b) ((a.length : Int) + j) = sz b j := by unfold sz; rw [e]
    have ev : lv (a ++ b) ((a.length : Int) + j) = lv b j := by unfold lv; rw [e]
    rw [ls, ls, es, ev]
    by_cases c : j < (b.length : Int)
    · rw [if_pos c, if_pos (by rw [List.length_append]; omega), Int.add_assoc, ls_right a b m (j + sz b j) (by omega)]; rfl
    · rw [if_neg c, if_neg (by rw [List.length_append]; omega)]; rfl
theorem ls_fuel (b : List Int) : ∀ (m d : Nat) (i : Int), (b.length : Int) ≤ i + m → ls (m + d) b i = ls m b i
  | 0, 0, _, _ => rfl
  | 0, d + 1, i, h => by
    show ls (0 + d + 1) b i = []
    rw [ls, if_neg (by omega)]
  | m + 1, d, i, h => by
    have hz := sz_bd b i
    rw [show m + 1 + d = (m + d) + 1 by omega, ls, ls, ls_fuel b m d (i + sz b i) (by omega)]
theorem ls_app (a b : List Int) (m : Nat) (hm : b.length ≤ m) : ∀ (n : Nat) (i : Int), 0 ≤ i → i ≤ (a.length : Int) → (a.length : Int) ≤ i + n → (fb (ls n a i)).2 = 0 → ls (n + m) (a ++ b) i = ls n a i ++ (ls m b 0).map (sh a.length)
  | 0, i, h0, h1, h2, _ => by
    rw [show i = (a.length : Int) + 0 by omega, Nat.zero_add, ls_right a b m 0 (by omega)]; rfl
  | n + 1, i, h0, h1, h2, h3 => by
    by_cases c : i < (a.length : Int)
    · rw [ls, if_pos c, fb] at h3
      by_cases c2 : lv a i < 0
      · rw [if_pos c2] at h3; exact absurd h3 (by simp)
      · rw [if_neg c2] at h3
        have hz : (lt a i).2 ≠ 0 := fun h => c2 (by unfold lv; rw [if_pos h]; decide)
        have e := lt_left a b h0 c hz
        have es : sz (a ++ b) i = sz a i := by unfold sz; rw [e]
        have ev : lv (a ++ b) i = lv a i := by unfold lv; rw [e]
        have hb := sz_bd a i
        rw [show n + 1 + m = (n + m) + 1 by omega, ls, ls, if_pos c, if_pos (by rw [List.length_append]; omega), es, ev, ls_app a b m hm n (i + sz a i) (by omega) (sz_in c) (by omega) h3]
        rfl
    · rw [show i = (a.length : Int) + 0 by omega, ls_right a b _ 0 (by omega), show n + 1 + m = m + (n + 1) by omega, ls_fuel b m (n + 1) 0 (by omega), ls, if_neg (by omega)]; rfl
theorem fb_app : ∀ (x y : List (Int × Int)), (fb x).2 = 0 → (fb y).2 = 0 → (fb (x ++ y)).2 = 0
  | [], _, _, h => h
  | p :: x, y, h, g => by
    rw [fb] at h
    by_cases c : p.2 < 0
    · rw [if_pos c] at h; exact absurd h (by simp)
    · rw [if_neg c] at h
      rw [List.cons_append, fb, if_neg c]; exact fb_app x y h g
theorem fb_sh (d : Int) : ∀ (y : List (Int × Int)), (fb (y.map (sh d))).2 = (fb y).2
  | [] => rfl
  | p :: y => by
    have ih := fb_sh d y
    have e : (sh d p).2 = p.2 := rfl
    rw [List.map_cons, fb, fb, e]
    by_cases c : p.2 < 0
    · rw [if_pos c, if_pos c]
    · rw [if_neg c, if_neg c]; exact ih
def us : List (Int × Int) → Int
  | [] => 0
  | x :: t => utf_Units.u x.2 + us t
theorem us_app : ∀ (x y : List (Int × Int)), us (x ++ y) = us x + us y
  | [], y => by simp [us]
  | p :: x, y => by rw [List.cons_append, us, us, us_app x y]; omega
theorem us_sh (d : Int) : ∀ (y : List (Int × Int)), us (y.map (sh d)) = us y
  | [] => rfl
  | p :: y => by rw [List.map_cons, us, us, us_sh d y]; rfl
theorem u_bd (r : Int) : 1 ≤ utf_Units.u r ∧ utf_Units.u r ≤ 2 := by unfold utf_Units.u; split <;> omega
theorem us_bd : ∀ (y : List (Int × Int)), 0 ≤ us y ∧ us y ≤ 2 * y.length
  | [] => by simp [us]
  | p :: y => by have := us_bd y; have := u_bd p.2; rw [us, List.length_cons]; omega
theorem fold_us : ∀ (y : List (Int × Int)) (n : Int), 0 ≤ n → n + 2 * y.length ≤ 100000000 → y.foldl (fun n x => wrap64 (n + utf_Units.u x.2)) n = n + us y
  | [], n, _, _ => by simp [us]
  | p :: y, n, h0, h1 => by
    have := u_bd p.2
    rw [List.length_cons] at h1
    rw [List.foldl_cons, wr (by omega) (by omega), fold_us y _ (by omega) (by omega), us]; omega
theorem ufold_us {y : List (Int × Int)} (h : y.length ≤ 1000000) : utf_Units.fold y = us y := by
  unfold utf_Units.fold; rw [fold_us y 0 (by omega) (by omega)]; omega
/-- Is a line's end cut between the two? -/
def cutE (a b : List Int) : Prop := 0 < a.length ∧ 0 < b.length ∧ rd a ((a.length : Int) - 1) = 13 ∧ rd b 0 = 10
instance (a b : List Int) : Decidable (cutE a b) := inferInstanceAs (Decidable (_ ∧ _))
theorem nl_right (a b : List Int) {j : Int} (h0 : 0 ≤ j) : nl (a ++ b) ((a.length : Int) + j) ↔ nl b j := by
  unfold nl
  rw [rd_right a b h0, Int.add_assoc, rd_right a b (j := j + 1) (by omega), List.length_append]
  constructor
  · rintro (h | ⟨h, g⟩)
    · exact Or.inl h
    · exact Or.inr ⟨h, fun q => g ⟨by omega, q.2⟩⟩
  · rintro (h | ⟨h, g⟩)
    · exact Or.inl h
    · exact Or.inr ⟨h, fun q => g ⟨by omega, q.2⟩⟩
theorem li_right (a b : List Int) : ∀ (m : Nat) (j : Int), 0 ≤ j → (li m (a ++ b) ((a.length : Int) + j)).length = (li m b j).length
  | 0, _, _ => rfl
  | m + 1, j, h => by
    have ih := li_right a b m (j + 1) (by omega)
    have e := nl_right a b h
    rw [li, li]
    by_cases c : j < (b.length : Int)
    · rw [if_pos c, if_pos (by rw [List.length_append]; omega)]
      rw [← Int.add_assoc] at ih
      by_cases c2 : nl b j
      · rw [if_pos c2, if_pos (e.2 c2), List.length_cons, List.length_cons, ih]
      · rw [if_neg c2, if_neg (fun h => c2 (e.1 h)), ih]
    · rw [if_neg c, if_neg (by rw [List.length_append]; omega)]
theorem li_fuel (b : List Int) : ∀ (m d : Nat) (i : Int), (b.length : Int) ≤ i + m → li (m + d) b i = li m b i
  | 0, 0, _, _ => rfl
  | 0, d + 1, i, h => by
    show li (0 + d + 1) b i = []
    rw [li, if_neg (by omega)]
  | m + 1, d, i, h => by
    rw [show m + 1 + d = (m + d) + 1 by omega, li, li, li_fuel b m d (i + 1) (by omega)]
theorem li_app (a b : List Int) (m : Nat) (hm : b.length ≤ m) : ∀ (n : Nat) (i : Int), 0 ≤ i → i ≤ (a.length : Int) → (a.length : Int) ≤ i + n → (li (n + m) (a ++ b) i).length + (if i < (a.length : Int) ∧ cutE a b then 1 else 0) = (li n a i).length + (li m b 0).length
  | 0, i, h0, h1, h2 => by
    rw [if_neg (fun h => by omega), show i = (a.length : Int) + 0 by omega, Nat.zero_add, li_right a b m 0 (by omega)]
    simp [li]
  | n + 1, i, h0, h1, h2 => by
    by_cases c : i < (a.length : Int)
    · have ih := li_app a b m hm n (i + 1) (by omega) (by omega) (by omega)
      rw [show n + 1 + m = (n + m) + 1 by omega, li, li, if_pos c, if_pos (by rw [List.length_append]; omega)]
      have e0 := rd_left a b h0 c
      by_cases c1 : i + 1 < (a.length : Int)
      · have e1 := rd_left a b (i := i + 1) (by omega) c1
        have e : nl (a ++ b) i ↔ nl a i := by
          unfold nl
          rw [e0, e1, List.length_append]
          constructor
          · rintro (h | ⟨h, g⟩)
            · exact Or.inl h
            · exact Or.inr ⟨h, fun q => g ⟨by omega, q.2⟩⟩
          · rintro (h | ⟨h, g⟩)
            · exact Or.inl h
            · exact Or.inr ⟨h, fun q => g ⟨by omega, q.2⟩⟩
        have ei : (if i < (a.length : Int) ∧ cutE a b then 1 else 0) = (if i + 1 < (a.length : Int) ∧ cutE a b then 1 else 0) := by
          by_cases g : cutE a b
          · rw [if_pos ⟨c, g⟩, if_pos ⟨c1, g⟩]
          · rw [if_neg (fun h => g h.2), if_neg (fun h => g h.2)]
        rw [ei]
        by_cases c2 : nl a i
        · rw [if_pos c2, if_pos (e.2 c2), List.length_cons, List.length_cons]; omega
        · rw [if_neg c2, if_neg (fun h => c2 (e.1 h))]; exact ih
      · rw [if_neg (fun h => c1 h.1)] at ih
        have hi : i = (a.length : Int) - 1 := by omega
        have e1 : rd (a ++ b) (i + 1) = rd b 0 := by
          have := rd_right a b (j := 0) (by omega)
          rw [show i + 1 = (a.length : Int) + 0 by omega]; exact this
        have na : nl a i ↔ rd a i = 10 ∨ rd a i = 13 := by
          unfold nl
          constructor
          · rintro (h | ⟨h, g⟩)
            · exact Or.inl h
            · exact Or.inr h
          · rintro (h | h)
            · exact Or.inl h
            · exact Or.inr ⟨h, fun q => c1 q.1⟩
        by_cases g : cutE a b
        · have g3 := g.2.2.1
          rw [← hi] at g3
          rw [if_pos (show i < (a.length : Int) ∧ cutE a b from ⟨c, g⟩), if_pos (na.2 (Or.inr g3)), if_neg (c := nl (a ++ b) i), List.length_cons]
          · omega
          · unfold nl
            rw [e0, e1, List.length_append]
            rintro (h | ⟨h, q⟩)
            · omega
            · exact q ⟨by have := g.2.1; omega, g.2.2.2⟩
        · rw [if_neg (c := i < (a.length : Int) ∧ cutE a b) (fun h => g h.2)]
          have e : nl (a ++ b) i ↔ nl a i := by
            rw [na]
            unfold nl
            rw [e0, e1, List.length_append]
            constructor
            · rintro (h | ⟨h, _⟩)
              · exact Or.inl h
              · exact Or.inr h
            · rintro (h | h)
              · exact Or.inl h
              · exact Or.inr ⟨h, fun q => g ⟨by omega, by omega, by rw [← hi]; exact h, q.2⟩⟩
          by_cases c2 : nl a i
          · rw [if_pos c2, if_pos (e.2 c2), List.length_cons, List.length_cons]; omega
          · rw [if_neg c2, if_neg (fun h => c2 (e.1 h))]; omega
    · rw [if_neg (fun h => c h.1), show i = (a.length : Int) + 0 by omega, li_right a b _ 0 (by omega), show n + 1 + m = m + (n + 1) by omega, li_fuel b m (n + 1) 0 (by omega), li, if_neg (by omega)]; simp
end UtfJoin

/-- whatever the two texts are, the law's call is true: a letter is what its own bytes make it, so those of both are those of each, one behind the other. -/
theorem UtfJoins : whetstonelaw03_UtfJoins.Pure := by
  intro a b _ _ hwa _ _ hwb
  have e1 : IntKind.u8.min = 0 := rfl
  have e2 : IntKind.u8.max = 255 := rfl
  have ha : By a := fun x hx => by
    have := hwa x hx
    simp [Lit.wf, e1, e2] at this; omega
  have hb : By b := fun x hx => by
    have := hwb x hx
    simp [Lit.wf, e1, e2] at this; omega
  have out : Ev (fun k => whetstonelaw03_UtfJoins.j0 k a b true) true := Ev.step (fun k => whetstonelaw03_UtfJoins.j0.eq_2 _ _ _ _) (ev_pos rfl (Ev.bind lettered_ev (ev_ret rfl)))
  refine Ev.rounds (Ev.bind lettered_ev (ev_pos rfl (ev_ite (fun _ => out) (fun h1 => ?_))))
  by_cases h2 : (b.length : Int) > 400
  · rw [decide_eq_true h2]; exact out
  rw [decide_eq_false h2]
  have na : a.length ≤ 1000000 := by omega
  have nb : b.length ≤ 1000000 := by omega
  have hall := ha.app hb
  have nall : (a ++ b).length ≤ 1000000 := by rw [List.length_append]; omega
  refine Ev.step (fun k => whetstonelaw03_UtfJoins.j0.eq_2 _ _ _ _) (ev_neg (by simp) (Ev.bind (valid_ev ha na) (Ev.bind (valid_ev hb nb) (ev_some rfl (ev_pos (by simp; omega) (ev_some rfl (ev_pos (by simp; omega) ?_)))))))
  rw [List.nil_append]
  refine ev_some rfl (Ev.bind (valid_ev hall nall) ?_)
  have give : Ev (fun k => whetstonelaw03_UtfJoins.j1 k a b (a ++ b) (fb (ls (a ++ b).length (a ++ b) 0)).2 true) true := Ev.step (fun k => whetstonelaw03_UtfJoins.j1.eq_2 _ _ _ _ _ _) (ev_pos rfl (ev_ret rfl))
  refine ev_ite (fun fa => ?_) (fun _ => give)
  by_cases fbb : (fb (ls b.length b 0)).2 = 0
  rotate_left
  · rw [show ((fb (ls b.length b 0)).2 != 0) = true by simpa using fbb]; exact give
  rw [show ((fb (ls b.length b 0)).2 != 0) = false by simpa using fbb]
  have el : ls (a ++ b).length (a ++ b) 0 = ls a.length a 0 ++ (ls b.length b 0).map (sh a.length) := by
    rw [List.length_append]; exact ls_app a b b.length (by omega) a.length 0 (by omega) (by omega) (by omega) fa
  have eg : (fb (ls (a ++ b).length (a ++ b) 0)).2 = 0 := by
    rw [el]; exact fb_app _ _ fa (by rw [fb_sh]; exact fbb)
  have l1 := ls_len a.length a 0
  have l2 := ls_len b.length b 0
  have l3 := ls_len (a ++ b).length (a ++ b) 0
  have b1 := us_bd (ls a.length a 0)
  have b2 := us_bd (ls b.length b 0)
  refine Ev.step (fun k => whetstonelaw03_UtfJoins.j1.eq_2 _ _ _ _ _ _) (ev_neg (by simp) (ev_pos eg (Ev.bind (units_ev hall nall) (Ev.bind (units_ev ha na) (Ev.bind (units_ev hb nb) ?_)))))
  have eu : (utf_Units.fold (ls (a ++ b).length (a ++ b) 0) != wrap64 (utf_Units.fold (ls a.length a 0) + utf_Units.fold (ls b.length b 0))) = false := by
    rw [ufold_us (by omega), ufold_us (by omega), ufold_us (by omega), wr (by omega) (by omega), el, us_app, us_sh]; simp
  rw [eu]
  have hli := li_app a b b.length (by omega) a.length 0 (by omega) (by omega) (by omega)
  have la := li_len a.length a 0
  have lb := li_len b.length b 0
  have Lall := alines_ev nall
  have La := alines_ev na
  have Lb := alines_ev nb
  have len : ∀ c : List Int, (lns c).length = (li c.length c 0).length + 1 := fun c => by unfold lns; rw [List.length_cons]
  have yes : cutE a b → Ev (fun k => whetstonelaw03_UtfJoins.j3 k a b (a ++ b) true) true := by
    intro hc
    rw [if_pos ⟨by have := hc.1; omega, hc⟩, ← List.length_append] at hli
    refine Ev.step (fun k => whetstonelaw03_UtfJoins.j3.eq_2 _ _ _ _ _) (ev_pos rfl (Ev.bind Lall (Ev.bind La (Ev.bind Lb (ev_ret ?_)))))
    rw [len, len, len, wr (n := ((((li a.length a 0).length + 1 : Nat) : Int) + (((li b.length b 0).length + 1 : Nat) : Int))) (by omega) (by omega), wr (by omega) (by omega)]
    rw [beq_iff_eq]; omega
  have no : ¬ cutE a b → Ev (fun k => whetstonelaw03_UtfJoins.j3 k a b (a ++ b) false) true := by
    intro hc
    rw [if_neg (fun h => hc h.2), ← List.length_append] at hli
    refine Ev.step (fun k => whetstonelaw03_UtfJoins.j3.eq_2 _ _ _ _ _) (ev_neg (by simp) (Ev.bind Lall (Ev.bind La (Ev.bind Lb (ev_ret ?_)))))
    rw [len, len, len, wr (n := ((((li a.length a 0).length + 1 : Nat) : Int) + (((li b.length b 0).length + 1 : Nat) : Int))) (by omega) (by omega), wr (by omega) (by omega)]
    rw [beq_iff_eq]; omega
  have w : wrap64 ((a.length : Int) - 1) = (a.length : Int) - 1 := wr (by omega) (by omega)
  refine Ev.step (fun k => whetstonelaw03_UtfJoins.j2.eq_2 _ _ _ _ _) (ev_neg (by simp) ?_)
  rw [w]
  refine ev_ite (fun c1 => ev_ite (fun c2 => ev_pos (by omega) (ev_pos (by omega) (ev_ite (fun c3 => ev_pos (by omega) ?_) (fun c3 => no (fun h => c3 h.2.2.1))))) (fun c2 => no (fun h => by have := h.2.1; omega))) (fun c1 => no (fun h => by have := h.1; omega))
  by_cases c4 : rd b 0 = 10
  · rw [show (rd b 0 == 10) = true by simpa using c4]; exact yes ⟨by omega, by omega, c3, c4⟩
  · rw [show (rd b 0 == 10) = false by simpa using c4]; exact no (fun h => c4 h.2.2.2)

end Go.Proofs.Ytpphijljdoojdaa.Pure
