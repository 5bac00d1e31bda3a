/-
The plain law of UtfBack: whatever the bytes are, the law's call is true: a letter's position counts the letters between its line's beginning and itself, and so many are gone over on the way back. No further condition.
-/
import Derived.Test.YtpphijljdoojdaaQUtfBackx7
set_option maxRecDepth 100000
set_option linter.unusedVariables false
set_option linter.unusedSimpArgs false
namespace Go.Proofs.Ytpphijljdoojdaa.Pure
open Go.RowKit Go.Proofs.Ytpphijljdoojdaa.QUtfBack Go.Proofs.YtpphijljdoojdaaW.PrintWords Go.Proofs.YtpphijljdoojdaaW.PrintLast

/-! ### plain lemmas: rounds -/
section Base
variable {α β : Type}
theorem ev_pos {c : Prop} [Decidable c] {g f : Nat → Option α} {r : α} (hc : c) (h : Ev g r) : Ev (fun k => if c then g k else f k) r := by
  simpa only [if_pos hc] using h
theorem ev_neg {c : Prop} [Decidable c] {g f : Nat → Option α} {r : α} (hc : ¬ c) (h : Ev f r) : Ev (fun k => if c then g k else f k) r := by
  simpa only [if_neg hc] using h
theorem ev_ite {c : Prop} [Decidable c] {g f : Nat → Option α} {r : α} (h1 : c → Ev g r) (h2 : ¬ c → Ev f r) : Ev (fun k => if c then g k else f k) r := by
  by_cases hc : c
  · exact ev_pos hc (h1 hc)
  · exact ev_neg hc (h2 hc)
theorem ev_bind {g : Nat → Option α} {f : Nat → α → Option β} {a : α} {r : β} (h : Ev g a) (k : Ev (fun n => f n a) r) : Ev (fun n => (g n).bind (f n)) r := Ev.bind h k
theorem ev_some {o : Option α} {f : Nat → α → Option β} {a : α} {r : β} (h : o = some a) (k : Ev (fun n => f n a) r) : Ev (fun n => o.bind (f n)) r := by
  subst h; exact k
theorem ev_ret {a r : α} (h : a = r) : Ev (fun _ => some a) r := h ▸ Ev.now a
theorem ev_cast {g : Nat → Option α} {a r : α} (h : Ev g a) (e : a = r) : Ev g r := e ▸ h
theorem ev_ex {g : Nat → Option α} {r : α} (h : Ev g r) : ∃ k, g k = some r := h.rounds
theorem wr {n : Int} (h : -9223372036854775808 ≤ n) (h' : n ≤ 9223372036854775807) : wrap64 n = n := by unfold wrap64; omega
theorem drc {b : List α} {i : Nat} {c : α} {t : List α} (h : b.drop i = c :: t) : i < b.length ∧ b.drop (i + 1) = t ∧ b[i]? = some c := by
  have h1 : i < b.length := by
    rcases Nat.lt_or_ge i b.length with h1 | h1
    · exact h1
    · rw [List.drop_eq_nil_of_le h1] at h; cases h
  rw [List.drop_eq_getElem_cons h1] at h
  injection h with h2 h3
  exact ⟨h1, h3, by rw [List.getElem?_eq_getElem h1, h2]⟩
theorem drn {b : List α} {i : Nat} (h : b.drop i = []) : b.length ≤ i := by
  rcases Nat.lt_or_ge i b.length with h1 | h1
  · rw [List.drop_eq_getElem_cons h1] at h; cases h
  · exact h1
theorem rd_at {b : List Int} {i : Nat} {c : Int} (h : b[i]? = some c) : rd b (i : Int) = c := by
  unfold rd; rw [Int.toNat_natCast, List.getD_eq_getElem?_getD, h]; rfl
end Base

/-! ### utf: a letter's bytes -/
section UtfEnc
theorem or8 {c y : Int} (n : Nat) (hc : 0 ≤ c ∧ c % 2 ^ n = 0) (hy : 0 ≤ y ∧ y < 2 ^ n) (hs : c + 2 ^ n ≤ 256) : Go.bits .or .u8 c y = c + y := by
  have hb : ∀ v : BitVec 8, IntKind.u8.wrap (v.toNat : Int) = v.toNat := fun v => by rw [IntKind.wrap_u8]; have := v.isLt; omega
  have e : Go.bits .or .u8 c y = ((BitVec.ofInt 8 c ||| BitVec.ofInt 8 y).toNat : Int) := hb _
  rw [e, BitVec.toNat_or]
  have hp : (2 : Int) ^ n = ((2 ^ n : Nat) : Int) := by simp
  have hpos : 0 < 2 ^ n := Nat.two_pow_pos n
  have h1 : (BitVec.ofInt 8 y).toNat = y.toNat := by rw [BitVec.toNat_ofInt]; omega
  have h2 : (BitVec.ofInt 8 c).toNat = 2 ^ n * (c / 2 ^ n).toNat := by
    have e1 := Int.emod_add_mul_ediv c (2 ^ n)
    rw [hc.2, Int.zero_add, hp] at e1
    have h0 : 0 ≤ c / ((2 ^ n : Nat) : Int) := Int.ediv_nonneg hc.1 (by omega)
    have e2 : (((2 ^ n * (c / ((2 ^ n : Nat) : Int)).toNat : Nat)) : Int) = c := by
      rw [Int.natCast_mul, Int.toNat_of_nonneg h0]; exact e1
    rw [hp, BitVec.toNat_ofInt]; omega
  have h5 := Nat.two_pow_add_eq_or_of_lt (i := n) (b := y.toNat) (by rw [hp] at hy; omega) (c / 2 ^ n).toNat
  rw [h1, h2, ← h5, ← h2, BitVec.toNat_ofInt]
  omega
theorem and63 {x : Int} (h0 : 0 ≤ x) (h1 : x < 2147483648) : Go.bits .and .i32 x 63 = x % 64 := by
  have e : Go.bits .and .i32 x 63 = IntKind.i32.wrap ((BitVec.ofInt 32 x &&& BitVec.ofInt 32 63).toNat : Int) := rfl
  have h2 : (BitVec.ofInt 32 63).toNat = 2 ^ 6 - 1 := by decide
  have h3 : (BitVec.ofInt 32 x).toNat = x.toNat := by rw [BitVec.toNat_ofInt]; omega
  rw [e, BitVec.toNat_and, h2, h3, Nat.and_two_pow_sub_one_eq_mod, IntKind.wrap_i32]
  omega
theorem enc_j0 (k : Nat) {r : Int} (h0 : 0 ≤ r) (h1 : r ≤ 1114111) (b : Bool) : utf_Encode.j0 k r b = whetstoneref03_Encode.j0 k r b := by
  cases k with
  | zero => rfl
  | succ k =>
    rw [utf_Encode.j0.eq_2, whetstoneref03_Encode.j0.eq_2]
    have td : ∀ y : Int, Int.tdiv r y = r / y := fun y => Int.tdiv_eq_ediv_of_nonneg h0
    have w1 : wrap64 (r / 64) = r / 64 := wr (by omega) (by omega)
    have w2 : wrap64 (r / 4096) = r / 4096 := wr (by omega) (by omega)
    have w3 : wrap64 (r / 262144) = r / 262144 := wr (by omega) (by omega)
    have m1 : Int.tmod r 64 = r % 64 := Int.tmod_eq_emod_of_nonneg h0
    have m2 : Int.tmod (r / 64) 64 = r / 64 % 64 := Int.tmod_eq_emod_of_nonneg (by omega)
    have m3 : Int.tmod (r / 4096) 64 = r / 4096 % 64 := Int.tmod_eq_emod_of_nonneg (by omega)
    simp only [td, w1, w2, w3, m1, m2, m3]
    have a1 : Go.bits .and .i32 r 63 = r % 64 := and63 h0 (by omega)
    have a2 : Go.bits .and .i32 (r / 64) 63 = r / 64 % 64 := and63 (by omega) (by omega)
    have a3 : Go.bits .and .i32 (r / 4096) 63 = r / 4096 % 64 := and63 (by omega) (by omega)
    simp only [a1, a2, a3]
    have o1 : ∀ y : Int, 0 ≤ y → y < 64 → Go.bits .or .u8 128 (y % 256) = (wrap64 (128 + y)) % 256 := fun y g0 g1 => by
      rw [or8 6 (by decide) (by constructor <;> omega) (by decide), wr (by omega) (by omega)]; omega
    rw [o1 (r % 64) (by omega) (by omega), o1 (r / 64 % 64) (by omega) (by omega), o1 (r / 4096 % 64) (by omega) (by omega)]
    by_cases hb : b = true
    · rw [if_pos hb, if_pos hb]
    · rw [if_neg hb, if_neg hb]
      by_cases c1 : r < 128
      · rw [if_pos c1, if_pos c1]
      · rw [if_neg c1, if_neg c1]
        by_cases c2 : r < 2048
        · rw [if_pos c2, if_pos c2]
          have : Go.bits .or .u8 192 (r / 64 % 256) = (wrap64 (192 + r / 64)) % 256 := by
            rw [or8 6 (by decide) (by constructor <;> omega) (by decide), wr (by omega) (by omega)]; omega
          rw [this]
        · rw [if_neg c2, if_neg c2]
          by_cases c3 : r < 65536
          · rw [if_pos c3, if_pos c3]
            have : Go.bits .or .u8 224 (r / 4096 % 256) = (wrap64 (224 + r / 4096)) % 256 := by
              rw [or8 5 (by decide) (by constructor <;> omega) (by decide), wr (by omega) (by omega)]; omega
            rw [this]
          · rw [if_neg c3, if_neg c3]
            have : Go.bits .or .u8 240 (r / 262144 % 256) = (wrap64 (240 + r / 262144)) % 256 := by
              rw [or8 4 (by decide) (by constructor <;> omega) (by decide), wr (by omega) (by omega)]; omega
            rw [this]
theorem enc_bad (k : Nat) (r r' : Int) : utf_Encode.j0 k r true = whetstoneref03_Encode.j0 k r' true := by
  cases k with
  | zero => rfl
  | succ k => rw [utf_Encode.j0.eq_2, whetstoneref03_Encode.j0.eq_2, if_pos rfl, if_pos rfl]
theorem enc_eq (k : Nat) (r : Int) : utf_Encode.f k r = whetstoneref03_Encode.f k r := by
  unfold utf_Encode.f whetstoneref03_Encode.f
  by_cases h0 : r < 0
  · rw [if_pos h0, if_pos h0]; exact enc_bad _ _ _
  · rw [if_neg h0, if_neg h0]
    by_cases h1 : r > 1114111
    · rw [if_pos h1, if_pos h1]; exact enc_bad _ _ _
    · rw [if_neg h1, if_neg h1, enc_j0 k (by omega) (by omega), enc_j0 k (by omega) (by omega)]
theorem enc_ev (r : Int) : Ev (fun k => utf_Encode.f k r) ((utf_Encode.f 1 r).getD ([], 0)) := Ev.of (utf_Encode.mono r) (utf_Encode.one r)
end UtfEnc
theorem lettered_ev : Ev (fun k => whetstonelaw03_lettered.f k) true := Ev.of (k := 60) whetstonelaw03_lettered.mono (by decide +kernel)

/-! ### utf: the letter that begins at a byte -/
section UtfLet
theorem and192 : ∀ n : Fin 256, (Go.bits .and .u8 (n.val : Int) 192 == 128) = decide (128 ≤ n.val ∧ n.val < 192) := by decide +kernel
theorem and63b : ∀ n : Fin 256, Go.bits .and .u8 (n.val : Int) 63 = (n.val : Int) % 64 := by decide +kernel
theorem and31 : ∀ n : Fin 256, Go.bits .and .i32 (n.val : Int) 31 = (n.val : Int) % 32 := by decide +kernel
theorem and15 : ∀ n : Fin 256, Go.bits .and .i32 (n.val : Int) 15 = (n.val : Int) % 16 := by decide +kernel
theorem and7 : ∀ n : Fin 256, Go.bits .and .i32 (n.val : Int) 7 = (n.val : Int) % 8 := by decide +kernel
theorem fin_of {x : Int} (h : 0 ≤ x ∧ x < 256) : ∃ n : Fin 256, (n.val : Int) = x := ⟨⟨x.toNat, by omega⟩, by simp; omega⟩
theorem ori32 {c y : Int} (n : Nat) (hc : 0 ≤ c ∧ c % 2 ^ n = 0) (hy : 0 ≤ y ∧ y < 2 ^ n) (hs : c + 2 ^ n ≤ 2147483648) : Go.bits .or .i32 c y = c + y := by
  have e : Go.bits .or .i32 c y = IntKind.i32.wrap ((BitVec.ofInt 32 c ||| BitVec.ofInt 32 y).toNat : Int) := rfl
  rw [e, BitVec.toNat_or]
  have hp : (2 : Int) ^ n = ((2 ^ n : Nat) : Int) := by simp
  have hpos : 0 < 2 ^ n := Nat.two_pow_pos n
  have h1 : (BitVec.ofInt 32 y).toNat = y.toNat := by rw [BitVec.toNat_ofInt]; omega
  have h2 : (BitVec.ofInt 32 c).toNat = 2 ^ n * (c / 2 ^ n).toNat := by
    have e1 := Int.emod_add_mul_ediv c (2 ^ n)
    rw [hc.2, Int.zero_add, hp] at e1
    have h0 : 0 ≤ c / ((2 ^ n : Nat) : Int) := Int.ediv_nonneg hc.1 (by omega)
    have e2 : (((2 ^ n * (c / ((2 ^ n : Nat) : Int)).toNat : Nat)) : Int) = c := by
      rw [Int.natCast_mul, Int.toNat_of_nonneg h0]; exact e1
    rw [hp, BitVec.toNat_ofInt]; omega
  have h5 := Nat.two_pow_add_eq_or_of_lt (i := n) (b := y.toNat) (by rw [hp] at hy; omega) (c / 2 ^ n).toNat
  rw [h1, h2, ← h5, ← h2, BitVec.toNat_ofInt, IntKind.wrap_i32]
  omega
def By (b : List Int) : Prop := ∀ x ∈ b, 0 ≤ x ∧ x < 256
theorem By.place {b : List Int} (h : By b) (i : Int) : 0 ≤ rd b i ∧ rd b i < 256 := by
  unfold rd
  rcases Nat.lt_or_ge i.toNat b.length with hi | hi
  · rw [List.getD_eq_getElem?_getD, List.getElem?_eq_getElem hi]; exact h _ (List.getElem_mem _)
  · rw [List.getD_eq_getElem?_getD, List.getElem?_eq_none hi]; exact ⟨Int.le_refl _, by decide⟩
def r2 (c d : Int) : Int := (c - 192) * 64 + (d - 128)
def r3 (c d e : Int) : Int := ((c - 224) * 64 + (d - 128)) * 64 + (e - 128)
def r4 (c d e f : Int) : Int := (((c - 240) * 64 + (d - 128)) * 64 + (e - 128)) * 64 + (f - 128)
def goesOn (b : List Int) (i : Int) : Prop := i < (b.length : Int) ∧ 128 ≤ rd b i ∧ rd b i < 192
instance (b : List Int) (i : Int) : Decidable (goesOn b i) := inferInstanceAs (Decidable (_ ∧ _))
/-- The letter, and how many bytes it has. -/
def lt (b : List Int) (i : Int) : Int × Int :=
  if rd b i < 128 then (rd b i, 1)
  else if 194 ≤ rd b i ∧ rd b i ≤ 223 ∧ goesOn b (i + 1) then (r2 (rd b i) (rd b (i + 1)), 2)
  else if 224 ≤ rd b i ∧ rd b i ≤ 239 ∧ goesOn b (i + 1) ∧ goesOn b (i + 2) then (if 2048 ≤ r3 (rd b i) (rd b (i + 1)) (rd b (i + 2)) ∧ (r3 (rd b i) (rd b (i + 1)) (rd b (i + 2)) < 55296 ∨ 57343 < r3 (rd b i) (rd b (i + 1)) (rd b (i + 2))) then (r3 (rd b i) (rd b (i + 1)) (rd b (i + 2)), 3) else (0, 0))
  else if 240 ≤ rd b i ∧ rd b i ≤ 244 ∧ goesOn b (i + 1) ∧ goesOn b (i + 2) ∧ goesOn b (i + 3) then (if 65536 ≤ r4 (rd b i) (rd b (i + 1)) (rd b (i + 2)) (rd b (i + 3)) ∧ r4 (rd b i) (rd b (i + 1)) (rd b (i + 2)) (rd b (i + 3)) ≤ 1114111 then (r4 (rd b i) (rd b (i + 1)) (rd b (i + 2)) (rd b (i + 3)), 4) else (0, 0))
  else (0, 0)
theorem more_eq {b : List Int} (hb : By b) {i : Int} (hi : 0 ≤ i) : utf_more.f b i = some (decide (goesOn b i)) := by
  unfold utf_more.f
  obtain ⟨n, hn⟩ := fin_of (hb.place i)
  by_cases h : i < (b.length : Int)
  · rw [if_pos h, if_pos hi, ← hn, and192 n]
    by_cases hg : goesOn b i
    · rw [decide_eq_true hg, decide_eq_true (show 128 ≤ n.val ∧ n.val < 192 from by have h1 := hg.2.1; have h2 := hg.2.2; omega)]
    · rw [decide_eq_false hg, decide_eq_false (show ¬ (128 ≤ n.val ∧ n.val < 192) from fun h2 => hg ⟨h, by omega, by omega⟩)]
  · rw [if_neg h, decide_eq_false (fun hg => h hg.1)]
theorem bits6 {b : List Int} (hb : By b) (i : Int) : Go.bits .and .u8 (rd b i) 63 = rd b i % 64 := by
  obtain ⟨n, hn⟩ := fin_of (hb.place i)
  rw [← hn]; exact and63b n
theorem bits5 {b : List Int} (hb : By b) (i : Int) : Go.bits .and .i32 (rd b i) 31 = rd b i % 32 := by
  obtain ⟨n, hn⟩ := fin_of (hb.place i)
  rw [← hn]; exact and31 n
theorem bits4 {b : List Int} (hb : By b) (i : Int) : Go.bits .and .i32 (rd b i) 15 = rd b i % 16 := by
  obtain ⟨n, hn⟩ := fin_of (hb.place i)
  rw [← hn]; exact and15 n
theorem bits3 {b : List Int} (hb : By b) (i : Int) : Go.bits .and .i32 (rd b i) 7 = rd b i % 8 := by
  obtain ⟨n, hn⟩ := fin_of (hb.place i)
  rw [← hn]; exact and7 n
theorem w32 {x : Int} (h0 : 0 ≤ x) (h1 : x < 2147483648) : wrap32 x = x := by unfold wrap32; omega
theorem or2 {c d : Int} (hc : 192 ≤ c ∧ c < 224) (hd : 128 ≤ d ∧ d < 192) : Go.bits .or .i32 (wrap32 (c % 32 * 64)) (wrap32 (d % 64)) = r2 c d := by
  rw [w32 (by omega) (by omega), w32 (by omega) (by omega), ori32 6 (by constructor <;> omega) (by constructor <;> omega) (by omega)]
  unfold r2; omega
theorem or3 {c d e : Int} (hc : 224 ≤ c ∧ c < 240) (hd : 128 ≤ d ∧ d < 192) (he : 128 ≤ e ∧ e < 192) : Go.bits .or .i32 (Go.bits .or .i32 (wrap32 (c % 16 * 4096)) (wrap32 (wrap32 (d % 64) * 64))) (wrap32 (e % 64)) = r3 c d e := by
  rw [w32 (x := d % 64) (by omega) (by omega), w32 (x := e % 64) (by omega) (by omega), w32 (x := c % 16 * 4096) (by omega) (by omega), w32 (x := d % 64 * 64) (by omega) (by omega), ori32 12 (c := c % 16 * 4096) (by constructor <;> omega) (by constructor <;> omega) (by omega), ori32 6 (by constructor <;> omega) (by constructor <;> omega) (by omega)]
  unfold r3; omega
theorem or4 {c d e f : Int} (hc : 240 ≤ c ∧ c < 248) (hd : 128 ≤ d ∧ d < 192) (he : 128 ≤ e ∧ e < 192) (hf : 128 ≤ f ∧ f < 192) : Go.bits .or .i32 (Go.bits .or .i32 (Go.bits .or .i32 (wrap32 (c % 8 * 262144)) (wrap32 (wrap32 (d % 64) * 4096))) (wrap32 (wrap32 (e % 64) * 64))) (wrap32 (f % 64)) = r4 c d e f := by
  rw [w32 (x := d % 64) (by omega) (by omega), w32 (x := e % 64) (by omega) (by omega), w32 (x := f % 64) (by omega) (by omega), w32 (x := c % 8 * 262144) (by omega) (by omega), w32 (x := d % 64 * 4096) (by omega) (by omega), w32 (x := e % 64 * 64) (by omega) (by omega), ori32 18 (c := c % 8 * 262144) (by constructor <;> omega) (by constructor <;> omega) (by omega), ori32 12 (c := c % 8 * 262144 + d % 64 * 4096) (y := e % 64 * 64) (by constructor <;> omega) (by constructor <;> omega) (by omega), ori32 6 (by constructor <;> omega) (by constructor <;> omega) (by omega)]
  unfold r4; omega
theorem letter_ev {b : List Int} (hb : By b) {i : Int} (hi : 0 ≤ i) (hl : i < (b.length : Int)) (hn : b.length ≤ 1000000) : Ev (fun k => utf_letter.f k b i) (lt b i) := by
  have hc := hb.place i
  have wc : wrap32 (rd b i) = rd b i := w32 (by omega) (by omega)
  have w1 : wrap64 (i + 1) = i + 1 := wr (by omega) (by omega)
  have w2 : wrap64 (i + 2) = i + 2 := wr (by omega) (by omega)
  have w3 : wrap64 (i + 3) = i + 3 := wr (by omega) (by omega)
  have m1 := more_eq hb (show 0 ≤ i + 1 by omega)
  have m2 := more_eq hb (show 0 ≤ i + 2 by omega)
  have m3 := more_eq hb (show 0 ≤ i + 3 by omega)
  have j2 : ¬ (rd b i < 128) → ¬ (194 ≤ rd b i ∧ rd b i ≤ 223 ∧ goesOn b (i + 1)) → ¬ (224 ≤ rd b i ∧ rd b i ≤ 239 ∧ goesOn b (i + 1) ∧ goesOn b (i + 2)) → Ev (fun k => utf_letter.j1 k b i (rd b i) false) (lt b i) := by
    intro n1 n2 n3
    have zero : ¬ (240 ≤ rd b i ∧ rd b i ≤ 244 ∧ goesOn b (i + 1) ∧ goesOn b (i + 2) ∧ goesOn b (i + 3)) → Ev (fun k => utf_letter.j2 k b i (rd b i) false) (lt b i) := by
      intro n4
      refine Ev.step (fun k => utf_letter.j2.eq_2 _ _ _ _ _) (ev_neg (by simp) (ev_ret ?_))
      unfold lt
      rw [if_neg n1, if_neg n2, if_neg n3, if_neg n4]
    refine Ev.step (fun k => utf_letter.j1.eq_2 _ _ _ _ _) (ev_neg (by simp) ?_)
    simp only [w1, w2, w3]
    refine ev_ite (fun h1 => ev_ite (fun h2 => ev_some m1 ?_) (fun h2 => zero (fun h => h2 h.2.1))) (fun h1 => zero (fun h => h1 h.1))
    by_cases g1 : goesOn b (i + 1)
    · refine ev_pos (decide_eq_true g1) (ev_some m2 ?_)
      by_cases g2 : goesOn b (i + 2)
      · refine ev_pos (decide_eq_true g2) (ev_some m3 ?_)
        by_cases g3 : goesOn b (i + 3)
        · rw [decide_eq_true g3]
          refine Ev.step (fun k => utf_letter.j2.eq_2 _ _ _ _ _) (ev_pos rfl ?_)
          simp only [w1, w2, w3, bits6 hb, bits3 hb]
          rw [or4 (by omega) g1.2 g2.2 g3.2]
          have e : lt b i = if 65536 ≤ r4 (rd b i) (rd b (i + 1)) (rd b (i + 2)) (rd b (i + 3)) ∧ r4 (rd b i) (rd b (i + 1)) (rd b (i + 2)) (rd b (i + 3)) ≤ 1114111 then (r4 (rd b i) (rd b (i + 1)) (rd b (i + 2)) (rd b (i + 3)), 4) else (0, 0) := by
            unfold lt
            rw [if_neg n1, if_neg n2, if_neg n3, if_pos ⟨h1, h2, g1, g2, g3⟩]
          rw [e]
          refine ev_pos (by omega) (ev_pos g1.1 (ev_pos (by omega) (ev_pos g2.1 (ev_pos (by omega) (ev_pos g3.1 ?_)))))
          refine ev_ite (fun a1 => ev_ite (fun a2 => ev_ret ?_) (fun a2 => ev_ret ?_)) (fun a1 => ev_ret ?_)
          · rw [if_pos ⟨a1, a2⟩]
          · rw [if_neg (fun h => a2 h.2)]
          · rw [if_neg (fun h => a1 h.1)]
        · rw [decide_eq_false g3]; exact zero (fun h => g3 h.2.2.2.2)
      · exact ev_neg (by rw [decide_eq_false g2]; simp) (zero (fun h => g2 h.2.2.2.1))
    · exact ev_neg (by rw [decide_eq_false g1]; simp) (zero (fun h => g1 h.2.2.1))
  have j1 : ¬ (rd b i < 128) → ¬ (194 ≤ rd b i ∧ rd b i ≤ 223 ∧ goesOn b (i + 1)) → Ev (fun k => utf_letter.j0 k b i (rd b i) false) (lt b i) := by
    intro n1 n2
    refine Ev.step (fun k => utf_letter.j0.eq_2 _ _ _ _ _) (ev_neg (by simp) ?_)
    simp only [w1, w2]
    refine ev_ite (fun h1 => ev_ite (fun h2 => ev_some m1 ?_) (fun h2 => j2 n1 n2 (fun h => h2 h.2.1))) (fun h1 => j2 n1 n2 (fun h => h1 h.1))
    by_cases g1 : goesOn b (i + 1)
    · refine ev_pos (decide_eq_true g1) (ev_some m2 ?_)
      by_cases g2 : goesOn b (i + 2)
      · rw [decide_eq_true g2]
        refine Ev.step (fun k => utf_letter.j1.eq_2 _ _ _ _ _) (ev_pos rfl ?_)
        simp only [w1, w2, bits6 hb, bits4 hb]
        rw [or3 (by omega) g1.2 g2.2]
        have e : lt b i = if 2048 ≤ r3 (rd b i) (rd b (i + 1)) (rd b (i + 2)) ∧ (r3 (rd b i) (rd b (i + 1)) (rd b (i + 2)) < 55296 ∨ 57343 < r3 (rd b i) (rd b (i + 1)) (rd b (i + 2))) then (r3 (rd b i) (rd b (i + 1)) (rd b (i + 2)), 3) else (0, 0) := by
          unfold lt
          rw [if_neg n1, if_neg n2, if_pos ⟨h1, h2, g1, g2⟩]
        rw [e]
        refine ev_pos (by omega) (ev_pos g1.1 (ev_pos (by omega) (ev_pos g2.1 ?_)))
        refine ev_ite (fun a1 => ev_ite (fun a2 => ev_ret ?_) (fun a2 => ev_ite (fun a3 => ev_ret ?_) (fun a3 => ev_ret ?_))) (fun a1 => ev_ret ?_)
        · rw [if_pos ⟨a1, Or.inl a2⟩]
        · rw [if_pos ⟨a1, Or.inr a3⟩]
        · rw [if_neg (fun h => h.2.elim a2 a3)]
        · rw [if_neg (fun h => a1 h.1)]
      · rw [decide_eq_false g2]; exact j2 n1 n2 (fun h => g2 h.2.2.2)
    · exact ev_neg (by rw [decide_eq_false g1]; simp) (j2 n1 n2 (fun h => g1 h.2.2.1))
  refine ev_pos hi (ev_pos hl ?_)
  simp only [wc, w1]
  refine ev_ite (fun h1 => ev_ret ?_) (fun h1 => ev_ite (fun h2 => ev_ite (fun h3 => ev_some m1 ?_) (fun h3 => j1 h1 (fun h => h3 h.2.1))) (fun h2 => j1 h1 (fun h => h2 h.1)))
  · unfold lt; rw [if_pos h1]
  · by_cases g1 : goesOn b (i + 1)
    · rw [decide_eq_true g1]
      refine Ev.step (fun k => utf_letter.j0.eq_2 _ _ _ _ _) (ev_pos rfl ?_)
      simp only [w1, bits6 hb, bits5 hb]
      rw [or2 (by omega) g1.2]
      refine ev_pos (by omega) (ev_pos g1.1 (ev_ret ?_))
      unfold lt
      rw [if_neg h1, if_pos ⟨h2, h3, g1⟩]
    · rw [decide_eq_false g1]; exact j1 h1 (fun h => g1 h.2.2)
end UtfLet

/-! ### utf: the reference's letter is the program's -/
section UtfOne
theorem str_list (l : List Int) : (strOfNums l).toList = l.map fun n => UInt8.ofNat n.toNat := by
  unfold strOfNums; rw [ByteArray.toList_eq]
theorem str_inj : ∀ {a b : List Int}, By a → By b → ((strOfNums a).toList = (strOfNums b).toList ↔ a = b) := by
  intro a b ha hb
  rw [str_list, str_list]
  refine ⟨?_, fun h => by rw [h]⟩
  intro h
  induction a generalizing b with
  | nil => cases b with
    | nil => rfl
    | cons y b => simp at h
  | cons x a ih =>
    cases b with
    | nil => simp at h
    | cons y b =>
      rw [List.map_cons, List.map_cons] at h
      injection h with h1 h2
      have hx := ha x List.mem_cons_self
      have hy := hb y List.mem_cons_self
      have e := congrArg UInt8.toNat h1
      rw [UInt8.toNat_ofNat', UInt8.toNat_ofNat'] at e
      rw [ih (fun z hz => ha z (List.mem_cons_of_mem _ hz)) (fun z hz => hb z (List.mem_cons_of_mem _ hz)) h2]
      congr 1
      omega
/-- A letter's bytes, or none. -/
def enc (r : Int) : List Int × Int :=
  if r < 0 ∨ 1114111 < r ∨ (55296 ≤ r ∧ r ≤ 57343) then ([], 10)
  else if r < 128 then ([r], 0)
  else if r < 2048 then ([192 + r / 64, 128 + r % 64], 0)
  else if r < 65536 then ([224 + r / 4096, 128 + r / 64 % 64, 128 + r % 64], 0)
  else ([240 + r / 262144, 128 + r / 4096 % 64, 128 + r / 64 % 64, 128 + r % 64], 0)
theorem enc_by (r : Int) : By (enc r).1 := by
  unfold enc By
  intro x hx
  split at hx
  · simp at hx
  split at hx
  · simp at hx; omega
  split at hx
  · simp at hx; omega
  split at hx
  · simp at hx; omega
  · simp at hx; omega
theorem renc_ev (r : Int) : Ev (fun k => whetstoneref03_Encode.f k r) (enc r) := by
  have bad : ∀ r', (r < 0 ∨ 1114111 < r ∨ (55296 ≤ r ∧ r ≤ 57343)) → Ev (fun k => whetstoneref03_Encode.j0 k r' true) (enc r) := by
    intro r' h
    refine Ev.step (fun k => whetstoneref03_Encode.j0.eq_2 _ _ _) (ev_pos rfl (ev_ret ?_))
    unfold enc; rw [if_pos h]
  have good : 0 ≤ r → ¬ (r < 0 ∨ 1114111 < r ∨ (55296 ≤ r ∧ r ≤ 57343)) → Ev (fun k => whetstoneref03_Encode.j0 k r false) (enc r) := by
    intro h0 h
    have td : ∀ y : Int, Int.tdiv r y = r / y := fun y => Int.tdiv_eq_ediv_of_nonneg h0
    have w1 : wrap64 (r / 64) = r / 64 := wr (by omega) (by omega)
    have w2 : wrap64 (r / 4096) = r / 4096 := wr (by omega) (by omega)
    have w3 : wrap64 (r / 262144) = r / 262144 := wr (by omega) (by omega)
    have m1 : Int.tmod r 64 = r % 64 := Int.tmod_eq_emod_of_nonneg h0
    have m2 : Int.tmod (r / 64) 64 = r / 64 % 64 := Int.tmod_eq_emod_of_nonneg (by omega)
    have m3 : Int.tmod (r / 4096) 64 = r / 4096 % 64 := Int.tmod_eq_emod_of_nonneg (by omega)
    have a1 : wrap64 (192 + r / 64) = 192 + r / 64 := wr (by omega) (by omega)
    have a2 : wrap64 (224 + r / 4096) = 224 + r / 4096 := wr (by omega) (by omega)
    have a3 : wrap64 (240 + r / 262144) = 240 + r / 262144 := wr (by omega) (by omega)
    have a4 : wrap64 (128 + r % 64) = 128 + r % 64 := wr (by omega) (by omega)
    have a5 : wrap64 (128 + r / 64 % 64) = 128 + r / 64 % 64 := wr (by omega) (by omega)
    have a6 : wrap64 (128 + r / 4096 % 64) = 128 + r / 4096 % 64 := wr (by omega) (by omega)
    refine Ev.step (fun k => whetstoneref03_Encode.j0.eq_2 _ _ _) (ev_neg (by simp) ?_)
    simp only [td, w1, w2, w3, m1, m2, m3, a1, a2, a3, a4, a5, a6]
    unfold enc
    rw [if_neg h]
    refine ev_ite (fun c1 => ev_ret ?_) (fun c1 => ev_ite (fun c2 => ev_ret ?_) (fun c2 => ev_ite (fun c3 => ev_ret ?_) (fun c3 => ev_ret ?_)))
    · rw [if_pos c1, Int.emod_eq_of_lt h0 (by omega)]
    · rw [if_neg c1, if_pos c2, Int.emod_eq_of_lt (by omega) (by omega), Int.emod_eq_of_lt (by omega) (by omega)]
    · rw [if_neg c1, if_neg c2, if_pos c3, Int.emod_eq_of_lt (a := 224 + r / 4096) (by omega) (by omega), Int.emod_eq_of_lt (a := 128 + r / 64 % 64) (by omega) (by omega), Int.emod_eq_of_lt (a := 128 + r % 64) (by omega) (by omega)]
    · rw [if_neg c1, if_neg c2, if_neg c3, Int.emod_eq_of_lt (a := 240 + r / 262144) (by omega) (by omega), Int.emod_eq_of_lt (a := 128 + r / 4096 % 64) (by omega) (by omega), Int.emod_eq_of_lt (a := 128 + r / 64 % 64) (by omega) (by omega), Int.emod_eq_of_lt (a := 128 + r % 64) (by omega) (by omega)]
  refine ev_ite (fun h => bad r (Or.inl h)) (fun h0 => ev_ite (fun h => bad r (Or.inr (Or.inl h))) (fun h1 => ev_ite (fun h2 => ?_) (fun h2 => good (by omega) (by omega))))
  by_cases h3 : r ≤ 57343
  · rw [decide_eq_true h3]; exact bad r (by omega)
  · rw [decide_eq_false h3]; exact good (by omega) (by omega)
/-- The number of a letter of so many bytes. -/
def gs (b : List Int) (i n : Int) : Int :=
  if n = 1 then rd b i else if n = 2 then r2 (rd b i) (rd b (i + 1)) else if n = 3 then r3 (rd b i) (rd b (i + 1)) (rd b (i + 2)) else r4 (rd b i) (rd b (i + 1)) (rd b (i + 2)) (rd b (i + 3))
def fits (b : List Int) (i n : Int) : Prop := i + n ≤ (b.length : Int) ∧ (enc (gs b i n)).2 = 0 ∧ (enc (gs b i n)).1 = (b.take (i + n).toNat).drop i.toNat
instance (b : List Int) (i n : Int) : Decidable (fits b i n) := inferInstanceAs (Decidable (_ ∧ _ ∧ _))
theorem cut_len {b : List Int} {i n : Int} (hi : 0 ≤ i) (hn : 0 ≤ n) (h : i + n ≤ (b.length : Int)) : ((b.take (i + n).toNat).drop i.toNat).length = n.toNat := by
  rw [List.length_drop, List.length_take]; omega
theorem cut_get {b : List Int} {i : Int} (hi : 0 ≤ i) (m j : Nat) (hj : j < m) : ((b.take (i + (m : Int)).toNat).drop i.toNat).getD j 0 = rd b (i + (j : Int)) := by
  unfold rd
  rw [List.getD_eq_getElem?_getD, List.getD_eq_getElem?_getD, List.getElem?_drop, List.getElem?_take]
  rw [if_pos (by omega), show i.toNat + j = (i + (j : Int)).toNat by omega]
theorem cut1 {b : List Int} {i : Int} (hi : 0 ≤ i) (h : i + 1 ≤ (b.length : Int)) : (b.take (i + 1).toNat).drop i.toNat = [rd b i] := by
  have hl := cut_len hi (n := 1) (by omega) h
  have g0 := cut_get (b := b) hi 1 0 (by omega)
  match hq : (b.take (i + 1).toNat).drop i.toNat, hl with
  | [x], _ => rw [show ((1 : Nat) : Int) = 1 by rfl, hq] at g0; simp at g0; rw [g0]
theorem cut2 {b : List Int} {i : Int} (hi : 0 ≤ i) (h : i + 2 ≤ (b.length : Int)) : (b.take (i + 2).toNat).drop i.toNat = [rd b i, rd b (i + 1)] := by
  have hl := cut_len hi (n := 2) (by omega) h
  have g0 := cut_get (b := b) hi 2 0 (by omega)
  have g1 := cut_get (b := b) hi 2 1 (by omega)
  match hq : (b.take (i + 2).toNat).drop i.toNat, hl with
  | [x, y], _ =>
    rw [show ((2 : Nat) : Int) = 2 by rfl, hq] at g0 g1
    simp at g0 g1; rw [g0, g1]
theorem cut3 {b : List Int} {i : Int} (hi : 0 ≤ i) (h : i + 3 ≤ (b.length : Int)) : (b.take (i + 3).toNat).drop i.toNat = [rd b i, rd b (i + 1), rd b (i + 2)] := by
  have hl := cut_len hi (n := 3) (by omega) h
  have g0 := cut_get (b := b) hi 3 0 (by omega)
  have g1 := cut_get (b := b) hi 3 1 (by omega)
  have g2 := cut_get (b := b) hi 3 2 (by omega)
  match hq : (b.take (i + 3).toNat).drop i.toNat, hl with
  | [x, y, z], _ =>
    rw [show ((3 : Nat) : Int) = 3 by rfl, hq] at g0 g1 g2
    simp at g0 g1 g2; rw [g0, g1, g2]
theorem cut4 {b : List Int} {i : Int} (hi : 0 ≤ i) (h : i + 4 ≤ (b.length : Int)) : (b.take (i + 4).toNat).drop i.toNat = [rd b i, rd b (i + 1), rd b (i + 2), rd b (i + 3)] := by
  have hl := cut_len hi (n := 4) (by omega) h
  have g0 := cut_get (b := b) hi 4 0 (by omega)
  have g1 := cut_get (b := b) hi 4 1 (by omega)
  have g2 := cut_get (b := b) hi 4 2 (by omega)
  have g3 := cut_get (b := b) hi 4 3 (by omega)
  match hq : (b.take (i + 4).toNat).drop i.toNat, hl with
  | [x, y, z, u], _ =>
    rw [show ((4 : Nat) : Int) = 4 by rfl, hq] at g0 g1 g2 g3
    simp at g0 g1 g2 g3; rw [g0, g1, g2, g3]
theorem fits1 {b : List Int} (hb : By b) {i : Int} (hi : 0 ≤ i) (h : i < (b.length : Int)) : fits b i 1 ↔ rd b i < 128 := by
  have h0 := hb.place i
  have e : gs b i 1 = rd b i := rfl
  constructor
  · rintro ⟨h1, h2, h3⟩
    rw [cut1 hi h1, e] at h3
    have hl := congrArg List.length h3
    unfold enc at hl
    rcases Int.lt_or_le (rd b i) 128 with c | c
    · exact c
    · rw [if_neg (by omega), if_neg (by omega), if_pos (by omega)] at hl
      simp at hl
  · intro c
    refine ⟨by omega, ?_, ?_⟩
    · rw [e]; unfold enc; rw [if_neg (by omega), if_pos c]
    · rw [cut1 hi (by omega), e]; unfold enc; rw [if_neg (by omega), if_pos c]
theorem fits2 {b : List Int} (hb : By b) {i : Int} (hi : 0 ≤ i) : fits b i 2 ↔ (194 ≤ rd b i ∧ rd b i ≤ 223 ∧ goesOn b (i + 1)) := by
  have h0 := hb.place i
  have h1 := hb.place (i + 1)
  have e : gs b i 2 = (rd b i - 192) * 64 + (rd b (i + 1) - 128) := rfl
  generalize hx : rd b i = x at *
  generalize hy : rd b (i + 1) = y at *
  constructor
  · rintro ⟨g1, g2, g3⟩
    rw [cut2 hi g1, e, hx, hy] at g3
    unfold goesOn
    rw [hy]
    unfold enc at g3
    split at g3
    · exact absurd g3 (by simp)
    split at g3
    · exact absurd g3 (by simp)
    split at g3
    · simp at g3; omega
    split at g3
    · exact absurd g3 (by simp)
    · exact absurd g3 (by simp)
  · rintro ⟨c1, c2, c3, c4, c5⟩
    rw [hy] at c4 c5
    refine ⟨by omega, ?_, ?_⟩
    · rw [e]; unfold enc; rw [if_neg (by omega), if_neg (by omega), if_pos (by omega)]
    · rw [cut2 hi (by omega), e, hx, hy]; unfold enc; rw [if_neg (by omega), if_neg (by omega), if_pos (by omega)]
      dsimp only
      rw [show 192 + ((x - 192) * 64 + (y - 128)) / 64 = x by omega, show 128 + ((x - 192) * 64 + (y - 128)) % 64 = y by omega]
theorem fits3 {b : List Int} (hb : By b) {i : Int} (hi : 0 ≤ i) : fits b i 3 ↔ (224 ≤ rd b i ∧ rd b i ≤ 239 ∧ goesOn b (i + 1) ∧ goesOn b (i + 2)) ∧ (2048 ≤ r3 (rd b i) (rd b (i + 1)) (rd b (i + 2)) ∧ (r3 (rd b i) (rd b (i + 1)) (rd b (i + 2)) < 55296 ∨ 57343 < r3 (rd b i) (rd b (i + 1)) (rd b (i + 2)))) := by
  have h0 := hb.place i
  have h1 := hb.place (i + 1)
  have h2 := hb.place (i + 2)
  have e : gs b i 3 = r3 (rd b i) (rd b (i + 1)) (rd b (i + 2)) := rfl
  unfold r3 at *
  generalize hx : rd b i = x at *
  generalize hy : rd b (i + 1) = y at *
  generalize hz : rd b (i + 2) = z at *
  constructor
  · rintro ⟨g1, g2, g3⟩
    rw [cut3 hi g1, e, hx, hy, hz] at g3
    unfold goesOn
    rw [hy, hz]
    unfold enc at g3
    split at g3
    · exact absurd g3 (by simp)
    split at g3
    · exact absurd g3 (by simp)
    split at g3
    · exact absurd g3 (by simp)
    split at g3
    · simp at g3; omega
    · exact absurd g3 (by simp)
  · rintro ⟨⟨c1, c2, ⟨c3, c4, c5⟩, c6, c7, c8⟩, c9, c10⟩
    rw [hy] at c4 c5
    rw [hz] at c7 c8
    refine ⟨by omega, ?_, ?_⟩
    · rw [e]; unfold enc; rw [if_neg (by omega), if_neg (by omega), if_neg (by omega), if_pos (by omega)]
    · rw [cut3 hi (by omega), e, hx, hy, hz]; unfold enc; rw [if_neg (by omega), if_neg (by omega), if_neg (by omega), if_pos (by omega)]
      dsimp only
      rw [show 224 + (((x - 224) * 64 + (y - 128)) * 64 + (z - 128)) / 4096 = x by omega, show 128 + (((x - 224) * 64 + (y - 128)) * 64 + (z - 128)) / 64 % 64 = y by omega, show 128 + (((x - 224) * 64 + (y - 128)) * 64 + (z - 128)) % 64 = z by omega]
theorem fits4 {b : List Int} (hb : By b) {i : Int} (hi : 0 ≤ i) : fits b i 4 ↔ (240 ≤ rd b i ∧ rd b i ≤ 244 ∧ goesOn b (i + 1) ∧ goesOn b (i + 2) ∧ goesOn b (i + 3)) ∧ (65536 ≤ r4 (rd b i) (rd b (i + 1)) (rd b (i + 2)) (rd b (i + 3)) ∧ r4 (rd b i) (rd b (i + 1)) (rd b (i + 2)) (rd b (i + 3)) ≤ 1114111) := by
  have h0 := hb.place i
  have h1 := hb.place (i + 1)
  have h2 := hb.place (i + 2)
  have h3 := hb.place (i + 3)
  have e : gs b i 4 = r4 (rd b i) (rd b (i + 1)) (rd b (i + 2)) (rd b (i + 3)) := rfl
  unfold r4 at *
  generalize hx : rd b i = x at *
  generalize hy : rd b (i + 1) = y at *
  generalize hz : rd b (i + 2) = z at *
  generalize hu : rd b (i + 3) = u at *
  constructor
  · rintro ⟨g1, g2, g3⟩
    rw [cut4 hi g1, e, hx, hy, hz, hu] at g3
    unfold goesOn
    rw [hy, hz, hu]
    unfold enc at g3
    split at g3
    · exact absurd g3 (by simp)
    split at g3
    · exact absurd g3 (by simp)
    split at g3
    · exact absurd g3 (by simp)
    split at g3
    · exact absurd g3 (by simp)
    · simp at g3; omega
  · rintro ⟨⟨c1, c2, ⟨c3, c4, c5⟩, ⟨c6, c7, c8⟩, c11, c12, c13⟩, c9, c10⟩
    rw [hy] at c4 c5
    rw [hz] at c7 c8
    rw [hu] at c12 c13
    refine ⟨by omega, ?_, ?_⟩
    · rw [e]; unfold enc; rw [if_neg (by omega), if_neg (by omega), if_neg (by omega), if_neg (by omega)]
    · rw [cut4 hi (by omega), e, hx, hy, hz, hu]; unfold enc; rw [if_neg (by omega), if_neg (by omega), if_neg (by omega), if_neg (by omega)]
      dsimp only
      rw [show 240 + ((((x - 240) * 64 + (y - 128)) * 64 + (z - 128)) * 64 + (u - 128)) / 262144 = x by omega, show 128 + ((((x - 240) * 64 + (y - 128)) * 64 + (z - 128)) * 64 + (u - 128)) / 4096 % 64 = y by omega, show 128 + ((((x - 240) * 64 + (y - 128)) * 64 + (z - 128)) * 64 + (u - 128)) / 64 % 64 = z by omega, show 128 + ((((x - 240) * 64 + (y - 128)) * 64 + (z - 128)) * 64 + (u - 128)) % 64 = u by omega]
/-- The letter, as the reference tells it. -/
def on (b : List Int) (i : Int) : Int × Int := if (lt b i).2 = 0 then (-1, 0) else lt b i
theorem By.cut {b : List Int} (hb : By b) (m n : Nat) : By ((b.take m).drop n) := fun x hx => hb x (List.mem_of_mem_take (List.mem_of_mem_drop hx))
theorem one_ev {b : List Int} (hb : By b) {i : Int} (hi : 0 ≤ i) (hl : i < (b.length : Int)) (hn : b.length ≤ 1000000) : Ev (fun k => whetstoneref03_One.f k b i) (on b i) := by
  have h0 := hb.place i
  have h1 := hb.place (i + 1)
  have h2 := hb.place (i + 2)
  have h3 := hb.place (i + 3)
  have wp : ∀ y : Int, -10 ≤ y → y ≤ 10 → wrap64 (i + y) = i + y := fun y c1 c2 => wr (by omega) (by omega)
  -- a round's end: the number is written again
  have tail : ∀ (n r : Int) (res : Int × Int), 1 ≤ n → n ≤ 4 → i + n ≤ (b.length : Int) → r = gs b i n → (fits b i n → res = (r, n)) → (¬ fits b i n → Ev (fun k => whetstoneref03_One.l0 k b i (n + 1)) res) → Ev (fun k => whetstoneref03_One.l1 k b i n r n) res := by
    intro n r res n1 n4 hin hr hy hno
    have wn : wrap64 (n + 1) = n + 1 := wr (by omega) (by omega)
    refine Ev.step (fun k => whetstoneref03_One.l1.eq_2 _ _ _ _ _ _) (ev_neg (by omega) (Ev.bind (renc_ev r) ?_))
    simp only [wp n (by omega) (by omega), wn]
    refine ev_ite (fun e0 => ev_pos hi (ev_pos (by omega) (ev_pos hin ?_))) (fun e0 => hno (fun h => e0 (hr ▸ h.2.1)))
    refine ev_ite (fun e1 => ev_ret ?_) (fun e1 => hno (fun h => e1 ?_))
    · rw [str_inj (enc_by r) (hb.cut _ _)] at e1
      exact (hy ⟨hin, hr ▸ e0, hr ▸ e1⟩).symm
    · rw [str_inj (enc_by r) (hb.cut _ _), hr]; exact h.2.2
  have stop : ∀ n : Int, 1 ≤ n → n ≤ 5 → ¬ (n ≤ 4 ∧ i + n ≤ (b.length : Int)) → Ev (fun k => whetstoneref03_One.l0 k b i n) (-1, 0) := by
    intro n n1 n5 h
    have j : Ev (fun k => whetstoneref03_One.j1 k b i n false) (-1, 0) := Ev.step (fun k => whetstoneref03_One.j1.eq_2 _ _ _ _ _) (ev_neg (by simp) (ev_ret rfl))
    refine Ev.step (fun k => whetstoneref03_One.l0.eq_2 _ _ _ _) (ev_ite (fun h4 => ?_) (fun _ => j))
    rw [wp n (by omega) (by omega), decide_eq_false (by omega)]; exact j
  have start : ∀ (n : Int) (res : Int × Int), 1 ≤ n → n ≤ 4 → i + n ≤ (b.length : Int) → Ev (fun k => whetstoneref03_One.j2 k b i n (if n = 2 then rd b i - 192 else rd b i)) res → Ev (fun k => whetstoneref03_One.l0 k b i n) res := by
    intro n res n1 n4 hin h
    have wr0 : wrap64 (rd b i) = rd b i := wr (by omega) (by omega)
    have wr1 : wrap64 (rd b i - 192) = rd b i - 192 := wr (by omega) (by omega)
    refine Ev.step (fun k => whetstoneref03_One.l0.eq_2 _ _ _ _) (ev_pos n4 ?_)
    rw [wp n (by omega) (by omega), decide_eq_true hin]
    refine Ev.step (fun k => whetstoneref03_One.j1.eq_2 _ _ _ _ _) (ev_pos rfl (ev_pos hi (ev_pos hl ?_)))
    simp only [wr0, wr1]
    by_cases c : n = 2
    · rw [if_pos c] at h; exact ev_pos c h
    · rw [if_neg c] at h; exact ev_neg c h
  have turn : ∀ (n r s : Int) (res : Int × Int), 1 ≤ s → s < n → n ≤ 4 → i + n ≤ (b.length : Int) → -1000000 ≤ r → r ≤ 100000000 → Ev (fun k => whetstoneref03_One.l1 k b i n (r * 64 + (rd b (i + s) - 128)) (s + 1)) res → Ev (fun k => whetstoneref03_One.l1 k b i n r s) res := by
    intro n r s res s1 sn n4 hin r0 r1 h
    have hs := hb.place (i + s)
    have e1 : wrap64 (s + 1) = s + 1 := wr (by omega) (by omega)
    have e2 : wrap64 (wrap64 (wrap64 (r * 64) + wrap64 (rd b (i + s))) - 128) = r * 64 + (rd b (i + s) - 128) := by
      rw [wr (n := r * 64) (by omega) (by omega), wr (n := rd b (i + s)) (by omega) (by omega), wr (n := r * 64 + rd b (i + s)) (by omega) (by omega), wr (by omega) (by omega)]
      omega
    refine Ev.step (fun k => whetstoneref03_One.l1.eq_2 _ _ _ _ _ _) (ev_pos sn ?_)
    simp only [wp s (by omega) (by omega), e1, e2]
    exact ev_pos (by omega) (ev_pos (by omega) h)
  have f1 := fits1 hb hi hl
  have f2 := fits2 hb hi
  have f3 := fits3 hb hi
  have f4 := fits4 hb hi
  have pick : on b i = if fits b i 1 then (gs b i 1, 1) else if fits b i 2 then (gs b i 2, 2) else if fits b i 3 then (gs b i 3, 3) else if fits b i 4 then (gs b i 4, 4) else (-1, 0) := by
    unfold on lt
    by_cases c1 : rd b i < 128
    · rw [if_pos c1, if_pos (f1.2 c1)]; rfl
    · rw [if_neg c1, if_neg (fun h => c1 (f1.1 h))]
      by_cases c2 : 194 ≤ rd b i ∧ rd b i ≤ 223 ∧ goesOn b (i + 1)
      · rw [if_pos c2, if_pos (f2.2 c2)]; rfl
      · rw [if_neg c2, if_neg (fun h => c2 (f2.1 h))]
        by_cases c3 : 224 ≤ rd b i ∧ rd b i ≤ 239 ∧ goesOn b (i + 1) ∧ goesOn b (i + 2)
        · rw [if_pos c3]
          by_cases d3 : 2048 ≤ r3 (rd b i) (rd b (i + 1)) (rd b (i + 2)) ∧ (r3 (rd b i) (rd b (i + 1)) (rd b (i + 2)) < 55296 ∨ 57343 < r3 (rd b i) (rd b (i + 1)) (rd b (i + 2)))
          · rw [if_pos d3, if_pos (f3.2 ⟨c3, d3⟩)]; rfl
          · rw [if_neg d3, if_neg (show ¬ fits b i 3 from fun h => d3 (f3.1 h).2), if_neg (show ¬ fits b i 4 from fun h => by have := (f4.1 h).1.1; omega)]; rfl
        · rw [if_neg c3, if_neg (fun h => c3 (f3.1 h).1)]
          by_cases c4 : 240 ≤ rd b i ∧ rd b i ≤ 244 ∧ goesOn b (i + 1) ∧ goesOn b (i + 2) ∧ goesOn b (i + 3)
          · rw [if_pos c4]
            by_cases d4 : 65536 ≤ r4 (rd b i) (rd b (i + 1)) (rd b (i + 2)) (rd b (i + 3)) ∧ r4 (rd b i) (rd b (i + 1)) (rd b (i + 2)) (rd b (i + 3)) ≤ 1114111
            · rw [if_pos d4, if_pos (f4.2 ⟨c4, d4⟩)]; rfl
            · rw [if_neg d4, if_neg (show ¬ fits b i 4 from fun h => d4 (f4.1 h).2)]; rfl
          · rw [if_neg c4, if_neg (fun h => c4 (f4.1 h).1)]; rfl
  have nofit : ∀ n : Int, ¬ (i + n ≤ (b.length : Int)) → ¬ fits b i n := fun n h g => h g.1
  have l5 : Ev (fun k => whetstoneref03_One.l0 k b i 5) (-1, 0) := stop 5 (by omega) (by omega) (by omega)
  have l4 : Ev (fun k => whetstoneref03_One.l0 k b i 4) (if fits b i 4 then (gs b i 4, 4) else (-1, 0)) := by
    by_cases hin : i + 4 ≤ (b.length : Int)
    · refine start 4 _ (by omega) (by omega) hin (Ev.step (fun k => whetstoneref03_One.j2.eq_2 _ _ _ _ _) (ev_neg (by omega) (Ev.step (fun k => whetstoneref03_One.j3.eq_2 _ _ _ _ _) (ev_pos rfl (Ev.step (fun k => whetstoneref03_One.j4.eq_2 _ _ _ _ _) ?_)))))
      rw [if_neg (by omega), wr (n := rd b i - 240) (by omega) (by omega)]
      refine turn 4 _ 1 _ (by omega) (by omega) (by omega) hin (by omega) (by omega) (turn 4 _ 2 _ (by omega) (by omega) (by omega) hin (by omega) (by omega) (turn 4 _ 3 _ (by omega) (by omega) (by omega) hin (by omega) (by omega) ?_))
      exact tail 4 _ _ (by omega) (by omega) hin rfl (fun h => by rw [if_pos h]; rfl) (fun h => by rw [if_neg h]; exact l5)
    · rw [if_neg (nofit 4 hin)]; exact stop 4 (by omega) (by omega) (fun h => hin h.2)
  have l3 : Ev (fun k => whetstoneref03_One.l0 k b i 3) (if fits b i 3 then (gs b i 3, 3) else if fits b i 4 then (gs b i 4, 4) else (-1, 0)) := by
    by_cases hin : i + 3 ≤ (b.length : Int)
    · refine start 3 _ (by omega) (by omega) hin (Ev.step (fun k => whetstoneref03_One.j2.eq_2 _ _ _ _ _) (ev_pos rfl (Ev.step (fun k => whetstoneref03_One.j3.eq_2 _ _ _ _ _) (ev_neg (by omega) (Ev.step (fun k => whetstoneref03_One.j4.eq_2 _ _ _ _ _) ?_)))))
      rw [if_neg (by omega), wr (n := rd b i - 224) (by omega) (by omega)]
      refine turn 3 _ 1 _ (by omega) (by omega) (by omega) hin (by omega) (by omega) (turn 3 _ 2 _ (by omega) (by omega) (by omega) hin (by omega) (by omega) ?_)
      exact tail 3 _ _ (by omega) (by omega) hin rfl (fun h => by rw [if_pos h]; rfl) (fun h => by rw [if_neg h]; exact l4)
    · rw [if_neg (nofit 3 hin), if_neg (nofit 4 (by omega))]; exact stop 3 (by omega) (by omega) (fun h => hin h.2)
  have l2 : Ev (fun k => whetstoneref03_One.l0 k b i 2) (if fits b i 2 then (gs b i 2, 2) else if fits b i 3 then (gs b i 3, 3) else if fits b i 4 then (gs b i 4, 4) else (-1, 0)) := by
    by_cases hin : i + 2 ≤ (b.length : Int)
    · refine start 2 _ (by omega) (by omega) hin (Ev.step (fun k => whetstoneref03_One.j2.eq_2 _ _ _ _ _) (ev_neg (by omega) (Ev.step (fun k => whetstoneref03_One.j3.eq_2 _ _ _ _ _) (ev_neg (by omega) (Ev.step (fun k => whetstoneref03_One.j4.eq_2 _ _ _ _ _) ?_)))))
      rw [if_pos rfl]
      refine turn 2 _ 1 _ (by omega) (by omega) (by omega) hin (by omega) (by omega) ?_
      exact tail 2 _ _ (by omega) (by omega) hin rfl (fun h => by rw [if_pos h]; rfl) (fun h => by rw [if_neg h]; exact l3)
    · rw [if_neg (nofit 2 hin), if_neg (nofit 3 (by omega)), if_neg (nofit 4 (by omega))]; exact stop 2 (by omega) (by omega) (fun h => hin h.2)
  rw [pick]
  refine start 1 _ (by omega) (by omega) (by omega) (Ev.step (fun k => whetstoneref03_One.j2.eq_2 _ _ _ _ _) (ev_neg (by omega) (Ev.step (fun k => whetstoneref03_One.j3.eq_2 _ _ _ _ _) (ev_neg (by omega) (Ev.step (fun k => whetstoneref03_One.j4.eq_2 _ _ _ _ _) ?_)))))
  rw [if_neg (by omega)]
  exact tail 1 _ _ (by omega) (by omega) (by omega) rfl (fun h => by rw [if_pos h]; rfl) (fun h => by rw [if_neg h]; exact l2)
end UtfOne

/-! ### utf: all letters -/
section UtfAll
theorem lt_size {b : List Int} (i : Int) : (lt b i).2 = 0 ∨ (1 ≤ (lt b i).2 ∧ (lt b i).2 ≤ 4) := by
  unfold lt
  split
  · right; dsimp only; omega
  split
  · right; dsimp only; omega
  split
  · split
    · right; dsimp only; omega
    · left; rfl
  split
  · split
    · right; dsimp only; omega
    · left; rfl
  · left; rfl
theorem lt_in {b : List Int} {i : Int} (hl : i < (b.length : Int)) : i + (lt b i).2 ≤ (b.length : Int) := by
  unfold lt
  split
  · dsimp only; omega
  split
  · rename_i h1 h2; have := h2.2.2.1; dsimp only; omega
  split
  · rename_i h1 h2 h3; have := h3.2.2.2.1
    split
    · dsimp only; omega
    · dsimp only; omega
  split
  · rename_i h1 h2 h3 h4; have := h4.2.2.2.2.1
    split
    · dsimp only; omega
    · dsimp only; omega
  · dsimp only; omega
theorem lt_pos {b : List Int} (hb : By b) (i : Int) : 0 ≤ (lt b i).1 := by
  have h0 := hb.place i
  unfold lt
  split
  · exact h0.1
  split
  · rename_i h1 h2; have g := h2.2.2; unfold goesOn at g; dsimp only; unfold r2; omega
  split
  · split
    · rename_i h1 h2 h3 h4; dsimp only; omega
    · exact Int.le_refl _
  split
  · split
    · rename_i h1 h2 h3 h4 h5; dsimp only; omega
    · exact Int.le_refl _
  · exact Int.le_refl _
/-- How many bytes are gone on, and the letter (-1: none). -/
def sz (b : List Int) (i : Int) : Int := if (lt b i).2 = 0 then 1 else (lt b i).2
def lv (b : List Int) (i : Int) : Int := if (lt b i).2 = 0 then -1 else (lt b i).1
theorem sz_bd (b : List Int) (i : Int) : 1 ≤ sz b i ∧ sz b i ≤ 4 := by
  unfold sz
  rcases lt_size (b := b) i with h | h
  · rw [if_pos h]; omega
  · rw [if_neg (by omega)]; exact h
theorem sz_in {b : List Int} {i : Int} (hl : i < (b.length : Int)) : i + sz b i ≤ (b.length : Int) := by
  have := lt_in hl
  unfold sz
  split
  · omega
  · exact this
/-- All letters from a byte on. -/
def ls : Nat → List Int → Int → List (Int × Int)
  | 0, _, _ => []
  | n + 1, b, i => if i < (b.length : Int) then (i, lv b i) :: ls n b (i + sz b i) else []
theorem letters_ev {b : List Int} (hb : By b) (hn : b.length ≤ 1000000) : ∀ (n : Nat) (i : Int), 0 ≤ i → (b.length : Int) ≤ i + n → Ev (fun k => utf_Letters.l k b i) (ls n b i)
  | 0, i, h0, h1 => Ev.step (fun k => utf_Letters.l.eq_2 _ _ _) (ev_neg (by omega) (ev_ret rfl))
  | n + 1, i, h0, h1 => by
    refine Ev.step (fun k => utf_Letters.l.eq_2 _ _ _) (ev_ite (fun hl => ?_) (fun hl => ev_ret (by unfold ls; rw [if_neg hl])))
    have hs := lt_size (b := b) i
    have hz := sz_bd b i
    have hi := sz_in hl
    have w : wrap64 (i + (if (lt b i).2 = 0 then 1 else (lt b i).2)) = i + sz b i := wr (n := i + sz b i) (by omega) (by omega)
    refine Ev.bind (letter_ev hb h0 hl hn) (ev_pos (by omega) ?_)
    rw [w]
    refine Ev.bind (letters_ev hb hn n (i + sz b i) (by omega) (by omega)) (ev_ret ?_)
    conv => rhs; unfold ls
    rw [if_pos hl]; rfl
def tt (b : List Int) (x : Int × Int) : S38 := ⟨x.1, x.2, sz b x.1⟩
theorem rletters_ev {b : List Int} (hb : By b) (hn : b.length ≤ 1000000) : ∀ (n : Nat) (i : Int) (acc : List S38), 0 ≤ i → (b.length : Int) ≤ i + n → acc.length + n ≤ 2000000 → Ev (fun k => whetstoneref03_Letters.l0 k b acc i) (acc ++ (ls n b i).map (tt b))
  | 0, i, acc, h0, h1, _ => Ev.step (fun k => whetstoneref03_Letters.l0.eq_2 _ _ _ _) (ev_neg (by omega) (ev_ret (by simp [ls])))
  | n + 1, i, acc, h0, h1, h2 => by
    refine Ev.step (fun k => whetstoneref03_Letters.l0.eq_2 _ _ _ _) (ev_ite (fun hl => ?_) (fun hl => ev_ret (by unfold ls; rw [if_neg hl]; simp)))
    have hs := lt_size (b := b) i
    have hz := sz_bd b i
    have hi := sz_in hl
    have ih := rletters_ev hb hn n (i + sz b i) (acc ++ [tt b (i, lv b i)]) (by omega) (by omega) (by rw [List.length_append]; simp; omega)
    have e : acc ++ (ls (n + 1) b i).map (tt b) = (acc ++ [tt b (i, lv b i)]) ++ (ls n b (i + sz b i)).map (tt b) := by
      rw [ls, if_pos hl]; simp
    rw [e]
    refine Ev.bind (one_ev hb h0 hl hn) ?_
    by_cases c : (lt b i).2 = 0
    · have e1 : on b i = (-1, 0) := by unfold on; rw [if_pos c]
      have e2 : sz b i = 1 := by unfold sz; rw [if_pos c]
      have e3 : lv b i = -1 := by unfold lv; rw [if_pos c]
      have e4 : tt b (i, lv b i) = (⟨i, (-1), 1⟩ : S38) := by unfold tt; dsimp only; rw [e2, e3]
      rw [e4, e2] at ih
      rw [e1, e4, e2]
      rw [wr (n := i + 1) (by omega) (by omega)]
      exact ev_pos rfl (ev_pos (by omega) ih)
    · have e1 : on b i = lt b i := by unfold on; rw [if_neg c]
      have e2 : sz b i = (lt b i).2 := by unfold sz; rw [if_neg c]
      have e3 : lv b i = (lt b i).1 := by unfold lv; rw [if_neg c]
      have e4 : tt b (i, lv b i) = (⟨i, (lt b i).1, (lt b i).2⟩ : S38) := by unfold tt; dsimp only; rw [e2, e3]
      rw [e4, e2] at ih
      rw [e1, e4, e2]
      rw [wr (n := i + (lt b i).2) (by omega) (by omega)]
      exact ev_neg c (ev_pos (by omega) ih)
theorem rletters {b : List Int} (hb : By b) (hn : b.length ≤ 1000000) : Ev (fun k => whetstoneref03_Letters.f k b) ((ls b.length b 0).map (tt b)) := rletters_ev hb hn b.length 0 [] (by omega) (by omega) (by simp; omega)
/-- The first byte with which no letter begins. -/
def fb : List (Int × Int) → Int × Int
  | [] => (0, 0)
  | x :: t => if x.2 < 0 then (x.1, 10) else fb t
theorem valid_l0 {b : List Int} (hb : By b) (hn : b.length ≤ 1000000) : ∀ (n : Nat) (i : Int), 0 ≤ i → (b.length : Int) ≤ i + n → Ev (fun k => utf_Valid.l0 k b i) (fb (ls n b i))
  | 0, i, h0, h1 => Ev.step (fun k => utf_Valid.l0.eq_2 _ _ _) (ev_neg (by omega) (ev_ret rfl))
  | n + 1, i, h0, h1 => by
    refine Ev.step (fun k => utf_Valid.l0.eq_2 _ _ _) (ev_ite (fun hl => ?_) (fun hl => ev_ret (by unfold ls; rw [if_neg hl]; rfl)))
    have hs := lt_size (b := b) i
    have hz := sz_bd b i
    have hi := sz_in hl
    refine Ev.bind (letter_ev hb h0 hl hn) ?_
    rw [ls, if_pos hl]
    refine ev_ite (fun c => ev_ret ?_) (fun c => ?_)
    · unfold fb lv; rw [if_pos c]; rfl
    · have e2 : sz b i = (lt b i).2 := by unfold sz; rw [if_neg c]
      have e3 : lv b i = (lt b i).1 := by unfold lv; rw [if_neg c]
      have hp := lt_pos hb i
      rw [fb, if_neg (by rw [e3]; dsimp only; omega), e2, wr (n := i + (lt b i).2) (by omega) (by omega)]
      rw [← e2]
      exact valid_l0 hb hn n _ (by omega) (by omega)
theorem valid_ev {b : List Int} (hb : By b) (hn : b.length ≤ 1000000) : Ev (fun k => utf_Valid.f k b) (fb (ls b.length b 0)) := valid_l0 hb hn b.length 0 (by omega) (by omega)
theorem units_ev {b : List Int} (hb : By b) (hn : b.length ≤ 1000000) : Ev (fun k => utf_Units.f k b) (utf_Units.fold (ls b.length b 0)) :=
  ev_pos (by omega) (Ev.bind (letters_ev hb hn b.length 0 (by omega) (by omega)) (ev_ret rfl))
theorem ls_len : ∀ (n : Nat) (b : List Int) (i : Int), (ls n b i).length ≤ n
  | 0, _, _ => Nat.le_refl _
  | n + 1, b, i => by
    rw [ls]; split
    · rw [List.length_cons]; exact Nat.succ_le_succ (ls_len n b _)
    · simp
theorem rd38 (pre : List S38) (x : S38) (rest : List S38) : rd_T38 (pre ++ x :: rest) (pre.length : Int) = x := by
  unfold rd_T38; simp
end UtfAll

/-! ### utf: where lines begin -/
section UtfLine
def nl (b : List Int) (i : Int) : Prop := rd b i = 10 ∨ (rd b i = 13 ∧ ¬ (i + 1 < (b.length : Int) ∧ rd b (i + 1) = 10))
instance (b : List Int) (i : Int) : Decidable (nl b i) := inferInstanceAs (Decidable (_ ∨ _))
def li : Nat → List Int → Int → List Int
  | 0, _, _ => []
  | n + 1, b, i => if i < (b.length : Int) then (if nl b i then (i + 1) :: li n b (i + 1) else li n b (i + 1)) else []
theorem li_len : ∀ (n : Nat) (b : List Int) (i : Int), (li n b i).length ≤ n
  | 0, _, _ => Nat.le_refl _
  | n + 1, b, i => by
    have := li_len n b (i + 1)
    rw [li]; split
    · split
      · rw [List.length_cons]; omega
      · omega
    · simp
theorem lines_l0 {b : List Int} (hn : b.length ≤ 1000000) : ∀ (n : Nat) (i : Int) (acc : List Int), 0 ≤ i → (b.length : Int) ≤ i + n → acc.length + n ≤ 2000000 → Ev (fun k => utf_Lines.l0 k b acc (b.length : Int) i) (acc ++ li n b i)
  | 0, i, acc, h0, h1, _ => Ev.step (fun k => utf_Lines.l0.eq_2 _ _ _ _ _) (ev_neg (by omega) (ev_ret (by simp [li])))
  | n + 1, i, acc, h0, h1, h2 => by
    refine Ev.step (fun k => utf_Lines.l0.eq_2 _ _ _ _ _) (ev_ite (fun c0 => ev_pos h0 (ev_pos c0 ?_)) (fun c0 => ev_ret (by rw [li, if_neg c0]; simp)))
    have w1 : wrap64 (i + 1) = i + 1 := wr (by omega) (by omega)
    have g1 := lines_l0 hn n (i + 1) (acc ++ [i + 1]) (by omega) (by omega) (by rw [List.length_append]; simp; omega)
    have g2 := lines_l0 hn n (i + 1) acc (by omega) (by omega) (by omega)
    have la : acc.length < 17592186044416 := by omega
    rw [w1]
    have yes : nl b i → acc ++ li (n + 1) b i = (acc ++ [i + 1]) ++ li n b (i + 1) := fun h => by rw [li, if_pos c0, if_pos h]; simp
    have no : ¬ nl b i → acc ++ li (n + 1) b i = acc ++ li n b (i + 1) := fun h => by rw [li, if_pos c0, if_neg h]
    refine ev_ite (fun c1 => ?_) (fun c1 => ev_ite (fun c2 => ev_ite (fun c3 => ?_) (fun c3 => ev_pos (by omega) (ev_pos (by omega) (ev_ite (fun c4 => ?_) (fun c4 => ?_))))) (fun c2 => ?_))
    · rw [yes (Or.inl c1)]; exact ev_pos la g1
    · rw [yes (Or.inr ⟨c2, fun h => by omega⟩)]; exact ev_pos la g1
    · rw [no (fun h => h.elim c1 (fun h => h.2 ⟨by omega, c4⟩))]; exact g2
    · rw [yes (Or.inr ⟨c2, fun h => c4 h.2⟩)]; exact ev_pos la g1
    · rw [no (fun h => h.elim c1 (fun h => c2 h.1))]; exact g2
def lns (b : List Int) : List Int := 0 :: li b.length b 0
theorem alines_ev {b : List Int} (hn : b.length ≤ 1000000) : Ev (fun k => utf_Lines.f k b) (lns b) := lines_l0 hn b.length 0 [0] (by omega) (by omega) (by simp; omega)
end UtfLine

/-! ### utf: two texts, one behind the other -/
section UtfJoin
theorem rd_left (a b : List Int) {i : Int} (h0 : 0 ≤ i) (h : i < (a.length : Int)) : rd (a ++ b) i = rd a i := by
  unfold rd; rw [List.getD_eq_getElem?_getD, List.getElem?_append_left (by omega), ← List.getD_eq_getElem?_getD]
theorem rd_right (a b : List Int) {j : Int} (h0 : 0 ≤ j) : rd (a ++ b) ((a.length : Int) + j) = rd b j := by
  unfold rd
  rw [List.getD_eq_getElem?_getD, List.getElem?_append_right (by omega), show ((a.length : Int) + j).toNat - a.length = j.toNat by omega, ← List.getD_eq_getElem?_getD]
theorem By.app {a b : List Int} (ha : By a) (hb : By b) : By (a ++ b) := fun x hx => (List.mem_append.1 hx).elim (ha x) (hb x)
theorem goes_right (a b : List Int) {j : Int} (h0 : 0 ≤ j) : goesOn (a ++ b) ((a.length : Int) + j) ↔ goesOn b j := by
  unfold goesOn
  rw [rd_right a b h0, List.length_append]
  constructor
  · rintro ⟨h1, h2⟩; exact ⟨by omega, h2⟩
  · rintro ⟨h1, h2⟩; exact ⟨by omega, h2⟩
theorem goes_left (a b : List Int) {j : Int} (h0 : 0 ≤ j) (h : goesOn a j) : goesOn (a ++ b) j ∧ rd (a ++ b) j = rd a j := by
  have e := rd_left a b h0 h.1
  unfold goesOn
  rw [e, List.length_append]
  exact ⟨⟨by have := h.1; omega, h.2⟩, rfl⟩
theorem lt_right (a b : List Int) {j : Int} (h0 : 0 ≤ j) : lt (a ++ b) ((a.length : Int) + j) = lt b j := by
  have g1 := goes_right a b (j := j + 1) (by omega)
  have g2 := goes_right a b (j := j + 2) (by omega)
  have g3 := goes_right a b (j := j + 3) (by omega)
  have e0 := rd_right a b h0
  have e1 := rd_right a b (j := j + 1) (by omega)
  have e2 := rd_right a b (j := j + 2) (by omega)
  have e3 := rd_right a b (j := j + 3) (by omega)
  rw [← Int.add_assoc] at g1 g2 g3 e1 e2 e3
  unfold lt
  simp only [e0, e1, e2, e3, g1, g2, g3]
theorem lt_left (a b : List Int) {i : Int} (h0 : 0 ≤ i) (h : i < (a.length : Int)) (hz : (lt a i).2 ≠ 0) : lt (a ++ b) i = lt a i := by
  have e0 := rd_left a b h0 h
  unfold lt at hz ⊢
  rw [e0]
  by_cases c1 : rd a i < 128
  · rw [if_pos c1, if_pos c1]
  · rw [if_neg c1] at hz ⊢
    rw [if_neg c1]
    by_cases c2 : 194 ≤ rd a i ∧ rd a i ≤ 223 ∧ goesOn a (i + 1)
    · have g1 := goes_left a b (j := i + 1) (by omega) c2.2.2
      rw [if_pos c2, if_pos ⟨c2.1, c2.2.1, g1.1⟩, g1.2]
    · rw [if_neg c2] at hz ⊢
      by_cases c3 : 224 ≤ rd a i ∧ rd a i ≤ 239 ∧ goesOn a (i + 1) ∧ goesOn a (i + 2)
      · have g1 := goes_left a b (j := i + 1) (by omega) c3.2.2.1
        have g2 := goes_left a b (j := i + 2) (by omega) c3.2.2.2
        rw [if_neg (fun h => by omega), if_pos c3, if_pos ⟨c3.1, c3.2.1, g1.1, g2.1⟩, g1.2, g2.2]
      · rw [if_neg c3] at hz ⊢
        by_cases c4 : 240 ≤ rd a i ∧ rd a i ≤ 244 ∧ goesOn a (i + 1) ∧ goesOn a (i + 2) ∧ goesOn a (i + 3)
        · have g1 := goes_left a b (j := i + 1) (by omega) c4.2.2.1
          have g2 := goes_left a b (j := i + 2) (by omega) c4.2.2.2.1
          have g3 := goes_left a b (j := i + 3) (by omega) c4.2.2.2.2
          rw [if_neg (fun h => by omega), if_neg (fun h => by omega), if_pos c4, if_pos ⟨c4.1, c4.2.1, g1.1, g2.1, g3.1⟩, g1.2, g2.2, g3.2]
        · rw [if_neg c4] at hz; exact absurd rfl hz
def sh (d : Int) (x : Int × Int) : Int × Int := (d + x.1, x.2)
theorem ls_right (a b : List Int) : ∀ (m : Nat) (j : Int), 0 ≤ j → ls m (a ++ b) ((a.length : Int) + j) = (ls m b j).map (sh a.length)
  | 0, _, _ => rfl
  | m + 1, j, h => by
    have hz := sz_bd b j
    have e := lt_right a b h
    have es : sz (a ++ b) ((a.length : Int) + j) = sz b j := by unfold sz; rw [e]
    have ev : lv (a ++ b) ((a.length : Int) + j) = lv b j := by unfold lv; rw [e]
    rw [ls, ls, es, ev]
    by_cases c : j < (b.length : Int)
    · rw [if_pos c, if_pos (by rw [List.length_append]; omega), Int.add_assoc, ls_right a b m (j + sz b j) (by omega)]; rfl
    · rw [if_neg c, if_neg (by rw [List.length_append]; omega)]; rfl
theorem ls_fuel (b : List Int) : ∀ (m d : Nat) (i : Int), (b.length : Int) ≤ i + m → ls (m + d) b i = ls m b i
  | 0, 0, _, _ => rfl
  | 0, d + 1, i, h => by
    show ls (0 + d + 1) b i = []
    rw [ls, if_neg (by omega)]
  | m + 1, d, i, h => by
    have hz := sz_bd b i
    rw [show m + 1 + d = (m + d) + 1 by omega, ls, ls, ls_fuel b m d (i + sz b i) (by omega)]
theorem ls_app (a b : List Int) (m : Nat) (hm : b.length ≤ m) : ∀ (n : Nat) (i : Int), 0 ≤ i → i ≤ (a.length : Int) → (a.length : Int) ≤ i + n → (fb (ls n a i)).2 = 0 → ls (n + m) (a ++ b) i = ls n a i ++ (ls m b 0).map (sh a.length)
  | 0, i, h0, h1, h2, _ => by
    rw [show i = (a.length : Int) + 0 by omega, Nat.zero_add, ls_right a b m 0 (by omega)]; rfl
  | n + 1, i, h0, h1, h2, h3 => by
    by_cases c : i < (a.length : Int)
    · rw [ls, if_pos c, fb] at h3
      by_cases c2 : lv a i < 0
      · rw [if_pos c2] at h3; exact absurd h3 (by simp)
      · rw [if_neg c2] at h3
        have hz : (lt a i).2 ≠ 0 := fun h => c2 (by unfold lv; rw [if_pos h]; decide)
        have e := lt_left a b h0 c hz
        have es : sz (a ++ b) i = sz a i := by unfold sz; rw [e]
        have ev : lv (a ++ b) i = lv a i := by unfold lv; rw [e]
        have hb := sz_bd a i
        rw [show n + 1 + m = (n + m) + 1 by omega, ls, ls, if_pos c, if_pos (by rw [List.length_append]; omega), es, ev, ls_app a b m hm n (i + sz a i) (by omega) (sz_in c) (by omega) h3]
        rfl
    · rw [show i = (a.length : Int) + 0 by omega, ls_right a b _ 0 (by omega), show n + 1 + m = m + (n + 1) by omega, ls_fuel b m (n + 1) 0 (by omega), ls, if_neg (by omega)]; rfl
theorem fb_app : ∀ (x y : List (Int × Int)), (fb x).2 = 0 → (fb y).2 = 0 → (fb (x ++ y)).2 = 0
  | [], _, _, h => h
  | p :: x, y, h, g => by
    rw [fb] at h
    by_cases c : p.2 < 0
    · rw [if_pos c] at h; exact absurd h (by simp)
    · rw [if_neg c] at h
      rw [List.cons_append, fb, if_neg c]; exact fb_app x y h g
theorem fb_sh (d : Int) : ∀ (y : List (Int × Int)), (fb (y.map (sh d))).2 = (fb y).2
  | [] => rfl
  | p :: y => by
    have ih := fb_sh d y
    have e : (sh d p).2 = p.2 := rfl
    rw [List.map_cons, fb, fb, e]
    by_cases c : p.2 < 0
    · rw [if_pos c, if_pos c]
    · rw [if_neg c, if_neg c]; exact ih
def us : List (Int × Int) → Int
  | [] => 0
  | x :: t => utf_Units.u x.2 + us t
theorem us_app : ∀ (x y : List (Int × Int)), us (x ++ y) = us x + us y
  | [], y => by simp [us]
  | p :: x, y => by rw [List.cons_append, us, us, us_app x y]; omega
theorem us_sh (d : Int) : ∀ (y : List (Int × Int)), us (y.map (sh d)) = us y
  | [] => rfl
  | p :: y => by rw [List.map_cons, us, us, us_sh d y]; rfl
theorem u_bd (r : Int) : 1 ≤ utf_Units.u r ∧ utf_Units.u r ≤ 2 := by unfold utf_Units.u; split <;> omega
theorem us_bd : ∀ (y : List (Int × Int)), 0 ≤ us y ∧ us y ≤ 2 * y.length
  | [] => by simp [us]
  | p :: y => by have := us_bd y; have := u_bd p.2; rw [us, List.length_cons]; omega
theorem fold_us : ∀ (y : List (Int × Int)) (n : Int), 0 ≤ n → n + 2 * y.length ≤ 100000000 → y.foldl (fun n x => wrap64 (n + utf_Units.u x.2)) n = n + us y
  | [], n, _, _ => by simp [us]
  | p :: y, n, h0, h1 => by
    have := u_bd p.2
    rw [List.length_cons] at h1
    rw [List.foldl_cons, wr (by omega) (by omega), fold_us y _ (by omega) (by omega), us]; omega
theorem ufold_us {y : List (Int × Int)} (h : y.length ≤ 1000000) : utf_Units.fold y = us y := by
  unfold utf_Units.fold; rw [fold_us y 0 (by omega) (by omega)]; omega
/-- Is a line's end cut between the two? -/
def cutE (a b : List Int) : Prop := 0 < a.length ∧ 0 < b.length ∧ rd a ((a.length : Int) - 1) = 13 ∧ rd b 0 = 10
instance (a b : List Int) : Decidable (cutE a b) := inferInstanceAs (Decidable (_ ∧ _))
theorem nl_right (a b : List Int) {j : Int} (h0 : 0 ≤ j) : nl (a ++ b) ((a.length : Int) + j) ↔ nl b j := by
  unfold nl
  rw [rd_right a b h0, Int.add_assoc, rd_right a b (j := j + 1) (by omega), List.length_append]
  constructor
  · rintro (h | ⟨h, g⟩)
    · exact Or.inl h
    · exact Or.inr ⟨h, fun q => g ⟨by omega, q.2⟩⟩
  · rintro (h | ⟨h, g⟩)
    · exact Or.inl h
    · exact Or.inr ⟨h, fun q => g ⟨by omega, q.2⟩⟩
theorem li_right (a b : List Int) : ∀ (m : Nat) (j : Int), 0 ≤ j → (li m (a ++ b) ((a.length : Int) + j)).length = (li m b j).length
  | 0, _, _ => rfl
  | m + 1, j, h => by
    have ih := li_right a b m (j + 1) (by omega)
    have e := nl_right a b h
    rw [li, li]
    by_cases c : j < (b.length : Int)
    · rw [if_pos c, if_pos (by rw [List.length_append]; omega)]
      rw [← Int.add_assoc] at ih
      by_cases c2 : nl b j
      · rw [if_pos c2, if_pos (e.2 c2), List.length_cons, List.length_cons, ih]
      · rw [if_neg c2, if_neg (fun h => c2 (e.1 h)), ih]
    · rw [if_neg c, if_neg (by rw [List.length_append]; omega)]
theorem li_fuel (b : List Int) : ∀ (m d : Nat) (i : Int), (b.length : Int) ≤ i + m → li (m + d) b i = li m b i
  | 0, 0, _, _ => rfl
  | 0, d + 1, i, h => by
    show li (0 + d + 1) b i = []
    rw [li, if_neg (by omega)]
  | m + 1, d, i, h => by
    rw [show m + 1 + d = (m + d) + 1 by omega, li, li, li_fuel b m d (i + 1) (by omega)]
theorem li_app (a b : List Int) (m : Nat) (hm : b.length ≤ m) : ∀ (n : Nat) (i : Int), 0 ≤ i → i ≤ (a.length : Int) → (a.length : Int) ≤ i + n → (li (n + m) (a ++ b) i).length + (if i < (a.length : Int) ∧ cutE a b then 1 else 0) = (li n a i).length + (li m b 0).length
  | 0, i, h0, h1, h2 => by
    rw [if_neg (fun h => by omega), show i = (a.length : Int) + 0 by omega, Nat.zero_add, li_right a b m 0 (by omega)]
    simp [li]
  | n + 1, i, h0, h1, h2 => by
    by_cases c : i < (a.length : Int)
    · have ih := li_app a b m hm n (i + 1) (by omega) (by omega) (by omega)
      rw [show n + 1 + m = (n + m) + 1 by omega, li, li, if_pos c, if_pos (by rw [List.length_append]; omega)]
      have e0 := rd_left a b h0 c
      by_cases c1 : i + 1 < (a.length : Int)
      · have e1 := rd_left a b (i := i + 1) (by omega) c1
        have e : nl (a ++ b) i ↔ nl a i := by
          unfold nl
          rw [e0, e1, List.length_append]
          constructor
          · rintro (h | ⟨h, g⟩)
            · exact Or.inl h
            · exact Or.inr ⟨h, fun q => g ⟨by omega, q.2⟩⟩
          · rintro (h | ⟨h, g⟩)
            · exact Or.inl h
            · exact Or.inr ⟨h, fun q => g ⟨by omega, q.2⟩⟩
        have ei : (if i < (a.length : Int) ∧ cutE a b then 1 else 0) = (if i + 1 < (a.length : Int) ∧ cutE a b then 1 else 0) := by
          by_cases g : cutE a b
          · rw [if_pos ⟨c, g⟩, if_pos ⟨c1, g⟩]
          · rw [if_neg (fun h => g h.2), if_neg (fun h => g h.2)]
        rw [ei]
        by_cases c2 : nl a i
        · rw [if_pos c2, if_pos (e.2 c2), List.length_cons, List.length_cons]; omega
        · rw [if_neg c2, if_neg (fun h => c2 (e.1 h))]; exact ih
      · rw [if_neg (fun h => c1 h.1)] at ih
        have hi : i = (a.length : Int) - 1 := by omega
        have e1 : rd (a ++ b) (i + 1) = rd b 0 := by
          have := rd_right a b (j := 0) (by omega)
          rw [show i + 1 = (a.length : Int) + 0 by omega]; exact this
        have na : nl a i ↔ rd a i = 10 ∨ rd a i = 13 := by
          unfold nl
          constructor
          · rintro (h | ⟨h, g⟩)
            · exact Or.inl h
            · exact Or.inr h
          · rintro (h | h)
            · exact Or.inl h
            · exact Or.inr ⟨h, fun q => c1 q.1⟩
        by_cases g : cutE a b
        · have g3 := g.2.2.1
          rw [← hi] at g3
          rw [if_pos (show i < (a.length : Int) ∧ cutE a b from ⟨c, g⟩), if_pos (na.2 (Or.inr g3)), if_neg (c := nl (a ++ b) i), List.length_cons]
          · omega
          · unfold nl
            rw [e0, e1, List.length_append]
            rintro (h | ⟨h, q⟩)
            · omega
            · exact q ⟨by have := g.2.1; omega, g.2.2.2⟩
        · rw [if_neg (c := i < (a.length : Int) ∧ cutE a b) (fun h => g h.2)]
          have e : nl (a ++ b) i ↔ nl a i := by
            rw [na]
            unfold nl
            rw [e0, e1, List.length_append]
            constructor
            · rintro (h | ⟨h, _⟩)
              · exact Or.inl h
              · exact Or.inr h
            · rintro (h | h)
              · exact Or.inl h
              · exact Or.inr ⟨h, fun q => g ⟨by omega, by omega, by rw [← hi]; exact h, q.2⟩⟩
          by_cases c2 : nl a i
          · rw [if_pos c2, if_pos (e.2 c2), List.length_cons, List.length_cons]; omega
          · rw [if_neg c2, if_neg (fun h => c2 (e.1 h))]; omega
    · rw [if_neg (fun h => c h.1), show i = (a.length : Int) + 0 by omega, li_right a b _ 0 (by omega), show n + 1 + m = m + (n + 1) by omega, li_fuel b m (n + 1) 0 (by omega), li, if_neg (by omega)]; simp
end UtfJoin

/-! ### utf: positions -/
section UtfBack
theorem Ev.same {α : Type} {g : Nat → Option α} {x y : α} (h : Ev g x) (h' : Ev g y) : x = y := by
  obtain ⟨K, h⟩ := h
  obtain ⟨K', h'⟩ := h'
  have e1 := h (K + K') (by omega)
  have e2 := h' (K + K') (by omega)
  rw [e1] at e2
  injection e2
theorem enc_get (r : Int) : (utf_Encode.f 1 r).getD ([], 0) = enc r := Ev.same (enc_ev r) (Ev.congr (fun k => enc_eq k r) (renc_ev r))
theorem lt_fits {b : List Int} (hb : By b) {i : Int} (h0 : 0 ≤ i) (hl : i < (b.length : Int)) (hz : (lt b i).2 ≠ 0) : fits b i (lt b i).2 ∧ gs b i (lt b i).2 = (lt b i).1 := by
  unfold lt at hz ⊢
  by_cases c1 : rd b i < 128
  · rw [if_pos c1]; exact ⟨(fits1 hb h0 hl).2 c1, rfl⟩
  · rw [if_neg c1] at hz ⊢
    by_cases c2 : 194 ≤ rd b i ∧ rd b i ≤ 223 ∧ goesOn b (i + 1)
    · rw [if_pos c2]; exact ⟨(fits2 hb h0).2 c2, rfl⟩
    · rw [if_neg c2] at hz ⊢
      by_cases c3 : 224 ≤ rd b i ∧ rd b i ≤ 239 ∧ goesOn b (i + 1) ∧ goesOn b (i + 2)
      · rw [if_pos c3] at hz ⊢
        by_cases d3 : 2048 ≤ r3 (rd b i) (rd b (i + 1)) (rd b (i + 2)) ∧ (r3 (rd b i) (rd b (i + 1)) (rd b (i + 2)) < 55296 ∨ 57343 < r3 (rd b i) (rd b (i + 1)) (rd b (i + 2)))
        · rw [if_pos d3]; exact ⟨(fits3 hb h0).2 ⟨c3, d3⟩, rfl⟩
        · rw [if_neg d3] at hz; exact absurd rfl hz
      · rw [if_neg c3] at hz ⊢
        by_cases c4 : 240 ≤ rd b i ∧ rd b i ≤ 244 ∧ goesOn b (i + 1) ∧ goesOn b (i + 2) ∧ goesOn b (i + 3)
        · rw [if_pos c4] at hz ⊢
          by_cases d4 : 65536 ≤ r4 (rd b i) (rd b (i + 1)) (rd b (i + 2)) (rd b (i + 3)) ∧ r4 (rd b i) (rd b (i + 1)) (rd b (i + 2)) (rd b (i + 3)) ≤ 1114111
          · rw [if_pos d4]; exact ⟨(fits4 hb h0).2 ⟨c4, d4⟩, rfl⟩
          · rw [if_neg d4] at hz; exact absurd rfl hz
        · rw [if_neg c4] at hz; exact absurd rfl hz
theorem lv_ok {b : List Int} {i : Int} (h : 0 ≤ lv b i) : (lt b i).2 ≠ 0 ∧ lv b i = (lt b i).1 ∧ sz b i = (lt b i).2 := by
  unfold lv sz at *
  by_cases c : (lt b i).2 = 0
  · rw [if_pos c] at h; omega
  · rw [if_neg c, if_neg c]; exact ⟨c, rfl, rfl⟩
theorem size_eq {b : List Int} (hb : By b) {i : Int} (h0 : 0 ≤ i) (hl : i < (b.length : Int)) (h : 0 ≤ lv b i) : utf_Place.size (lv b i) = sz b i := by
  obtain ⟨h1, h2, h3⟩ := lv_ok h
  obtain ⟨f1, f2⟩ := lt_fits hb h0 hl h1
  have hz := sz_bd b i
  have hc := cut_len (n := (lt b i).2) h0 (by omega) f1.1
  unfold utf_Place.size
  rw [if_pos h, enc_get, h2, ← f2, f1.2.2, hc, h3]
  omega
theorem lv_low {b : List Int} (hb : By b) {i : Int} (h : 0 ≤ lv b i) : (lv b i < 128 → rd b i = lv b i ∧ sz b i = 1) ∧ (rd b i < 128 → lv b i = rd b i) := by
  obtain ⟨h1, h2, h3⟩ := lv_ok h
  have h0 := hb.place i
  rw [h2, h3]
  unfold lt at h1 ⊢
  by_cases c1 : rd b i < 128
  · rw [if_pos c1]; exact ⟨fun _ => ⟨rfl, rfl⟩, fun _ => rfl⟩
  · rw [if_neg c1] at h1 ⊢
    refine ⟨fun h => ?_, fun h => absurd h c1⟩
    exfalso
    by_cases c2 : 194 ≤ rd b i ∧ rd b i ≤ 223 ∧ goesOn b (i + 1)
    · rw [if_pos c2] at h
      have g := c2.2.2; unfold goesOn at g; unfold r2 at h; dsimp only at h; omega
    · rw [if_neg c2] at h h1
      by_cases c3 : 224 ≤ rd b i ∧ rd b i ≤ 239 ∧ goesOn b (i + 1) ∧ goesOn b (i + 2)
      · rw [if_pos c3] at h h1
        by_cases d3 : 2048 ≤ r3 (rd b i) (rd b (i + 1)) (rd b (i + 2)) ∧ (r3 (rd b i) (rd b (i + 1)) (rd b (i + 2)) < 55296 ∨ 57343 < r3 (rd b i) (rd b (i + 1)) (rd b (i + 2)))
        · rw [if_pos d3] at h; dsimp only at h; omega
        · rw [if_neg d3] at h1; exact h1 rfl
      · rw [if_neg c3] at h h1
        by_cases c4 : 240 ≤ rd b i ∧ rd b i ≤ 244 ∧ goesOn b (i + 1) ∧ goesOn b (i + 2) ∧ goesOn b (i + 3)
        · rw [if_pos c4] at h h1
          by_cases d4 : 65536 ≤ r4 (rd b i) (rd b (i + 1)) (rd b (i + 2)) (rd b (i + 3)) ∧ r4 (rd b i) (rd b (i + 1)) (rd b (i + 2)) (rd b (i + 3)) ≤ 1114111
          · rw [if_pos d4] at h; dsimp only at h; omega
          · rw [if_neg d4] at h1; exact h1 rfl
        · rw [if_neg c4] at h1; exact h1 rfl
/-- The bytes of a letter behind its first. -/
theorem lv_rest {b : List Int} {i : Int} (h : 0 ≤ lv b i) {j : Int} (hj : 1 ≤ j) (hs : j < sz b i) : 128 ≤ rd b (i + j) := by
  obtain ⟨h1, h2, h3⟩ := lv_ok h
  rw [h3] at hs
  unfold lt at h1 hs
  by_cases c1 : rd b i < 128
  · rw [if_pos c1] at hs; dsimp only at hs; omega
  · rw [if_neg c1] at h1 hs
    by_cases c2 : 194 ≤ rd b i ∧ rd b i ≤ 223 ∧ goesOn b (i + 1)
    · rw [if_pos c2] at hs
      have g := c2.2.2; unfold goesOn at g; dsimp only at hs
      rw [show j = 1 by omega]; omega
    · rw [if_neg c2] at hs h1
      by_cases c3 : 224 ≤ rd b i ∧ rd b i ≤ 239 ∧ goesOn b (i + 1) ∧ goesOn b (i + 2)
      · rw [if_pos c3] at hs
        have g := c3.2.2; unfold goesOn at g
        have : j < 3 := by
          split at hs
          · exact hs
          · dsimp only at hs; omega
        rcases (show j = 1 ∨ j = 2 by omega) with e | e <;> rw [e] <;> omega
      · rw [if_neg c3] at hs h1
        by_cases c4 : 240 ≤ rd b i ∧ rd b i ≤ 244 ∧ goesOn b (i + 1) ∧ goesOn b (i + 2) ∧ goesOn b (i + 3)
        · rw [if_pos c4] at hs
          have g := c4.2.2; unfold goesOn at g
          have : j < 4 := by
            split at hs
            · exact hs
            · dsimp only at hs; omega
          rcases (show j = 1 ∨ j = 2 ∨ j = 3 by omega) with e | e | e <;> rw [e] <;> omega
        · rw [if_neg c4] at h1; exact absurd rfl h1
/-- A letter within a text's front is the front's. -/
theorem lt_take {b : List Int} {i e : Int} (h0 : 0 ≤ i) (he : i + (lt b i).2 ≤ e) (hle : e ≤ (b.length : Int)) (hz : (lt b i).2 ≠ 0) : lt (b.take e.toNat) i = lt b i := by
  have hl : ((b.take e.toNat).length : Int) = e ∨ e < 0 := by rw [List.length_take]; omega
  have hr : ∀ j : Int, 0 ≤ j → j < e → rd (b.take e.toNat) j = rd b j := by
    intro j j0 j1
    unfold rd; rw [List.getD_eq_getElem?_getD, List.getD_eq_getElem?_getD, List.getElem?_take, if_pos (by omega)]
  have hg : ∀ j : Int, 0 ≤ j → j < e → (goesOn (b.take e.toNat) j ↔ goesOn b j) := by
    intro j j0 j1
    unfold goesOn
    rw [hr j j0 j1]
    constructor
    · rintro ⟨_, h⟩; exact ⟨by omega, h⟩
    · rintro ⟨_, h⟩; exact ⟨by omega, h⟩
  have hsz := lt_size (b := b) i
  have e0 := hr i h0 (by omega)
  unfold lt at hz he ⊢
  rw [e0]
  by_cases c1 : rd b i < 128
  · rw [if_pos c1, if_pos c1]
  · rw [if_neg c1] at hz he ⊢
    rw [if_neg c1]
    by_cases c2 : 194 ≤ rd b i ∧ rd b i ≤ 223 ∧ goesOn b (i + 1)
    · rw [if_pos c2] at he ⊢
      dsimp only at he
      rw [hr (i + 1) (by omega) (by omega), if_pos ⟨c2.1, c2.2.1, (hg (i + 1) (by omega) (by omega)).2 c2.2.2⟩]
    · rw [if_neg c2] at hz he ⊢
      by_cases c3 : 224 ≤ rd b i ∧ rd b i ≤ 239 ∧ goesOn b (i + 1) ∧ goesOn b (i + 2)
      · rw [if_pos c3] at hz he ⊢
        have h3 : i + 3 ≤ e := by
          split at he
          · exact he
          · rename_i d; rw [if_neg d] at hz; exact absurd rfl hz
        rw [hr (i + 1) (by omega) (by omega), hr (i + 2) (by omega) (by omega), if_neg (fun h => by omega), if_pos ⟨c3.1, c3.2.1, (hg (i + 1) (by omega) (by omega)).2 c3.2.2.1, (hg (i + 2) (by omega) (by omega)).2 c3.2.2.2⟩]
      · rw [if_neg c3] at hz he ⊢
        by_cases c4 : 240 ≤ rd b i ∧ rd b i ≤ 244 ∧ goesOn b (i + 1) ∧ goesOn b (i + 2) ∧ goesOn b (i + 3)
        · rw [if_pos c4] at hz he ⊢
          have h4 : i + 4 ≤ e := by
            split at he
            · exact he
            · rename_i d; rw [if_neg d] at hz; exact absurd rfl hz
          rw [hr (i + 1) (by omega) (by omega), hr (i + 2) (by omega) (by omega), hr (i + 3) (by omega) (by omega), if_neg (fun h => by omega), if_neg (fun h => by omega), if_pos ⟨c4.1, c4.2.1, (hg (i + 1) (by omega) (by omega)).2 c4.2.2.1, (hg (i + 2) (by omega) (by omega)).2 c4.2.2.2.1, (hg (i + 3) (by omega) (by omega)).2 c4.2.2.2.2⟩]
        · rw [if_neg c4] at hz; exact absurd rfl hz
/-- All letters, from a byte on, without a count. -/
def la (b : List Int) (i : Int) : List (Int × Int) := ls b.length b i
theorem ls_any {b : List Int} {i : Int} (n : Nat) (h : (b.length : Int) ≤ i + n) (h0 : 0 ≤ i) : ls n b i = la b i := by
  unfold la
  rw [← ls_fuel b n b.length i h, ← ls_fuel b b.length n i (by omega), Nat.add_comm]
theorem la_step {b : List Int} {i : Int} (h0 : 0 ≤ i) (h : i < (b.length : Int)) : la b i = (i, lv b i) :: la b (i + sz b i) := by
  have hz := sz_bd b i
  rw [← ls_any (b := b) (i := i) (b.length + 1) (by omega) h0, ls, if_pos h, ls_any _ (by omega) (by omega)]
theorem la_end {b : List Int} {i : Int} (h : ¬ i < (b.length : Int)) : la b i = [] := by
  unfold la
  cases b.length with
  | zero => rfl
  | succ n => rw [ls, if_neg (by omega)]
/-- Letters from a byte to another. -/
def pth (b : List Int) : List (Int × Int) → Int → Int → Prop
  | [], i, j => i = j
  | x :: t, i, j => x = (i, lv b i) ∧ 0 ≤ lv b i ∧ i < (b.length : Int) ∧ pth b t (i + sz b i) j
theorem pth_le {b : List Int} : ∀ {ms : List (Int × Int)} {i j : Int}, pth b ms i j → i + ms.length ≤ j
  | [], i, j, h => by have : i = j := h; simp; omega
  | x :: t, i, j, h => by
    have := pth_le h.2.2.2
    have := sz_bd b i
    rw [List.length_cons]; omega
theorem pth_in {b : List Int} : ∀ {ms : List (Int × Int)} {i j : Int}, i ≤ (b.length : Int) → pth b ms i j → j ≤ (b.length : Int)
  | [], i, j, h0, h => by have : i = j := h; omega
  | x :: t, i, j, h0, h => pth_in (sz_in h.2.2.1) h.2.2.2
theorem pth_snoc {b : List Int} : ∀ {ms : List (Int × Int)} {i j : Int}, pth b ms i j → 0 ≤ lv b j → j < (b.length : Int) → pth b (ms ++ [(j, lv b j)]) i (j + sz b j)
  | [], i, j, h, h1, h2 => by cases (show i = j from h); exact ⟨rfl, h1, h2, rfl⟩
  | x :: t, i, j, h, h1, h2 => ⟨h.1, h.2.1, h.2.2.1, pth_snoc h.2.2.2 h1 h2⟩
theorem pth_la {b : List Int} : ∀ {ms : List (Int × Int)} {i j : Int}, 0 ≤ i → pth b ms i j → la b i = ms ++ la b j
  | [], i, j, _, h => by cases (show i = j from h); rfl
  | x :: t, i, j, h0, h => by
    have := sz_bd b i
    rw [la_step h0 h.2.2.1, pth_la (by omega) h.2.2.2, h.1]; rfl
theorem pth_take {b : List Int} {e : Int} (he : e ≤ (b.length : Int)) : ∀ {ms : List (Int × Int)} {i j : Int}, 0 ≤ i → pth b ms i j → j ≤ e → pth (b.take e.toNat) ms i j
  | [], i, j, _, h, _ => h
  | x :: t, i, j, h0, h, hj => by
    have hp := pth_le h.2.2.2
    obtain ⟨g1, g2, g3⟩ := lv_ok h.2.1
    have hz := sz_bd b i
    have e1 := lt_take (b := b) (i := i) (e := e) h0 (by omega) he g1
    have e2 : lv (b.take e.toNat) i = lv b i := by unfold lv; rw [e1]
    have e3 : sz (b.take e.toNat) i = sz b i := by unfold sz; rw [e1]
    have ih := pth_take he (i := i + sz b i) (by omega) h.2.2.2 hj
    refine ⟨by rw [e2]; exact h.1, by rw [e2]; exact h.2.1, by rw [List.length_take]; omega, by rw [e3]; exact ih⟩
/-- Where a line's letters end. -/
def en (b : List Int) (i : Int) : Int := i + (((b.drop i.toNat).takeWhile fun x => x != 10 && x != 13).length : Int)
theorem drop_rd {b : List Int} {i : Int} (h0 : 0 ≤ i) (h : i < (b.length : Int)) : b.drop i.toNat = rd b i :: b.drop (i + 1).toNat := by
  rw [List.drop_eq_getElem_cons (by omega), show (i + 1).toNat = i.toNat + 1 by omega]
  congr 1
  unfold rd
  rw [List.getD_eq_getElem?_getD, List.getElem?_eq_getElem (by omega)]; rfl
theorem en_go {b : List Int} {i : Int} (h0 : 0 ≤ i) (h : i < (b.length : Int)) (h1 : rd b i ≠ 10) (h2 : rd b i ≠ 13) : en b i = en b (i + 1) := by
  unfold en
  rw [drop_rd h0 h, List.takeWhile_cons_of_pos (by simp [h1, h2]), List.length_cons]; omega
theorem en_stop {b : List Int} {i : Int} (h0 : 0 ≤ i) (h : ¬ (i < (b.length : Int)) ∨ rd b i = 10 ∨ rd b i = 13) : en b i = i := by
  unfold en
  by_cases c : i < (b.length : Int)
  · rw [drop_rd h0 c, List.takeWhile_cons_of_neg (by rcases h with h | h | h <;> simp_all)]; simp
  · rw [List.drop_eq_nil_of_le (by omega)]; simp
theorem en_bd {b : List Int} {i : Int} (h0 : 0 ≤ i) (h : i ≤ (b.length : Int)) : i ≤ en b i ∧ en b i ≤ (b.length : Int) := by
  unfold en
  have := (List.takeWhile_prefix (p := fun x : Int => x != 10 && x != 13) (l := b.drop i.toNat)).length_le
  rw [List.length_drop] at this
  omega
theorem en_ev {b : List Int} (hn : b.length ≤ 1000000) : ∀ (n : Nat) (i : Int), 0 ≤ i → i ≤ (b.length : Int) → (b.length : Int) ≤ i + n → Ev (fun k => utf_end.l0 k b i) (en b i)
  | 0, i, h0, h1, h2 => Ev.step (fun k => utf_end.l0.eq_2 _ _ _) (ev_neg (by omega) (ev_ret (en_stop h0 (Or.inl (by omega))).symm))
  | n + 1, i, h0, h1, h2 => by
    refine Ev.step (fun k => utf_end.l0.eq_2 _ _ _) (ev_ite (fun c => ev_pos h0 (ev_ite (fun c1 => ev_ret (en_stop h0 (Or.inr (Or.inl c1))).symm) (fun c1 => ev_ite (fun c2 => ev_ret (en_stop h0 (Or.inr (Or.inr c2))).symm) (fun c2 => ?_)))) (fun c => ev_ret (en_stop h0 (Or.inl c)).symm))
    rw [en_go h0 c c1 c2, wr (n := i + 1) (by omega) (by omega)]
    exact en_ev hn n (i + 1) (by omega) (by omega) (by omega)
/-- A letter that is no line's end is gone over. -/
theorem en_over {b : List Int} (hb : By b) {i : Int} (h0 : 0 ≤ i) (hl : i < (b.length : Int)) (h : 0 ≤ lv b i) (h1 : lv b i ≠ 10) (h2 : lv b i ≠ 13) : en b i = en b (i + sz b i) := by
  have low := lv_low hb h
  have hin := sz_in hl
  have hz := sz_bd b i
  have r0 : rd b i ≠ 10 ∧ rd b i ≠ 13 := ⟨fun g => h1 (by rw [low.2 (by omega)]; exact g), fun g => h2 (by rw [low.2 (by omega)]; exact g)⟩
  have go : ∀ j : Nat, 1 ≤ j → (j : Int) ≤ sz b i → en b i = en b (i + j) := by
    intro j
    induction j with
    | zero => intro h; omega
    | succ j ih =>
      intro _ g
      by_cases c : j = 0
      · subst c; exact en_go h0 hl r0.1 r0.2
      · have hr := lv_rest h (j := j) (by omega) (by omega)
        rw [ih (by omega) (by omega), en_go (i := i + j) (by omega) (by omega) (by omega) (by omega)]
        congr 1; omega
  have := go (sz b i).toNat (by omega) (by omega)
  rw [this]; congr 1; omega
/-- The lines that begin behind a byte. -/
def lf (b : List Int) (i : Int) : List Int := li b.length b i
theorem lf_step {b : List Int} {i : Int} (h0 : 0 ≤ i) (h : i < (b.length : Int)) : lf b i = if nl b i then (i + 1) :: lf b (i + 1) else lf b (i + 1) := by
  unfold lf
  rw [← li_fuel b b.length 1 i (by omega), li, if_pos h]
theorem lf_gt {b : List Int} : ∀ (n : Nat) (i : Int), ∀ x ∈ li n b i, i < x
  | 0, _, _, h => by simp [li] at h
  | n + 1, i, x, h => by
    rw [li] at h
    split at h
    · split at h
      · rcases List.mem_cons.1 h with h | h
        · omega
        · have := lf_gt n (i + 1) x h; omega
      · have := lf_gt n (i + 1) x h; omega
    · simp at h
theorem lf_over {b : List Int} (hb : By b) {i : Int} (h0 : 0 ≤ i) (hl : i < (b.length : Int)) (h : 0 ≤ lv b i) (h1 : lv b i ≠ 10) (h2 : lv b i ≠ 13) : lf b i = lf b (i + sz b i) := by
  have low := lv_low hb h
  have hin := sz_in hl
  have hz := sz_bd b i
  have r0 : rd b i ≠ 10 ∧ rd b i ≠ 13 := ⟨fun g => h1 (by rw [low.2 (by omega)]; exact g), fun g => h2 (by rw [low.2 (by omega)]; exact g)⟩
  have one : ∀ j : Int, 0 ≤ j → j < (b.length : Int) → rd b j ≠ 10 → rd b j ≠ 13 → lf b j = lf b (j + 1) := by
    intro j j0 jl c1 c2
    rw [lf_step j0 jl, if_neg (fun g => g.elim c1 (fun g => c2 g.1))]
  have go : ∀ j : Nat, 1 ≤ j → (j : Int) ≤ sz b i → lf b i = lf b (i + j) := by
    intro j
    induction j with
    | zero => intro h; omega
    | succ j ih =>
      intro _ g
      by_cases c : j = 0
      · subst c; exact one i h0 hl r0.1 r0.2
      · have hr := lv_rest h (j := j) (by omega) (by omega)
        rw [ih (by omega) (by omega), one (i + j) (by omega) (by omega) (by omega) (by omega)]
        congr 1; omega
  have := go (sz b i).toNat (by omega) (by omega)
  rw [this]; congr 1; omega
theorem line_ev {X Y : List Int} {p : Int} (hX : ∀ x ∈ X, x ≤ p) (hY : ∀ y ∈ Y, p < y) : ∀ (d : Nat) (i : Int), 0 ≤ i → i + d + 1 = (X.length : Int) → Ev (fun k => utf_Place.line k (X ++ Y) p i) ((X.length : Int) - 1)
  | 0, i, h0, h1 => by
    refine Ev.step (fun k => utf_Place.line.eq_2 _ _ _ _) (ev_ite (fun c => ?_) (fun c => ev_ret (by omega)))
    refine ev_neg ?_ (ev_ret (by omega))
    have e := rd_right X Y (j := 0) (by omega)
    rw [show i + 1 = (X.length : Int) + 0 by omega, e]
    rw [List.length_append] at c
    cases Y with
    | nil => simp at c; omega
    | cons y Y => have := hY y List.mem_cons_self; unfold rd; simp; omega
  | d + 1, i, h0, h1 => by
    have ih := line_ev hX hY d (i + 1) (by omega) (by omega)
    refine Ev.step (fun k => utf_Place.line.eq_2 _ _ _ _) (ev_pos (by rw [List.length_append]; omega) (ev_pos ?_ ih))
    rw [rd_left X Y (by omega) (by omega)]
    unfold rd
    rw [List.getD_eq_getElem?_getD, List.getElem?_eq_getElem (by omega)]
    exact hX _ (List.getElem_mem _)
/-- The letters of a text behind a byte, moved. -/
theorem la_drop (b : List Int) {f : Int} (h0 : 0 ≤ f) (h1 : f ≤ (b.length : Int)) (n : Nat) (hn : (b.drop f.toNat).length ≤ n) : (ls n (b.drop f.toNat) 0).map (sh f) = la b f := by
  have e := ls_right (b.take f.toNat) (b.drop f.toNat) n 0 (by omega)
  have hf : ((b.take f.toNat).length : Int) = f := by rw [List.length_take]; omega
  rw [List.take_append_drop, hf] at e
  rw [← e, Int.add_zero, ls_any n (by rw [List.length_drop] at hn; omega) h0]
def pgo (hi : Int) : List (Int × Int) → Int → Int
  | [], n => n
  | x :: t, n => if x.1 + utf_Place.size x.2 > hi then n else pgo hi t (n + utf_Units.u x.2)
theorem place_size (r : Int) : 0 ≤ utf_Place.size r ∧ utf_Place.size r ≤ 4 := by
  unfold utf_Place.size
  split
  · rw [enc_get]; unfold enc
    split
    · simp
    split
    · simp
    split
    · simp
    split
    · simp
    · simp
  · omega
theorem pgo_eq {lo hi : Int} (h0 : 0 ≤ lo) : ∀ (l : List (Int × Int)) (n : Int), (∀ x ∈ l.map (sh lo), 0 ≤ x.1 ∧ x.1 ≤ 1000000) → 0 ≤ n → n + 2 * l.length ≤ 100000000 → utf_Place.go lo hi l n = pgo hi (l.map (sh lo)) n
  | [], n, _, _, _ => rfl
  | x :: t, n, h, n0, n1 => by
    have hx := h (sh lo x) (by simp)
    have e : (sh lo x).1 = lo + x.1 := rfl
    have e2 : (sh lo x).2 = x.2 := rfl
    rw [e] at hx
    have hs := place_size x.2
    have hu := u_bd x.2
    rw [List.length_cons] at n1
    rw [List.map_cons, utf_Place.go, pgo, wr (n := lo + x.1) (by omega) (by omega), wr (n := lo + x.1 + utf_Place.size x.2) (by omega) (by omega), wr (n := n + utf_Units.u x.2) (by omega) (by omega), e, e2]
    rw [pgo_eq h0 t _ (fun y hy => h y (List.mem_cons_of_mem _ hy)) (by omega) (by omega)]
theorem pgo_path {b : List Int} (hb : By b) {hi : Int} : ∀ {ms : List (Int × Int)} {i : Int} (rest : List (Int × Int)) (n : Int), 0 ≤ i → pth b ms i hi → pgo hi (ms ++ rest) n = pgo hi rest (n + us ms)
  | [], i, rest, n, _, h => by rw [us, Int.add_zero]; rfl
  | x :: t, i, rest, n, h0, h => by
    have hp := pth_le h.2.2.2
    have hz := sz_bd b i
    have hs := size_eq hb h0 h.2.2.1 h.2.1
    rw [List.cons_append, pgo, if_neg (by rw [h.1]; dsimp only; rw [hs]; omega), pgo_path hb rest _ (by omega) h.2.2.2, us]
    congr 1; omega
def ogo (hi : Int) : List (Int × Int) → Int → Int
  | [], _ => hi
  | x :: t, left => if left < utf_Units.u x.2 then x.1 else ogo hi t (left - utf_Units.u x.2)
theorem ogo_eq {lo hi : Int} (h0 : 0 ≤ lo) : ∀ (l : List (Int × Int)) (n : Int), (∀ x ∈ l.map (sh lo), 0 ≤ x.1 ∧ x.1 ≤ 1000000) → n ≤ 100000000 → 2 * (l.length : Int) ≤ n + 100000000 → utf_Offset.go lo hi l n = ogo hi (l.map (sh lo)) n
  | [], n, _, _, _ => rfl
  | x :: t, n, h, n0, n1 => by
    have hx := h (sh lo x) (by simp)
    have e : (sh lo x).1 = lo + x.1 := rfl
    have e2 : (sh lo x).2 = x.2 := rfl
    rw [e] at hx
    have hu := u_bd x.2
    rw [List.length_cons] at n1
    rw [List.map_cons, utf_Offset.go, ogo, wr (n := lo + x.1) (by omega) (by omega), e, e2]
    by_cases c : n < utf_Units.u x.2
    · rw [if_pos c, if_pos c]
    · rw [if_neg c, if_neg c, wr (n := n - utf_Units.u x.2) (by omega) (by omega), ogo_eq h0 t _ (fun y hy => h y (List.mem_cons_of_mem _ hy)) (by omega) (by omega)]
theorem ogo_path {hi : Int} : ∀ (ms rest : List (Int × Int)), ogo hi (ms ++ rest) (us ms) = ogo hi rest 0
  | [], rest => rfl
  | x :: t, rest => by
    have := us_bd t
    rw [List.cons_append, ogo, us, if_neg (by omega), show utf_Units.u x.2 + us t - utf_Units.u x.2 = us t by omega]
    exact ogo_path t rest
theorem la_in {b : List Int} (hn : b.length ≤ 1000000) : ∀ (n : Nat) (i : Int), 0 ≤ i → ∀ x ∈ ls n b i, 0 ≤ x.1 ∧ x.1 ≤ 1000000
  | 0, _, _, _, h => by simp [ls] at h
  | n + 1, i, h0, x, h => by
    rw [ls] at h
    split at h
    · have := sz_bd b i
      rcases List.mem_cons.1 h with h | h
      · rw [h]; dsimp only; omega
      · exact la_in hn n (i + sz b i) (by omega) x h
    · simp at h
/-- The position of a letter: its line, and the units of the letters ahead of it. -/
theorem place_ev {b : List Int} (hb : By b) (hn : b.length ≤ 1000) {A Y : List Int} {ms : List (Int × Int)} {from' p s : Int} (f0 : 0 ≤ from') (hA : ∀ x ∈ A ++ [from'], x ≤ p) (hY : ∀ y ∈ Y, p < y) (hp : p ≤ (b.length : Int)) (hms : pth b ms from' s) (hs : s < (b.length : Int)) (hsv : 0 ≤ lv b s) (hmin : min p (en b from') = s) (hlen : (A ++ [from'] ++ Y).length ≤ 10000) :
    Ev (fun k => utf_Place.f k b (A ++ [from'] ++ Y) p) ((A.length : Int), us ms) := by
  have hf := hA from' (by simp)
  have hle := pth_le hms
  have hat : utf_Place.at' b p = p := by unfold utf_Place.at'; omega
  have hX : (A ++ [from']).length = A.length + 1 := by simp
  have hrd : rd (A ++ [from'] ++ Y) (A.length : Int) = from' := by
    rw [rd_left _ _ (by omega) (by rw [hX]; omega)]
    unfold rd; simp
  have hlo : utf_Place.lo b (A ++ [from'] ++ Y) (A.length : Int) = from' := by
    unfold utf_Place.lo; rw [hrd]; omega
  have hl := line_ev hA hY A.length 0 (by omega) (by rw [hX]; omega)
  rw [show (((A ++ [from']).length : Nat) : Int) - 1 = (A.length : Int) by rw [hX]; omega] at hl
  have hdl : (b.drop from'.toNat).length ≤ b.length := by rw [List.length_drop]; omega
  have hbd : By (b.drop from'.toNat) := fun x hx => hb x (List.mem_of_mem_drop hx)
  have hlet := letters_ev hbd (by omega) b.length 0 (by omega) (by omega)
  have hmap := la_drop b f0 (by omega) b.length hdl
  refine ev_pos ⟨by omega, by omega⟩ ?_
  rw [hat]
  refine Ev.bind hl (ev_neg (by rw [List.length_append, hX]; omega) (ev_pos ⟨by omega, by rw [List.length_append, hX]; omega⟩ ?_))
  rw [hlo]
  refine Ev.bind (en_ev (by omega) b.length from' f0 (by omega) (by omega)) (Ev.bind hlet (ev_ret ?_))
  have hll := ls_len b.length (b.drop from'.toNat) 0
  rw [pgo_eq f0 _ _ (by rw [hmap]; exact la_in (by omega) _ _ f0) (by omega) (by omega), hmap, hmin, pth_la f0 hms, pgo_path hb _ _ f0 hms, la_step (by omega) hs, pgo, if_pos (by
    have := size_eq hb (by omega) hs hsv
    have := sz_bd b s
    dsimp only; omega)]
  congr 1; omega
/-- And back: the letter of a position. -/
theorem offset_ev {b : List Int} (hb : By b) (hn : b.length ≤ 1000) {A Y : List Int} {ms : List (Int × Int)} {from' p : Int} (f0 : 0 ≤ from') (hms : pth b ms from' p) (hp : p < (b.length : Int)) (hv : 0 ≤ lv b p) (hen : p + sz b p ≤ en b from') (hlen : (A ++ [from'] ++ Y).length ≤ 10000) :
    Ev (fun k => utf_Offset.f k b (A ++ [from'] ++ Y) (A.length : Int) (us ms)) p := by
  have hle := pth_le hms
  have hz := sz_bd b p
  have hbd := en_bd (b := b) f0 (by omega)
  have hX : (A ++ [from']).length = A.length + 1 := by simp
  have hrd : rd (A ++ [from'] ++ Y) (A.length : Int) = from' := by
    rw [rd_left _ _ (by omega) (by rw [hX]; omega)]
    unfold rd; simp
  have hlo : utf_Offset.lo b (A ++ [from'] ++ Y) (A.length : Int) = from' := by
    unfold utf_Offset.lo; rw [hrd]; omega
  generalize hE : en b from' = e at *
  have htl : ((b.take e.toNat).length : Int) = e := by rw [List.length_take]; omega
  have hbt : By ((b.take e.toNat).drop from'.toNat) := hb.cut _ _
  have hdl : ((b.take e.toNat).drop from'.toNat).length ≤ b.length := by rw [List.length_drop]; omega
  have hlet := letters_ev hbt (by omega) b.length 0 (by omega) (by omega)
  have hmap := la_drop (b.take e.toNat) f0 (by omega) b.length hdl
  have hus := us_bd ms
  refine ev_pos (by omega) (ev_neg (by omega) (ev_neg (by rw [List.length_append, hX]; omega) ?_))
  rw [hlo]
  have hee := en_ev (b := b) (by omega) b.length from' f0 (by omega) (by omega)
  rw [hE] at hee
  refine Ev.bind hee (ev_pos ⟨by omega, by omega⟩ (Ev.bind hlet (ev_ret ?_)))
  have hll := ls_len b.length ((b.take e.toNat).drop from'.toNat) 0
  have hpt := pth_take (b := b) (e := e) (by omega) f0 (pth_snoc hms hv hp) hen
  rw [ogo_eq f0 _ _ (by rw [hmap]; exact la_in (by omega) _ _ f0) (by omega) (by omega), hmap, pth_la f0 hpt, List.append_assoc, ogo_path, List.singleton_append, ogo, if_pos (by have := u_bd (lv b p); dsimp only; omega)]
end UtfBack

section UtfBackLaw
theorem lv_ascii {b : List Int} (hb : By b) {i : Int} (h : rd b i < 128) : lv b i = rd b i ∧ sz b i = 1 := by
  unfold lv sz lt
  rw [if_pos h, if_neg (by simp), if_neg (by simp)]
  exact ⟨rfl, rfl⟩
theorem back_l0 {b : List Int} (hb : By b) (hn : b.length ≤ 1000) : ∀ (n : Nat) (p : Int) (pre : List S38) (A : List Int) (from' : Int) (ms : List (Int × Int)) (s lL lU : Int), 0 ≤ p → p ≤ (b.length : Int) → (b.length : Int) ≤ p + n → (pre.length : Int) ≤ p → (A ++ [from'] ++ lf b p).length ≤ 10000 → (fb (la b p)).2 = 0 → 0 ≤ from' → (∀ x ∈ A ++ [from'], x ≤ p) → pth b ms from' s → ((s = p ∧ en b from' = en b p) ∨ (s + 1 = p ∧ p < (b.length : Int) ∧ en b from' = s ∧ rd b s = 13 ∧ rd b p = 10)) → (lL < (A.length : Int) ∨ (lL = (A.length : Int) ∧ lU < us ms)) →
    Ev (fun k => whetstonelaw03_UtfBack.l0 k b (A ++ [from'] ++ lf b p) (pre ++ (la b p).map (tt b)) (pre.length : Int) lL lU) true
  | 0, p, pre, A, from', ms, s, lL, lU, p0, p1, p2, hpre, hlen, hfb, f0, hA, hms, hst, hlt => by
    rw [la_end (b := b) (i := p) (by omega)]
    exact Ev.step (fun k => whetstonelaw03_UtfBack.l0.eq_2 _ _ _ _ _ _ _) (ev_neg (by simp) (ev_ret rfl))
  | n + 1, p, pre, A, from', ms, s, lL, lU, p0, p1, p2, hpre, hlen, hfb, f0, hA, hms, hst, hlt => by
    by_cases hp : p < (b.length : Int)
    rotate_left
    · rw [la_end hp]
      exact Ev.step (fun k => whetstonelaw03_UtfBack.l0.eq_2 _ _ _ _ _ _ _) (ev_neg (by simp) (ev_ret rfl))
    have hz := sz_bd b p
    have hin := sz_in hp
    have hle := pth_le hms
    have hus := us_bd ms
    rw [la_step p0 hp, fb] at hfb
    by_cases hv : lv b p < 0
    · rw [if_pos hv] at hfb; exact absurd hfb (by simp)
    rw [if_neg hv] at hfb
    have hbp := en_bd p0 p1
    have hY : ∀ y ∈ lf b p, p < y := lf_gt b.length p
    have hs : s < (b.length : Int) ∧ 0 ≤ lv b s ∧ min p (en b from') = s := by
      rcases hst with ⟨h1, h2⟩ | ⟨h1, h2, h3, h4, h5⟩
      · subst h1; exact ⟨hp, by omega, by omega⟩
      · exact ⟨by omega, by rw [(lv_ascii hb (by omega)).1]; omega, by omega⟩
    have hplace := place_ev hb hn f0 hA hY p1 hms hs.1 hs.2.1 hs.2.2 hlen
    have w8 : wrap64 ((pre.length : Int) + 1) = ((pre ++ [tt b (p, lv b p)]).length : Int) := by
      rw [wr (n := (pre.length : Int) + 1) (by omega) (by omega)]; simp
    have wu : wrap64 (us ms - 1) = us ms - 1 := wr (by omega) (by omega)
    -- the next round
    have ih := fun A f ms s lL lU => back_l0 hb hn n (p + sz b p) (pre ++ [tt b (p, lv b p)]) A f ms s lL lU (by omega) hin (by omega) (by rw [List.length_append]; simp; omega)
    have eL : pre ++ (la b p).map (tt b) = (pre ++ [tt b (p, lv b p)]) ++ (la b (p + sz b p)).map (tt b) := by
      rw [la_step p0 hp, List.map_cons]; simp
    have eR : rd_T38 (pre ++ (la b p).map (tt b)) (pre.length : Int) = tt b (p, lv b p) := by
      rw [la_step p0 hp, List.map_cons, rd38]
    have hlt8 : (pre.length : Int) < ((pre ++ (la b p).map (tt b)).length : Int) := by rw [eL]; simp; omega
    generalize hL : pre ++ (la b p).map (tt b) = L at *
    generalize hLn : A ++ [from'] ++ lf b p = Ln at *
    have f1 : (tt b (p, lv b p)).f1 = lv b p := rfl
    have f0' : (tt b (p, lv b p)).f0 = p := rfl
    refine Ev.step (fun k => whetstonelaw03_UtfBack.l0.eq_2 _ _ _ _ _ _ _) (ev_pos hlt8 (ev_pos (by omega) ?_))
    rw [eR, f0', f1]
    refine Ev.bind hplace ?_
    have endE : (lv b p = 10 ∨ lv b p = 13) → Ev (fun k => whetstonelaw03_UtfBack.j2 k b Ln L (pre.length : Int) true lL lU (A.length : Int) (us ms)) true := by
      intro he
      have hlow := (lv_low hb (i := p) (by omega)).1 (by omega)
      have j4 : Ev (fun k => whetstonelaw03_UtfBack.j4 k b Ln L (pre.length : Int) true false (A.length : Int) (us ms)) true := by
        refine Ev.step (fun k => whetstonelaw03_UtfBack.j4.eq_2 _ _ _ _ _ _ _ _ _) (ev_neg (by simp) (ev_pos rfl ?_))
        rw [w8, wu, eL]
        by_cases hnl : nl b p
        · have el : Ln = (A ++ [from']) ++ [p + 1] ++ lf b (p + 1) := by
            rw [← hLn, lf_step p0 hp, if_pos hnl]; simp
          rw [hlow.2] at ih hfb ⊢
          rw [el] at hlen ⊢
          refine ih (A ++ [from']) (p + 1) [] (p + 1) _ _ hlen hfb (by omega) ?_ rfl (Or.inl ⟨rfl, rfl⟩) (Or.inl (by simp; omega))
          intro x hx
          rcases List.mem_append.1 hx with hx | hx
          · have := hA x hx; omega
          · simp at hx; omega
        · have el : Ln = A ++ [from'] ++ lf b (p + 1) := by
            rw [← hLn, lf_step p0 hp, if_neg hnl]
          have h13 : rd b p = 13 := by
            rcases he with h | h
            · exact absurd (Or.inl (by omega)) hnl
            · omega
          have hnx : p + 1 < (b.length : Int) ∧ rd b (p + 1) = 10 := by
            by_cases g : p + 1 < (b.length : Int) ∧ rd b (p + 1) = 10
            · exact g
            · exact absurd (Or.inr ⟨h13, g⟩) hnl
          rw [hlow.2] at ih hfb ⊢
          rw [el] at hlen ⊢
          have hsp : s = p ∧ en b from' = en b p := by
            rcases hst with h | h
            · exact h
            · omega
          refine ih A from' ms s _ _ hlen hfb f0 (fun x hx => by have := hA x hx; omega) hms (Or.inr ⟨by omega, hnx.1, ?_, by rw [hsp.1]; exact h13, hnx.2⟩) (Or.inr ⟨rfl, by omega⟩)
          rw [hsp.2, en_stop p0 (Or.inr (Or.inr h13)), hsp.1]
      have j3 : Ev (fun k => whetstonelaw03_UtfBack.j3 k b Ln L (pre.length : Int) true false lL lU (A.length : Int) (us ms)) true := by
        refine Ev.step (fun k => whetstonelaw03_UtfBack.j3.eq_2 _ _ _ _ _ _ _ _ _ _ _) (ev_neg (by simp) (ev_neg (by omega) (ev_ite (fun g => ev_neg (by omega) (ev_pos rfl j4)) (fun g => ev_pos rfl j4))))
      exact Ev.step (fun k => whetstonelaw03_UtfBack.j2.eq_2 _ _ _ _ _ _ _ _ _ _) (ev_pos rfl j3)
    refine ev_ite (fun h10 => endE (Or.inl h10)) (fun h10 => ?_)
    by_cases h13 : lv b p = 13
    · rw [show (lv b p == 13) = true by simpa using h13]; exact endE (Or.inr h13)
    rw [show (lv b p == 13) = false by simpa using h13]
    have hsp : s = p ∧ en b from' = en b p := by
      rcases hst with h | h
      · exact h
      · have := (lv_ascii hb (i := p) (by omega)).1; omega
    have hov := en_over hb p0 hp (by omega) h10 h13
    have hlo := lf_over hb p0 hp (by omega) h10 h13
    rw [hsp.1] at hms
    have hoff := offset_ev hb hn (A := A) (Y := lf b p) f0 hms hp (by omega) (by rw [hsp.2, hov]; exact (en_bd (by omega) hin).1) (by rw [hLn]; exact hlen)
    rw [hLn] at hoff
    have el : Ln = A ++ [from'] ++ lf b (p + sz b p) := by rw [← hLn, hlo]
    have j4 : Ev (fun k => whetstonelaw03_UtfBack.j4 k b Ln L (pre.length : Int) false false (A.length : Int) (us ms)) true := by
      refine Ev.step (fun k => whetstonelaw03_UtfBack.j4.eq_2 _ _ _ _ _ _ _ _ _) (ev_neg (by simp) (ev_neg (by simp) ?_))
      rw [w8, eL]
      rw [el] at hlen ⊢
      have hu := u_bd (lv b p)
      refine ih A from' (ms ++ [(p, lv b p)]) (p + sz b p) _ _ hlen hfb f0 (fun x hx => by have := hA x hx; omega) (pth_snoc hms (by omega) hp) (Or.inl ⟨rfl, by rw [hsp.2, hov]⟩) (Or.inr ⟨rfl, ?_⟩)
      rw [us_app]; simp only [us]; omega
    have j3 : Ev (fun k => whetstonelaw03_UtfBack.j3 k b Ln L (pre.length : Int) false false lL lU (A.length : Int) (us ms)) true := by
      have ne : ((A.length : Int) == lL && (us ms == lU)) = false := by
        rw [Bool.and_eq_false_iff]
        rcases hlt with h | h
        · left; simp; omega
        · right; simp; omega
      refine Ev.step (fun k => whetstonelaw03_UtfBack.j3.eq_2 _ _ _ _ _ _ _ _ _ _ _) (ev_neg (by simp) (ev_neg (by omega) (ev_ite (fun g => ev_neg (by omega) (ev_neg (by simp) ?_)) (fun g => ev_neg (by simp) ?_))))
      · rw [ne]; exact j4
      · rw [ne]; exact j4
    refine Ev.step (fun k => whetstonelaw03_UtfBack.j2.eq_2 _ _ _ _ _ _ _ _ _ _) (ev_neg (by simp) (Ev.bind hoff (ev_pos (by omega) (ev_pos hlt8 ?_))))
    rw [eR, f0', show (p != p) = false by simp]
    exact j3
end UtfBackLaw
/-- whatever the bytes are, the law's call is true: a letter's position counts the letters between its line's beginning and itself, and so many are gone over on the way back. -/
theorem UtfBack : whetstonelaw03_UtfBack.Pure := by
  intro b _ _ hw
  have e1 : IntKind.u8.min = 0 := rfl
  have e2 : IntKind.u8.max = 255 := rfl
  have hb : By b := fun x hx => by
    have := hw x hx
    simp [Lit.wf, e1, e2] at this; omega
  refine Ev.rounds (Ev.bind lettered_ev (ev_pos rfl ?_))
  by_cases h2 : (b.length : Int) > 400
  · rw [decide_eq_true h2]
    exact Ev.step (fun k => whetstonelaw03_UtfBack.j0.eq_2 _ _ _) (ev_pos rfl (Ev.bind lettered_ev (ev_ret rfl)))
  rw [decide_eq_false h2]
  have hn : b.length ≤ 1000000 := by omega
  refine Ev.step (fun k => whetstonelaw03_UtfBack.j0.eq_2 _ _ _) (ev_neg (by simp) (Ev.bind (valid_ev hb hn) (ev_ite (fun hf => ?_) (fun _ => ev_ret rfl))))
  refine Ev.bind (alines_ev hn) (Ev.bind (rletters hb hn) ?_)
  have hl := li_len b.length b 0
  exact back_l0 hb (by omega) b.length 0 [] [] 0 [] 0 0 (-1) (by omega) (by omega) (by omega) (by simp) (by unfold lf; simp; omega) hf (by omega) (by simp) rfl (Or.inl ⟨rfl, rfl⟩) (Or.inr ⟨rfl, by simp [us]⟩)

end Go.Proofs.Ytpphijljdoojdaa.Pure
