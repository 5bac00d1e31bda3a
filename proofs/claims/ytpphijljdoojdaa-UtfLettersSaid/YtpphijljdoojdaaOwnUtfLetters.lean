/-
The plain law of UtfLetters: whatever the bytes are, the law's call is true: the reference's letters are those that the iterator hands on, in both rounds. No further condition.
-/
import Derived.Test.YtpphijljdoojdaaQUtfLettersx7
set_option maxRecDepth 100000
set_option linter.unusedVariables false
set_option linter.unusedSimpArgs false
namespace Go.Proofs.Ytpphijljdoojdaa.Pure
open Go.RowKit Go.Proofs.Ytpphijljdoojdaa.QUtfLetters Go.Proofs.YtpphijljdoojdaaW.PrintWords Go.Proofs.YtpphijljdoojdaaW.PrintLast

/-! ### plain lemmas: rounds -/
section Base
variable {α β : Type}
theorem ev_pos {c : Prop} [Decidable c] {g f : Nat → Option α} {r : α} (hc : c) (h : Ev g r) : Ev (fun k => if c then g k else f k) r := by
  simpa only [if_pos hc] using h
theorem ev_neg {c : Prop} [Decidable c] {g f : Nat → Option α} {r : α} (hc : ¬ c) (h : Ev f r) : Ev (fun k => if c then g k else f k) r := by
  simpa only [if_neg hc] using h
theorem ev_ite {c : Prop} [Decidable c] {g f : Nat → Option α} {r : α} (h1 : c → Ev g r) (h2 : ¬ c → Ev f r) : Ev (fun k => if c then g k else f k) r := by
  by_cases hc : c
  · exact ev_pos hc (h1 hc)
  · exact ev_neg hc (h2 hc)
theorem ev_bind {g : Nat → Option α} {f : Nat → α → Option β} {a : α} {r : β} (h : Ev g a) (k : Ev (fun n => f n a) r) : Ev (fun n => (g n).bind (f n)) r := Ev.bind h k
theorem ev_some {o : Option α} {f : Nat → α → Option β} {a : α} {r : β} (h : o = some a) (k : Ev (fun n => f n a) r) : Ev (fun n => o.bind (f n)) r := by
  subst h; exact k
theorem ev_ret {a r : α} (h : a = r) : Ev (fun _ => some a) r := h ▸ Ev.now a
theorem ev_cast {g : Nat → Option α} {a r : α} (h : Ev g a) (e : a = r) : Ev g r := e ▸ h
theorem ev_ex {g : Nat → Option α} {r : α} (h : Ev g r) : ∃ k, g k = some r := h.rounds
theorem wr {n : Int} (h : -9223372036854775808 ≤ n) (h' : n ≤ 9223372036854775807) : wrap64 n = n := by unfold wrap64; omega
theorem drc {b : List α} {i : Nat} {c : α} {t : List α} (h : b.drop i = c :: t) : i < b.length ∧ b.drop (i + 1) = t ∧ b[i]? = some c := by
  have h1 : i < b.length := by
    rcases Nat.lt_or_ge i b.length with h1 | h1
    · exact h1
    · rw [List.drop_eq_nil_of_le h1] at h; cases h
  rw [List.drop_eq_getElem_cons h1] at h
  injection h with h2 h3
  exact ⟨h1, h3, by rw [List.getElem?_eq_getElem h1, h2]⟩
theorem drn {b : List α} {i : Nat} (h : b.drop i = []) : b.length ≤ i := by
  rcases Nat.lt_or_ge i b.length with h1 | h1
  · rw [List.drop_eq_getElem_cons h1] at h; cases h
  · exact h1
theorem rd_at {b : List Int} {i : Nat} {c : Int} (h : b[i]? = some c) : rd b (i : Int) = c := by
  unfold rd; rw [Int.toNat_natCast, List.getD_eq_getElem?_getD, h]; rfl
end Base

/-! ### utf: a letter's bytes -/
section UtfEnc
theorem or8 {c y : Int} (n : Nat) (hc : 0 ≤ c ∧ c % 2 ^ n = 0) (hy : 0 ≤ y ∧ y < 2 ^ n) (hs : c + 2 ^ n ≤ 256) : Go.bits .or .u8 c y = c + y := by
  have hb : ∀ v : BitVec 8, IntKind.u8.wrap (v.toNat : Int) = v.toNat := fun v => by rw [IntKind.wrap_u8]; have := v.isLt; omega
  have e : Go.bits .or .u8 c y = ((BitVec.ofInt 8 c ||| BitVec.ofInt 8 y).toNat : Int) := hb _
  rw [e, BitVec.toNat_or]
  have hp : (2 : Int) ^ n = ((2 ^ n : Nat) : Int) := by simp
  have hpos : 0 < 2 ^ n := Nat.two_pow_pos n
  have h1 : (BitVec.ofInt 8 y).toNat = y.toNat := by rw [BitVec.toNat_ofInt]; omega
  have h2 : (BitVec.ofInt 8 c).toNat = 2 ^ n * (c / 2 ^ n).toNat := by
    have e1 := Int.emod_add_mul_ediv c (2 ^ n)
    rw [hc.2, Int.zero_add, hp] at e1
    have h0 : 0 ≤ c / ((2 ^ n : Nat) : Int) := Int.ediv_nonneg hc.1 (by omega)
    have e2 : (((2 ^ n * (c / ((2 ^ n : Nat) : Int)).toNat : Nat)) : Int) = c := by
      rw [Int.natCast_mul, Int.toNat_of_nonneg h0]; exact e1
    rw [hp, BitVec.toNat_ofInt]; omega
  have h5 := Nat.two_pow_add_eq_or_of_lt (i := n) (b := y.toNat) (by rw [hp] at hy; omega) (c / 2 ^ n).toNat
  rw [h1, h2, ← h5, ← h2, BitVec.toNat_ofInt]
  omega
theorem and63 {x : Int} (h0 : 0 ≤ x) (h1 : x < 2147483648) : Go.bits .and .i32 x 63 = x % 64 := by
  have e : Go.bits .and .i32 x 63 = IntKind.i32.wrap ((BitVec.ofInt 32 x &&& BitVec.ofInt 32 63).toNat : Int) := rfl
  have h2 : (BitVec.ofInt 32 63).toNat = 2 ^ 6 - 1 := by decide
  have h3 : (BitVec.ofInt 32 x).toNat = x.toNat := by rw [BitVec.toNat_ofInt]; omega
  rw [e, BitVec.toNat_and, h2, h3, Nat.and_two_pow_sub_one_eq_mod, IntKind.wrap_i32]
  omega
theorem enc_j0 (k : Nat) {r : Int} (h0 : 0 ≤ r) (h1 : r ≤ 1114111) (b : Bool) : utf_Encode.j0 k r b = whetstoneref03_Encode.j0 k r b := by
  cases k with
  | zero => rfl
  | succ k =>
    rw [utf_Encode.j0.eq_2, whetstoneref03_Encode.j0.eq_2]
    have td : ∀ y : Int, Int.tdiv r y = r / y := fun y => Int.tdiv_eq_ediv_of_nonneg h0
    have w1 : wrap64 (r / 64) = r / 64 := wr (by omega) (by omega)
    have w2 : wrap64 (r / 4096) = r / 4096 := wr (by omega) (by omega)
    have w3 : wrap64 (r / 262144) = r / 262144 := wr (by omega) (by omega)
    have m1 : Int.tmod r 64 = r % 64 := Int.tmod_eq_emod_of_nonneg h0
    have m2 : Int.tmod (r / 64) 64 = r / 64 % 64 := Int.tmod_eq_emod_of_nonneg (by omega)
    have m3 : Int.tmod (r / 4096) 64 = r / 4096 % 64 := Int.tmod_eq_emod_of_nonneg (by omega)
    simp only [td, w1, w2, w3, m1, m2, m3]
    have a1 : Go.bits .and .i32 r 63 = r % 64 := and63 h0 (by omega)
    have a2 : Go.bits .and .i32 (r / 64) 63 = r / 64 % 64 := and63 (by omega) (by omega)
    have a3 : Go.bits .and .i32 (r / 4096) 63 = r / 4096 % 64 := and63 (by omega) (by omega)
    simp only [a1, a2, a3]
    have o1 : ∀ y : Int, 0 ≤ y → y < 64 → Go.bits .or .u8 128 (y % 256) = (wrap64 (128 + y)) % 256 := fun y g0 g1 => by
      rw [or8 6 (by decide) (by constructor <;> omega) (by decide), wr (by omega) (by omega)]; omega
    rw [o1 (r % 64) (by omega) (by omega), o1 (r / 64 % 64) (by omega) (by omega), o1 (r / 4096 % 64) (by omega) (by omega)]
    by_cases hb : b = true
    · rw [if_pos hb, if_pos hb]
    · rw [if_neg hb, if_neg hb]
      by_cases c1 : r < 128
      · rw [if_pos c1, if_pos c1]
      · rw [if_neg c1, if_neg c1]
        by_cases c2 : r < 2048
        · rw [if_pos c2, if_pos c2]
          have : Go.bits .or .u8 192 (r / 64 % 256) = (wrap64 (192 + r / 64)) % 256 := by
            rw [or8 6 (by decide) (by constructor <;> omega) (by decide), wr (by omega) (by omega)]; omega
          rw [this]
        · rw [if_neg c2, if_neg c2]
          by_cases c3 : r < 65536
          · rw [if_pos c3, if_pos c3]
            have : Go.bits .or .u8 224 (r / 4096 % 256) = (wrap64 (224 + r / 4096)) % 256 := by
              rw [or8 5 (by decide) (by constructor <;> omega) (by decide), wr (by omega) (by omega)]; omega
            rw [this]
          · rw [if_neg c3, if_neg c3]
            have : Go.bits .or .u8 240 (r / 262144 % 256) = (wrap64 (240 + r / 262144)) % 256 := by
              rw [or8 4 (by decide) (by constructor <;> omega) (by decide), wr (by omega) (by omega)]; omega
            rw [this]
theorem enc_bad (k : Nat) (r r' : Int) : utf_Encode.j0 k r true = whetstoneref03_Encode.j0 k r' true := by
  cases k with
  | zero => rfl
  | succ k => rw [utf_Encode.j0.eq_2, whetstoneref03_Encode.j0.eq_2, if_pos rfl, if_pos rfl]
theorem enc_eq (k : Nat) (r : Int) : utf_Encode.f k r = whetstoneref03_Encode.f k r := by
  unfold utf_Encode.f whetstoneref03_Encode.f
  by_cases h0 : r < 0
  · rw [if_pos h0, if_pos h0]; exact enc_bad _ _ _
  · rw [if_neg h0, if_neg h0]
    by_cases h1 : r > 1114111
    · rw [if_pos h1, if_pos h1]; exact enc_bad _ _ _
    · rw [if_neg h1, if_neg h1, enc_j0 k (by omega) (by omega), enc_j0 k (by omega) (by omega)]
theorem enc_ev (r : Int) : Ev (fun k => utf_Encode.f k r) ((utf_Encode.f 1 r).getD ([], 0)) := Ev.of (utf_Encode.mono r) (utf_Encode.one r)
end UtfEnc
theorem lettered_ev : Ev (fun k => whetstonelaw03_lettered.f k) true := Ev.of (k := 60) whetstonelaw03_lettered.mono (by decide +kernel)

/-! ### utf: the letter that begins at a byte -/
section UtfLet
theorem and192 : ∀ n : Fin 256, (Go.bits .and .u8 (n.val : Int) 192 == 128) = decide (128 ≤ n.val ∧ n.val < 192) := by decide +kernel
theorem and63b : ∀ n : Fin 256, Go.bits .and .u8 (n.val : Int) 63 = (n.val : Int) % 64 := by decide +kernel
theorem and31 : ∀ n : Fin 256, Go.bits .and .i32 (n.val : Int) 31 = (n.val : Int) % 32 := by decide +kernel
theorem and15 : ∀ n : Fin 256, Go.bits .and .i32 (n.val : Int) 15 = (n.val : Int) % 16 := by decide +kernel
theorem and7 : ∀ n : Fin 256, Go.bits .and .i32 (n.val : Int) 7 = (n.val : Int) % 8 := by decide +kernel
theorem fin_of {x : Int} (h : 0 ≤ x ∧ x < 256) : ∃ n : Fin 256, (n.val : Int) = x := ⟨⟨x.toNat, by omega⟩, by simp; omega⟩
theorem ori32 {c y : Int} (n : Nat) (hc : 0 ≤ c ∧ c % 2 ^ n = 0) (hy : 0 ≤ y ∧ y < 2 ^ n) (hs : c + 2 ^ n ≤ 2147483648) : Go.bits .or .i32 c y = c + y := by
  have e : Go.bits .or .i32 c y = IntKind.i32.wrap ((BitVec.ofInt 32 c ||| BitVec.ofInt 32 y).toNat : Int) := rfl
  rw [e, BitVec.toNat_or]
  have hp : (2 : Int) ^ n = ((2 ^ n : Nat) : Int) := by simp
  have hpos : 0 < 2 ^ n := Nat.two_pow_pos n
  have h1 : (BitVec.ofInt 32 y).toNat = y.toNat := by rw [BitVec.toNat_ofInt]; omega
  have h2 : (BitVec.ofInt 32 c).toNat = 2 ^ n * (c / 2 ^ n).toNat := by
    have e1 := Int.emod_add_mul_ediv c (2 ^ n)
    rw [hc.2, Int.zero_add, hp] at e1
    have h0 : 0 ≤ c / ((2 ^ n : Nat) : Int) := Int.ediv_nonneg hc.1 (by omega)
    have e2 : (((2 ^ n * (c / ((2 ^ n : Nat) : Int)).toNat : Nat)) : Int) = c := by
      rw [Int.natCast_mul, Int.toNat_of_nonneg h0]; exact e1
    rw [hp, BitVec.toNat_ofInt]; omega
  have h5 := Nat.two_pow_add_eq_or_of_lt (i := n) (b := y.toNat) (by rw [hp] at hy; omega) (c / 2 ^ n).toNat
  rw [h1, h2, ← h5, ← h2, BitVec.toNat_ofInt, IntKind.wrap_i32]
  omega
def By (b : List Int) : Prop := ∀ x ∈ b, 0 ≤ x ∧ x < 256
theorem By.place {b : List Int} (h : By b) (i : Int) : 0 ≤ rd b i ∧ rd b i < 256 := by
  unfold rd
  rcases Nat.lt_or_ge i.toNat b.length with hi | hi
  · rw [List.getD_eq_getElem?_getD, List.getElem?_eq_getElem hi]; exact h _ (List.getElem_mem _)
  · rw [List.getD_eq_getElem?_getD, List.getElem?_eq_none hi]; exact ⟨Int.le_refl _, by decide⟩
def r2 (c d : Int) : Int := (c - 192) * 64 + (d - 128)
def r3 (c d e : Int) : Int := ((c - 224) * 64 + (d - 128)) * 64 + (e - 128)
def r4 (c d e f : Int) : Int := (((c - 240) * 64 + (d - 128)) * 64 + (e - 128)) * 64 + (f - 128)
def goesOn (b : List Int) (i : Int) : Prop := i < (b.length : Int) ∧ 128 ≤ rd b i ∧ rd b i < 192
instance (b : List Int) (i : Int) : Decidable (goesOn b i) := inferInstanceAs (Decidable (_ ∧ _))
/-- The letter, and how many bytes it has. -/
def lt (b : List Int) (i : Int) : Int × Int :=
  if rd b i < 128 then (rd b i, 1)
  else if 194 ≤ rd b i ∧ rd b i ≤ 223 ∧ goesOn b (i + 1) then (r2 (rd b i) (rd b (i + 1)), 2)
  else if 224 ≤ rd b i ∧ rd b i ≤ 239 ∧ goesOn b (i + 1) ∧ goesOn b (i + 2) then (if 2048 ≤ r3 (rd b i) (rd b (i + 1)) (rd b (i + 2)) ∧ (r3 (rd b i) (rd b (i + 1)) (rd b (i + 2)) < 55296 ∨ 57343 < r3 (rd b i) (rd b (i + 1)) (rd b (i + 2))) then (r3 (rd b i) (rd b (i + 1)) (rd b (i + 2)), 3) else (0, 0))
  else if 240 ≤ rd b i ∧ rd b i ≤ 244 ∧ goesOn b (i + 1) ∧ goesOn b (i + 2) ∧ goesOn b (i + 3) then (if 65536 ≤ r4 (rd b i) (rd b (i + 1)) (rd b (i + 2)) (rd b (i + 3)) ∧ r4 (rd b i) (rd b (i + 1)) (rd b (i + 2)) (rd b (i + 3)) ≤ 1114111 then (r4 (rd b i) (rd b (i + 1)) (rd b (i + 2)) (rd b (i + 3)), 4) else (0, 0))
  else (0, 0)
theorem more_eq {b : List Int} (hb : By b) {i : Int} (hi : 0 ≤ i) : utf_more.f b i = some (decide (goesOn b i)) := by
  unfold utf_more.f
  obtain ⟨n, hn⟩ := fin_of (hb.place i)
  by_cases h : i < (b.length : Int)
  · rw [if_pos h, if_pos hi, ← hn, and192 n]
    by_cases hg : goesOn b i
    · rw [decide_eq_true hg, decide_eq_true (show 128 ≤ n.val ∧ n.val < 192 from by have h1 := hg.2.1; have h2 := hg.2.2; omega)]
    · rw [decide_eq_false hg, decide_eq_false (show ¬ (128 ≤ n.val ∧ n.val < 192) from fun h2 => hg ⟨h, by omega, by omega⟩)]
  · rw [if_neg h, decide_eq_false (fun hg => h hg.1)]
theorem bits6 {b : List Int} (hb : By b) (i : Int) : Go.bits .and .u8 (rd b i) 63 = rd b i % 64 := by
  obtain ⟨n, hn⟩ := fin_of (hb.place i)
  rw [← hn]; exact and63b n
theorem bits5 {b : List Int} (hb : By b) (i : Int) : Go.bits .and .i32 (rd b i) 31 = rd b i % 32 := by
  obtain ⟨n, hn⟩ := fin_of (hb.place i)
  rw [← hn]; exact and31 n
theorem bits4 {b : List Int} (hb : By b) (i : Int) : Go.bits .and .i32 (rd b i) 15 = rd b i % 16 := by
  obtain ⟨n, hn⟩ := fin_of (hb.place i)
  rw [← hn]; exact and15 n
theorem bits3 {b : List Int} (hb : By b) (i : Int) : Go.bits .and .i32 (rd b i) 7 = rd b i % 8 := by
  obtain ⟨n, hn⟩ := fin_of (hb.place i)
  rw [← hn]; exact and7 n
theorem w32 {x : Int} (h0 : 0 ≤ x) (h1 : x < 2147483648) : wrap32 x = x := by unfold wrap32; omega
theorem or2 {c d : Int} (hc : 192 ≤ c ∧ c < 224) (hd : 128 ≤ d ∧ d < 192) : Go.bits .or .i32 (wrap32 (c % 32 * 64)) (wrap32 (d % 64)) = r2 c d := by
  rw [w32 (by omega) (by omega), w32 (by omega) (by omega), ori32 6 (by constructor <;> omega) (by constructor <;> omega) (by omega)]
  unfold r2; omega
theorem or3 {c d e : Int} (hc : 224 ≤ c ∧ c < 240) (hd : 128 ≤ d ∧ d < 192) (he : 128 ≤ e ∧ e < 192) : Go.bits .or .i32 (Go.bits .or .i32 (wrap32 (c % 16 * 4096)) (wrap32 (wrap32 (d % 64) * 64))) (wrap32 (e % 64)) = r3 c d e := by
  rw [w32 (x := d % 64) (by omega) (by omega), w32 (x := e % 64) (by omega) (by omega), w32 (x := c % 16 * 4096) (by omega) (by omega), w32 (x := d % 64 * 64) (by omega) (by omega), ori32 12 (c := c % 16 * 4096) (by constructor <;> omega) (by constructor <;> omega) (by omega), ori32 6 (by constructor <;> omega) (by constructor <;> omega) (by omega)]
  unfold r3; omega
theorem or4 {c d e f : Int} (hc : 240 ≤ c ∧ c < 248) (hd : 128 ≤ d ∧ d < 192) (he : 128 ≤ e ∧ e < 192) (hf : 128 ≤ f ∧ f < 192) : Go.bits .or .i32 (Go.bits .or .i32 (Go.bits .or .i32 (wrap32 (c % 8 * 262144)) (wrap32 (wrap32 (d % 64) * 4096))) (wrap32 (wrap32 (e % 64) * 64))) (wrap32 (f % 64)) = r4 c d e f := by
  rw [w32 (x := d % 64) (by omega) (by omega), w32 (x := e % 64) (by omega) (by omega), w32 (x := f % 64) (by omega) (by omega), w32 (x := c % 8 * 262144) (by omega) (by omega), w32 (x := d % 64 * 4096) (by omega) (by omega), w32 (x := e % 64 * 64) (by omega) (by omega), ori32 18 (c := c % 8 * 262144) (by constructor <;> omega) (by constructor <;> omega) (by omega), ori32 12 (c := c % 8 * 262144 + d % 64 * 4096) (y := e % 64 * 64) (by constructor <;> omega) (by constructor <;> omega) (by omega), ori32 6 (by constructor <;> omega) (by constructor <;> omega) (by omega)]
  unfold r4; omega
theorem letter_ev {b : List Int} (hb : By b) {i : Int} (hi : 0 ≤ i) (hl : i < (b.length : Int)) (hn : b.length ≤ 1000000) : Ev (fun k => utf_letter.f k b i) (lt b i) := by
  have hc := hb.place i
  have wc : wrap32 (rd b i) = rd b i := w32 (by omega) (by omega)
  have w1 : wrap64 (i + 1) = i + 1 := wr (by omega) (by omega)
  have w2 : wrap64 (i + 2) = i + 2 := wr (by omega) (by omega)
  have w3 : wrap64 (i + 3) = i + 3 := wr (by omega) (by omega)
  have m1 := more_eq hb (show 0 ≤ i + 1 by omega)
  have m2 := more_eq hb (show 0 ≤ i + 2 by omega)
  have m3 := more_eq hb (show 0 ≤ i + 3 by omega)
  have j2 : ¬ (rd b i < 128) → ¬ (194 ≤ rd b i ∧ rd b i ≤ 223 ∧ goesOn b (i + 1)) → ¬ (224 ≤ rd b i ∧ rd b i ≤ 239 ∧ goesOn b (i + 1) ∧ goesOn b (i + 2)) → Ev (fun k => utf_letter.j1 k b i (rd b i) false) (lt b i) := by
    intro n1 n2 n3
    have zero : ¬ (240 ≤ rd b i ∧ rd b i ≤ 244 ∧ goesOn b (i + 1) ∧ goesOn b (i + 2) ∧ goesOn b (i + 3)) → Ev (fun k => utf_letter.j2 k b i (rd b i) false) (lt b i) := by
      intro n4
      refine Ev.step (fun k => utf_letter.j2.eq_2 _ _ _ _ _) (ev_neg (by simp) (ev_ret ?_))
      unfold lt
      rw [if_neg n1, if_neg n2, if_neg n3, if_neg n4]
    refine Ev.step (fun k => utf_letter.j1.eq_2 _ _ _ _ _) (ev_neg (by simp) ?_)
    simp only [w1, w2, w3]
    refine ev_ite (fun h1 => ev_ite (fun h2 => ev_some m1 ?_) (fun h2 => zero (fun h => h2 h.2.1))) (fun h1 => zero (fun h => h1 h.1))
    by_cases g1 : goesOn b (i + 1)
    · refine ev_pos (decide_eq_true g1) (ev_some m2 ?_)
      by_cases g2 : goesOn b (i + 2)
      · refine ev_pos (decide_eq_true g2) (ev_some m3 ?_)
        by_cases g3 : goesOn b (i + 3)
        · rw [decide_eq_true g3]
          refine Ev.step (fun k => utf_letter.j2.eq_2 _ _ _ _ _) (ev_pos rfl ?_)
          simp only [w1, w2, w3, bits6 hb, bits3 hb]
          rw [or4 (by omega) g1.2 g2.2 g3.2]
          have e : lt b i = if 65536 ≤ r4 (rd b i) (rd b (i + 1)) (rd b (i + 2)) (rd b (i + 3)) ∧ r4 (rd b i) (rd b (i + 1)) (rd b (i + 2)) (rd b (i + 3)) ≤ 1114111 then (r4 (rd b i) (rd b (i + 1)) (rd b (i + 2)) (rd b (i + 3)), 4) else (0, 0) := by
            unfold lt
            rw [if_neg n1, if_neg n2, if_neg n3, if_pos ⟨h1, h2, g1, g2, g3⟩]
          rw [e]
          refine ev_pos (by omega) (ev_pos g1.1 (ev_pos (by omega) (ev_pos g2.1 (ev_pos (by omega) (ev_pos g3.1 ?_)))))
          refine ev_ite (fun a1 => ev_ite (fun a2 => ev_ret ?_) (fun a2 => ev_ret ?_)) (fun a1 => ev_ret ?_)
          · rw [if_pos ⟨a1, a2⟩]
          · rw [if_neg (fun h => a2 h.2)]
          · rw [if_neg (fun h => a1 h.1)]
        · rw [decide_eq_false g3]; exact zero (fun h => g3 h.2.2.2.2)
      · exact ev_neg (by rw [decide_eq_false g2]; simp) (zero (fun h => g2 h.2.2.2.1))
    · exact ev_neg (by rw [decide_eq_false g1]; simp) (zero (fun h => g1 h.2.2.1))
  have j1 : ¬ (rd b i < 128) → ¬ (194 ≤ rd b i ∧ rd b i ≤ 223 ∧ goesOn b (i + 1)) → Ev (fun k => utf_letter.j0 k b i (rd b i) false) (lt b i) := by
    intro n1 n2
    refine Ev.step (fun k => utf_letter.j0.eq_2 _ _ _ _ _) (ev_neg (by simp) ?_)
    simp only [w1, w2]
    refine ev_ite (fun h1 => ev_ite (fun h2 => ev_some m1 ?_) (fun h2 => j2 n1 n2 (fun h => h2 h.2.1))) (fun h1 => j2 n1 n2 (fun h => h1 h.1))
    by_cases g1 : goesOn b (i + 1)
    · refine ev_pos (decide_eq_true g1) (ev_some m2 ?_)
      by_cases g2 : goesOn b (i + 2)
      · rw [decide_eq_true g2]
        refine Ev.step (fun k => utf_letter.j1.eq_2 _ _ _ _ _) (ev_pos rfl ?_)
        simp only [w1, w2, bits6 hb, bits4 hb]
        rw [or3 (by omega) g1.2 g2.2]
        have e : lt b i = if 2048 ≤ r3 (rd b i) (rd b (i + 1)) (rd b (i + 2)) ∧ (r3 (rd b i) (rd b (i + 1)) (rd b (i + 2)) < 55296 ∨ 57343 < r3 (rd b i) (rd b (i + 1)) (rd b (i + 2))) then (r3 (rd b i) (rd b (i + 1)) (rd b (i + 2)), 3) else (0, 0) := by
          unfold lt
          rw [if_neg n1, if_neg n2, if_pos ⟨h1, h2, g1, g2⟩]
        rw [e]
        refine ev_pos (by omega) (ev_pos g1.1 (ev_pos (by omega) (ev_pos g2.1 ?_)))
        refine ev_ite (fun a1 => ev_ite (fun a2 => ev_ret ?_) (fun a2 => ev_ite (fun a3 => ev_ret ?_) (fun a3 => ev_ret ?_))) (fun a1 => ev_ret ?_)
        · rw [if_pos ⟨a1, Or.inl a2⟩]
        · rw [if_pos ⟨a1, Or.inr a3⟩]
        · rw [if_neg (fun h => h.2.elim a2 a3)]
        · rw [if_neg (fun h => a1 h.1)]
      · rw [decide_eq_false g2]; exact j2 n1 n2 (fun h => g2 h.2.2.2)
    · exact ev_neg (by rw [decide_eq_false g1]; simp) (j2 n1 n2 (fun h => g1 h.2.2.1))
  refine ev_pos hi (ev_pos hl ?_)
  simp only [wc, w1]
  refine ev_ite (fun h1 => ev_ret ?_) (fun h1 => ev_ite (fun h2 => ev_ite (fun h3 => ev_some m1 ?_) (fun h3 => j1 h1 (fun h => h3 h.2.1))) (fun h2 => j1 h1 (fun h => h2 h.1)))
  · unfold lt; rw [if_pos h1]
  · by_cases g1 : goesOn b (i + 1)
    · rw [decide_eq_true g1]
      refine Ev.step (fun k => utf_letter.j0.eq_2 _ _ _ _ _) (ev_pos rfl ?_)
      simp only [w1, bits6 hb, bits5 hb]
      rw [or2 (by omega) g1.2]
      refine ev_pos (by omega) (ev_pos g1.1 (ev_ret ?_))
      unfold lt
      rw [if_neg h1, if_pos ⟨h2, h3, g1⟩]
    · rw [decide_eq_false g1]; exact j1 h1 (fun h => g1 h.2.2)
end UtfLet

/-! ### utf: the reference's letter is the program's -/
section UtfOne
theorem str_list (l : List Int) : (strOfNums l).toList = l.map fun n => UInt8.ofNat n.toNat := by
  unfold strOfNums; rw [ByteArray.toList_eq]
theorem str_inj : ∀ {a b : List Int}, By a → By b → ((strOfNums a).toList = (strOfNums b).toList ↔ a = b) := by
  intro a b ha hb
  rw [str_list, str_list]
  refine ⟨?_, fun h => by rw [h]⟩
  intro h
  induction a generalizing b with
  | nil => cases b with
    | nil => rfl
    | cons y b => simp at h
  | cons x a ih =>
    cases b with
    | nil => simp at h
    | cons y b =>
      rw [List.map_cons, List.map_cons] at h
      injection h with h1 h2
      have hx := ha x List.mem_cons_self
      have hy := hb y List.mem_cons_self
      have e := congrArg UInt8.toNat h1
      rw [UInt8.toNat_ofNat', UInt8.toNat_ofNat'] at e
      rw [ih (fun z hz => ha z (List.mem_cons_of_mem _ hz)) (fun z hz => hb z (List.mem_cons_of_mem _ hz)) h2]
      congr 1
      omega
/-- A letter's bytes, or none. -/
def enc (r : Int) : List Int × Int :=
  if r < 0 ∨ 1114111 < r ∨ (55296 ≤ r ∧ r ≤ 57343) then ([], 10)
  else if r < 128 then ([r], 0)
  else if r < 2048 then ([192 + r / 64, 128 + r % 64], 0)
  else if r < 65536 then ([224 + r / 4096, 128 + r / 64 % 64, 128 + r % 64], 0)
  else ([240 + r / 262144, 128 + r / 4096 % 64, 128 + r / 64 % 64, 128 + r % 64], 0)
theorem enc_by (r : Int) : By (enc r).1 := by
  unfold enc By
  intro x hx
  split at hx
  · simp at hx
  split at hx
  · simp at hx; omega
  split at hx
  · simp at hx; omega
  split at hx
  · simp at hx; omega
  · simp at hx; omega
theorem renc_ev (r : Int) : Ev (fun k => whetstoneref03_Encode.f k r) (enc r) := by
  have bad : ∀ r', (r < 0 ∨ 1114111 < r ∨ (55296 ≤ r ∧ r ≤ 57343)) → Ev (fun k => whetstoneref03_Encode.j0 k r' true) (enc r) := by
    intro r' h
    refine Ev.step (fun k => whetstoneref03_Encode.j0.eq_2 _ _ _) (ev_pos rfl (ev_ret ?_))
    unfold enc; rw [if_pos h]
  have good : 0 ≤ r → ¬ (r < 0 ∨ 1114111 < r ∨ (55296 ≤ r ∧ r ≤ 57343)) → Ev (fun k => whetstoneref03_Encode.j0 k r false) (enc r) := by
    intro h0 h
    have td : ∀ y : Int, Int.tdiv r y = r / y := fun y => Int.tdiv_eq_ediv_of_nonneg h0
    have w1 : wrap64 (r / 64) = r / 64 := wr (by omega) (by omega)
    have w2 : wrap64 (r / 4096) = r / 4096 := wr (by omega) (by omega)
    have w3 : wrap64 (r / 262144) = r / 262144 := wr (by omega) (by omega)
    have m1 : Int.tmod r 64 = r % 64 := Int.tmod_eq_emod_of_nonneg h0
    have m2 : Int.tmod (r / 64) 64 = r / 64 % 64 := Int.tmod_eq_emod_of_nonneg (by omega)
    have m3 : Int.tmod (r / 4096) 64 = r / 4096 % 64 := Int.tmod_eq_emod_of_nonneg (by omega)
    have a1 : wrap64 (192 + r / 64) = 192 + r / 64 := wr (by omega) (by omega)
    have a2 : wrap64 (224 + r / 4096) = 224 + r / 4096 := wr (by omega) (by omega)
    have a3 : wrap64 (240 + r / 262144) = 240 + r / 262144 := wr (by omega) (by omega)
    have a4 : wrap64 (128 + r % 64) = 128 + r % 64 := wr (by omega) (by omega)
    have a5 : wrap64 (128 + r / 64 % 64) = 128 + r / 64 % 64 := wr (by omega) (by omega)
    have a6 : wrap64 (128 + r / 4096 % 64) = 128 + r / 4096 % 64 := wr (by omega) (by omega)
    refine Ev.step (fun k => whetstoneref03_Encode.j0.eq_2 _ _ _) (ev_neg (by simp) ?_)
    simp only [td, w1, w2, w3, m1, m2, m3, a1, a2, a3, a4, a5, a6]
    unfold enc
    rw [if_neg h]
    refine ev_ite (fun c1 => ev_ret ?_) (fun c1 => ev_ite (fun c2 => ev_ret ?_) (fun c2 => ev_ite (fun c3 => ev_ret ?_) (fun c3 => ev_ret ?_)))
    · rw [if_pos c1, Int.emod_eq_of_lt h0 (by omega)]
    · rw [if_neg c1, if_pos c2, Int.emod_eq_of_lt (by omega) (by omega), Int.emod_eq_of_lt (by omega) (by omega)]
    · rw [if_neg c1, if_neg c2, if_pos c3, Int.emod_eq_of_lt (a := 224 + r / 4096) (by omega) (by omega), Int.emod_eq_of_lt (a := 128 + r / 64 % 64) (by omega) (by omega), Int.emod_eq_of_lt (a := 128 + r % 64) (by omega) (by omega)]
    · rw [if_neg c1, if_neg c2, if_neg c3, Int.emod_eq_of_lt (a := 240 + r / 262144) (by omega) (by omega), Int.emod_eq_of_lt (a := 128 + r / 4096 % 64) (by omega) (by omega), Int.emod_eq_of_lt (a := 128 + r / 64 % 64) (by omega) (by omega), Int.emod_eq_of_lt (a := 128 + r % 64) (by omega) (by omega)]
  refine ev_ite (fun h => bad r (Or.inl h)) (fun h0 => ev_ite (fun h => bad r (Or.inr (Or.inl h))) (fun h1 => ev_ite (fun h2 => ?_) (fun h2 => good (by omega) (by omega))))
  by_cases h3 : r ≤ 57343
  · rw [decide_eq_true h3]; exact bad r (by omega)
  · rw [decide_eq_false h3]; exact good (by omega) (by omega)
/-- The number of a letter of so many bytes. -/
def gs (b : List Int) (i n : Int) : Int :=
  if n = 1 then rd b i else if n = 2 then r2 (rd b i) (rd b (i + 1)) else if n = 3 then r3 (rd b i) (rd b (i + 1)) (rd b (i + 2)) else r4 (rd b i) (rd b (i + 1)) (rd b (i + 2)) (rd b (i + 3))
def fits (b : List Int) (i n : Int) : Prop := i + n ≤ (b.length : Int) ∧ (enc (gs b i n)).2 = 0 ∧ (enc (gs b i n)).1 = (b.take (i + n).toNat).drop i.toNat
instance (b : List Int) (i n : Int) : Decidable (fits b i n) := inferInstanceAs (Decidable (_ ∧ _ ∧ _))
theorem cut_len {b : List Int} {i n : Int} (hi : 0 ≤ i) (hn : 0 ≤ n) (h : i + n ≤ (b.length : Int)) : ((b.take (i + n).toNat).drop i.toNat).length = n.toNat := by
  rw [List.length_drop, List.length_take]; omega
theorem cut_get {b : List Int} {i : Int} (hi : 0 ≤ i) (m j : Nat) (hj : j < m) : ((b.take (i + (m : Int)).toNat).drop i.toNat).getD j 0 = rd b (i + (j : Int)) := by
  unfold rd
  rw [List.getD_eq_getElem?_getD, List.getD_eq_getElem?_getD, List.getElem?_drop, List.getElem?_take]
  rw [if_pos (by omega), show i.toNat + j = (i + (j : Int)).toNat by omega]
theorem cut1 {b : List Int} {i : Int} (hi : 0 ≤ i) (h : i + 1 ≤ (b.length : Int)) : (b.take (i + 1).toNat).drop i.toNat = [rd b i] := by
  have hl := cut_len hi (n := 1) (by omega) h
  have g0 := cut_get (b := b) hi 1 0 (by omega)
  match hq : (b.take (i + 1).toNat).drop i.toNat, hl with
  | [x], _ => rw [show ((1 : Nat) : Int) = 1 by rfl, hq] at g0; simp at g0; rw [g0]
theorem cut2 {b : List Int} {i : Int} (hi : 0 ≤ i) (h : i + 2 ≤ (b.length : Int)) : (b.take (i + 2).toNat).drop i.toNat = [rd b i, rd b (i + 1)] := by
  have hl := cut_len hi (n := 2) (by omega) h
  have g0 := cut_get (b := b) hi 2 0 (by omega)
  have g1 := cut_get (b := b) hi 2 1 (by omega)
  match hq : (b.take (i + 2).toNat).drop i.toNat, hl with
  | [x, y], _ =>
    rw [show ((2 : Nat) : Int) = 2 by rfl, hq] at g0 g1
    simp at g0 g1; rw [g0, g1]
theorem cut3 {b : List Int} {i : Int} (hi : 0 ≤ i) (h : i + 3 ≤ (b.length : Int)) : (b.take (i + 3).toNat).drop i.toNat = [rd b i, rd b (i + 1), rd b (i + 2)] := by
  have hl := cut_len hi (n := 3) (by omega) h
  have g0 := cut_get (b := b) hi 3 0 (by omega)
  have g1 := cut_get (b := b) hi 3 1 (by omega)
  have g2 := cut_get (b := b) hi 3 2 (by omega)
  match hq : (b.take (i + 3).toNat).drop i.toNat, hl with
  | [x, y, z], _ =>
    rw [show ((3 : Nat) : Int) = 3 by rfl, hq] at g0 g1 g2
    simp at g0 g1 g2; rw [g0, g1, g2]
theorem cut4 {b : List Int} {i : Int} (hi : 0 ≤ i) (h : i + 4 ≤ (b.length : Int)) : (b.take (i + 4).toNat).drop i.toNat = [rd b i, rd b (i + 1), rd b (i + 2), rd b (i + 3)] := by
  have hl := cut_len hi (n := 4) (by omega) h
  have g0 := cut_get (b := b) hi 4 0 (by omega)
  have g1 := cut_get (b := b) hi 4 1 (by omega)
  have g2 := cut_get (b := b) hi 4 2 (by omega)
  have g3 := cut_get (b := b) hi 4 3 (by omega)
  match hq : (b.take (i + 4).toNat).drop i.toNat, hl with
  | [x, y, z, u], _ =>
    rw [show ((4 : Nat) : Int) = 4 by rfl, hq] at g0 g1 g2 g3
    simp at g0 g1 g2 g3; rw [g0, g1, g2, g3]
theorem fits1 {b : List Int} (hb : By b) {i : Int} (hi : 0 ≤ i) (h : i < (b.length : Int)) : fits b i 1 ↔ rd b i < 128 := by
  have h0 := hb.place i
  have e : gs b i 1 = rd b i := rfl
  constructor
  · rintro ⟨h1, h2, h3⟩
    rw [cut1 hi h1, e] at h3
    have hl := congrArg List.length h3
    unfold enc at hl
    rcases Int.lt_or_le (rd b i) 128 with c | c
    · exact c
    · rw [if_neg (by omega), if_neg (by omega), if_pos (by omega)] at hl
      simp at hl
  · intro c
    refine ⟨by omega, ?_, ?_⟩
    · rw [e]; unfold enc; rw [if_neg (by omega), if_pos c]
    · rw [cut1 hi (by omega), e]; unfold enc; rw [if_neg (by omega), if_pos c]
theorem fits2 {b : List Int} (hb : By b) {i : Int} (hi : 0 ≤ i) : fits b i 2 ↔ (194 ≤ rd b i ∧ rd b i ≤ 223 ∧ goesOn b (i + 1)) := by
  have h0 := hb.place i
  have h1 := hb.place (i + 1)
  have e : gs b i 2 = (rd b i - 192) * 64 + (rd b (i + 1) - 128) := rfl
  generalize hx : rd b i = x at *
  generalize hy : rd b (i + 1) = y at *
  constructor
  · rintro ⟨g1, g2, g3⟩
    rw [cut2 hi g1, e, hx, hy] at g3
    unfold goesOn
    rw [hy]
    unfold enc at g3
    split at g3
    · exact absurd g3 (by simp)
    split at g3
    · exact absurd g3 (by simp)
    split at g3
    · simp at g3; omega
    split at g3
    · exact absurd g3 (by simp)
    · exact absurd g3 (by simp)
  · rintro ⟨c1, c2, c3, c4, c5⟩
    rw [hy] at c4 c5
    refine ⟨by omega, ?_, ?_⟩
    · rw [e]; unfold enc; rw [if_neg (by omega), if_neg (by omega), if_pos (by omega)]
    · rw [cut2 hi (by omega), e, hx, hy]; unfold enc; rw [if_neg (by omega), if_neg (by omega), if_pos (by omega)]
      dsimp only
      rw [show 192 + ((x - 192) * 64 + (y - 128)) / 64 = x by omega, show 128 + ((x - 192) * 64 + (y - 128)) % 64 = y by omega]
theorem fits3 {b : List Int} (hb : By b) {i : Int} (hi : 0 ≤ i) : fits b i 3 ↔ (224 ≤ rd b i ∧ rd b i ≤ 239 ∧ goesOn b (i + 1) ∧ goesOn b (i + 2)) ∧ (2048 ≤ r3 (rd b i) (rd b (i + 1)) (rd b (i + 2)) ∧ (r3 (rd b i) (rd b (i + 1)) (rd b (i + 2)) < 55296 ∨ 57343 < r3 (rd b i) (rd b (i + 1)) (rd b (i + 2)))) := by
  have h0 := hb.place i
  have h1 := hb.place (i + 1)
  have h2 := hb.place (i + 2)
  have e : gs b i 3 = r3 (rd b i) (rd b (i + 1)) (rd b (i + 2)) := rfl
  unfold r3 at *
  generalize hx : rd b i = x at *
  generalize hy : rd b (i + 1) = y at *
  generalize hz : rd b (i + 2) = z at *
  constructor
  · rintro ⟨g1, g2, g3⟩
    rw [cut3 hi g1, e, hx, hy, hz] at g3
    unfold goesOn
    rw [hy, hz]
    unfold enc at g3
    split at g3
    · exact absurd g3 (by simp)
    split at g3
    · exact absurd g3 (by simp)
    split at g3
    · exact absurd g3 (by simp)
    split at g3
    · simp at g3; omega
    · exact absurd g3 (by simp)
  · rintro ⟨⟨c1, c2, ⟨c3, c4, c5⟩, c6, c7, c8⟩, c9, c10⟩
    rw [hy] at c4 c5
    rw [hz] at c7 c8
    refine ⟨by omega, ?_, ?_⟩
    · rw [e]; unfold enc; rw [if_neg (by omega), if_neg (by omega), if_neg (by omega), if_pos (by omega)]
    · rw [cut3 hi (by omega), e, hx, hy, hz]; unfold enc; rw [if_neg (by omega), if_neg (by omega), if_neg (by omega), if_pos (by omega)]
      dsimp only
      rw [show 224 + (((x - 224) * 64 + (y - 128)) * 64 + (z - 128)) / 4096 = x by omega, show 128 + (((x - 224) * 64 + (y - 128)) * 64 + (z - 128)) / 64 % 64 = y by omega, show 128 + (((x - 224) * 64 + (y - 128)) * 64 + (z - 128)) % 64 = z by omega]
theorem fits4 {b : List Int} (hb : By b) {i : Int} (hi : 0 ≤ i) : fits b i 4 ↔ (240 ≤ rd b i ∧ rd b i ≤ 244 ∧ goesOn b (i + 1) ∧ goesOn b (i + 2) ∧ goesOn b (i + 3)) ∧ (65536 ≤ r4 (rd b i) (rd b (i + 1)) (rd b (i + 2)) (rd b (i + 3)) ∧ r4 (rd b i) (rd b (i + 1)) (rd b (i + 2)) (rd b (i + 3)) ≤ 1114111) := by
  have h0 := hb.place i
  have h1 := hb.place (i + 1)
  have h2 := hb.place (i + 2)
  have h3 := hb.place (i + 3)
  have e : gs b i 4 = r4 (rd b i) (rd b (i + 1)) (rd b (i + 2)) (rd b (i + 3)) := rfl
  unfold r4 at *
  generalize hx : rd b i = x at *
  generalize hy : rd b (i + 1) = y at *
  generalize hz : rd b (i + 2) = z at *
  generalize hu : rd b (i + 3) = u at *
  constructor
  · rintro ⟨g1, g2, g3⟩
    rw [cut4 hi g1, e, hx, hy, hz, hu] at g3
    unfold goesOn
    rw [hy, hz, hu]
    unfold enc at g3
    split at g3
    · exact absurd g3 (by simp)
    split at g3
    · exact absurd g3 (by simp)
    split at g3
    · exact absurd g3 (by simp)
    split at g3
    · exact absurd g3 (by simp)
    · simp at g3; omega
  · rintro ⟨⟨c1, c2, ⟨c3, c4, c5⟩, ⟨c6, c7, c8⟩, c11, c12, c13⟩, c9, c10⟩
    rw [hy] at c4 c5
    rw [hz] at c7 c8
    rw [hu] at c12 c13
    refine ⟨by omega, ?_, ?_⟩
    · rw [e]; unfold enc; rw [if_neg (by omega), if_neg (by omega), if_neg (by omega), if_neg (by omega)]
    · rw [cut4 hi (by omega), e, hx, hy, hz, hu]; unfold enc; rw [if_neg (by omega), if_neg (by omega), if_neg (by omega), if_neg (by omega)]
      dsimp only
      rw [show 240 + ((((x - 240) * 64 + (y - 128)) * 64 + (z - 128)) * 64 + (u - 128)) / 262144 = x by omega, show 128 + ((((x - 240) * 64 + (y - 128)) * 64 + (z - 128)) * 64 + (u - 128)) / 4096 % 64 = y by omega, show 128 + ((((x - 240) * 64 + (y - 128)) * 64 + (z - 128)) * 64 + (u - 128)) / 64 % 64 = z by omega, show 128 + ((((x - 240) * 64 + (y - 128)) * 64 + (z - 128)) * 64 + (u - 128)) % 64 = u by omega]
/-- The letter, as the reference tells it. -/
def on (b : List Int) (i : Int) : Int × Int := if (lt b i).2 = 0 then (-1, 0) else lt b i
theorem By.cut {b : List Int} (hb : By b) (m n : Nat) : By ((b.take m).drop n) := fun x hx => hb x (List.mem_of_mem_take (List.mem_of_mem_drop hx))
theorem one_ev {b : List Int} (hb : By b) {i : Int} (hi : 0 ≤ i) (hl : i < (b.length : Int)) (hn : b.length ≤ 1000000) : Ev (fun k => whetstoneref03_One.f k b i) (on b i) := by
  have h0 := hb.place i
  have h1 := hb.place (i + 1)
  have h2 := hb.place (i + 2)
  have h3 := hb.place (i + 3)
  have wp : ∀ y : Int, -10 ≤ y → y ≤ 10 → wrap64 (i + y) = i + y := fun y c1 c2 => wr (by omega) (by omega)
  -- a round's end: the number is written again
  have tail : ∀ (n r : Int) (res : Int × Int), 1 ≤ n → n ≤ 4 → i + n ≤ (b.length : Int) → r = gs b i n → (fits b i n → res = (r, n)) → (¬ fits b i n → Ev (fun k => whetstoneref03_One.l0 k b i (n + 1)) res) → Ev (fun k => whetstoneref03_One.l1 k b i n r n) res := by
    intro n r res n1 n4 hin hr hy hno
    have wn : wrap64 (n + 1) = n + 1 := wr (by omega) (by omega)
    refine Ev.step (fun k => whetstoneref03_One.l1.eq_2 _ _ _ _ _ _) (ev_neg (by omega) (Ev.bind (renc_ev r) ?_))
    simp only [wp n (by omega) (by omega), wn]
    refine ev_ite (fun e0 => ev_pos hi (ev_pos (by omega) (ev_pos hin ?_))) (fun e0 => hno (fun h => e0 (hr ▸ h.2.1)))
    refine ev_ite (fun e1 => ev_ret ?_) (fun e1 => hno (fun h => e1 ?_))
    · rw [str_inj (enc_by r) (hb.cut _ _)] at e1
      exact (hy ⟨hin, hr ▸ e0, hr ▸ e1⟩).symm
    · rw [str_inj (enc_by r) (hb.cut _ _), hr]; exact h.2.2
  have stop : ∀ n : Int, 1 ≤ n → n ≤ 5 → ¬ (n ≤ 4 ∧ i + n ≤ (b.length : Int)) → Ev (fun k => whetstoneref03_One.l0 k b i n) (-1, 0) := by
    intro n n1 n5 h
    have j : Ev (fun k => whetstoneref03_One.j1 k b i n false) (-1, 0) := Ev.step (fun k => whetstoneref03_One.j1.eq_2 _ _ _ _ _) (ev_neg (by simp) (ev_ret rfl))
    refine Ev.step (fun k => whetstoneref03_One.l0.eq_2 _ _ _ _) (ev_ite (fun h4 => ?_) (fun _ => j))
    rw [wp n (by omega) (by omega), decide_eq_false (by omega)]; exact j
  have start : ∀ (n : Int) (res : Int × Int), 1 ≤ n → n ≤ 4 → i + n ≤ (b.length : Int) → Ev (fun k => whetstoneref03_One.j2 k b i n (if n = 2 then rd b i - 192 else rd b i)) res → Ev (fun k => whetstoneref03_One.l0 k b i n) res := by
    intro n res n1 n4 hin h
    have wr0 : wrap64 (rd b i) = rd b i := wr (by omega) (by omega)
    have wr1 : wrap64 (rd b i - 192) = rd b i - 192 := wr (by omega) (by omega)
    refine Ev.step (fun k => whetstoneref03_One.l0.eq_2 _ _ _ _) (ev_pos n4 ?_)
    rw [wp n (by omega) (by omega), decide_eq_true hin]
    refine Ev.step (fun k => whetstoneref03_One.j1.eq_2 _ _ _ _ _) (ev_pos rfl (ev_pos hi (ev_pos hl ?_)))
    simp only [wr0, wr1]
    by_cases c : n = 2
    · rw [if_pos c] at h; exact ev_pos c h
    · rw [if_neg c] at h; exact ev_neg c h
  have turn : ∀ (n r s : Int) (res : Int × Int), 1 ≤ s → s < n → n ≤ 4 → i + n ≤ (b.length : Int) → -1000000 ≤ r → r ≤ 100000000 → Ev (fun k => whetstoneref03_One.l1 k b i n (r * 64 + (rd b (i + s) - 128)) (s + 1)) res → Ev (fun k => whetstoneref03_One.l1 k b i n r s) res := by
    intro n r s res s1 sn n4 hin r0 r1 h
    have hs := hb.place (i + s)
    have e1 : wrap64 (s + 1) = s + 1 := wr (by omega) (by omega)
    have e2 : wrap64 (wrap64 (wrap64 (r * 64) + wrap64 (rd b (i + s))) - 128) = r * 64 + (rd b (i + s) - 128) := by
      rw [wr (n := r * 64) (by omega) (by omega), wr (n := rd b (i + s)) (by omega) (by omega), wr (n := r * 64 + rd b (i + s)) (by omega) (by omega), wr (by omega) (by omega)]
      omega
    refine Ev.step (fun k => whetstoneref03_One.l1.eq_2 _ _ _ _ _ _) (ev_pos sn ?_)
    simp only [wp s (by omega) (by omega), e1, e2]
    exact ev_pos (by omega) (ev_pos (by omega) h)
  have f1 := fits1 hb hi hl
  have f2 := fits2 hb hi
  have f3 := fits3 hb hi
  have f4 := fits4 hb hi
  have pick : on b i = if fits b i 1 then (gs b i 1, 1) else if fits b i 2 then (gs b i 2, 2) else if fits b i 3 then (gs b i 3, 3) else if fits b i 4 then (gs b i 4, 4) else (-1, 0) := by
    unfold on lt
    by_cases c1 : rd b i < 128
    · rw [if_pos c1, if_pos (f1.2 c1)]; rfl
    · rw [if_neg c1, if_neg (fun h => c1 (f1.1 h))]
      by_cases c2 : 194 ≤ rd b i ∧ rd b i ≤ 223 ∧ goesOn b (i + 1)
      · rw [if_pos c2, if_pos (f2.2 c2)]; rfl
      · rw [if_neg c2, if_neg (fun h => c2 (f2.1 h))]
        by_cases c3 : 224 ≤ rd b i ∧ rd b i ≤ 239 ∧ goesOn b (i + 1) ∧ goesOn b (i + 2)
        · rw [if_pos c3]
          by_cases d3 : 2048 ≤ r3 (rd b i) (rd b (i + 1)) (rd b (i + 2)) ∧ (r3 (rd b i) (rd b (i + 1)) (rd b (i + 2)) < 55296 ∨ 57343 < r3 (rd b i) (rd b (i + 1)) (rd b (i + 2)))
          · rw [if_pos d3, if_pos (f3.2 ⟨c3, d3⟩)]; rfl
          · rw [if_neg d3, if_neg (show ¬ fits b i 3 from fun h => d3 (f3.1 h).2), if_neg (show ¬ fits b i 4 from fun h => by have := (f4.1 h).1.1; omega)]; rfl
        · rw [if_neg c3, if_neg (fun h => c3 (f3.1 h).1)]
          by_cases c4 : 240 ≤ rd b i ∧ rd b i ≤ 244 ∧ goesOn b (i + 1) ∧ goesOn b (i + 2) ∧ goesOn b (i + 3)
          · rw [if_pos c4]
            by_cases d4 : 65536 ≤ r4 (rd b i) (rd b (i + 1)) (rd b (i + 2)) (rd b (i + 3)) ∧ r4 (rd b i) (rd b (i + 1)) (rd b (i + 2)) (rd b (i + 3)) ≤ 1114111
            · rw [if_pos d4, if_pos (f4.2 ⟨c4, d4⟩)]; rfl
            · rw [if_neg d4, if_neg (show ¬ fits b i 4 from fun h => d4 (f4.1 h).2)]; rfl
          · rw [if_neg c4, if_neg (fun h => c4 (f4.1 h).1)]; rfl
  have nofit : ∀ n : Int, ¬ (i + n ≤ (b.length : Int)) → ¬ fits b i n := fun n h g => h g.1
  have l5 : Ev (fun k => whetstoneref03_One.l0 k b i 5) (-1, 0) := stop 5 (by omega) (by omega) (by omega)
  have l4 : Ev (fun k => whetstoneref03_One.l0 k b i 4) (if fits b i 4 then (gs b i 4, 4) else (-1, 0)) := by
    by_cases hin : i + 4 ≤ (b.length : Int)
    · refine start 4 _ (by omega) (by omega) hin (Ev.step (fun k => whetstoneref03_One.j2.eq_2 _ _ _ _ _) (ev_neg (by omega) (Ev.step (fun k => whetstoneref03_One.j3.eq_2 _ _ _ _ _) (ev_pos rfl (Ev.step (fun k => whetstoneref03_One.j4.eq_2 _ _ _ _ _) ?_)))))
      rw [if_neg (by omega), wr (n := rd b i - 240) (by omega) (by omega)]
      refine turn 4 _ 1 _ (by omega) (by omega) (by omega) hin (by omega) (by omega) (turn 4 _ 2 _ (by omega) (by omega) (by omega) hin (by omega) (by omega) (turn 4 _ 3 _ (by omega) (by omega) (by omega) hin (by omega) (by omega) ?_))
      exact tail 4 _ _ (by omega) (by omega) hin rfl (fun h => by rw [if_pos h]; rfl) (fun h => by rw [if_neg h]; exact l5)
    · rw [if_neg (nofit 4 hin)]; exact stop 4 (by omega) (by omega) (fun h => hin h.2)
  have l3 : Ev (fun k => whetstoneref03_One.l0 k b i 3) (if fits b i 3 then (gs b i 3, 3) else if fits b i 4 then (gs b i 4, 4) else (-1, 0)) := by
    by_cases hin : i + 3 ≤ (b.length : Int)
    · refine start 3 _ (by omega) (by omega) hin (Ev.step (fun k => whetstoneref03_One.j2.eq_2 _ _ _ _ _) (ev_pos rfl (Ev.step (fun k => whetstoneref03_One.j3.eq_2 _ _ _ _ _) (ev_neg (by omega) (Ev.step (fun k => whetstoneref03_One.j4.eq_2 _ _ _ _ _) ?_)))))
      rw [if_neg (by omega), wr (n := rd b i - 224) (by omega) (by omega)]
      refine turn 3 _ 1 _ (by omega) (by omega) (by omega) hin (by omega) (by omega) (turn 3 _ 2 _ (by omega) (by omega) (by omega) hin (by omega) (by omega) ?_)
      exact tail 3 _ _ (by omega) (by omega) hin rfl (fun h => by rw [if_pos h]; rfl) (fun h => by rw [if_neg h]; exact l4)
    · rw [if_neg (nofit 3 hin), if_neg (nofit 4 (by omega))]; exact stop 3 (by omega) (by omega) (fun h => hin h.2)
  have l2 : Ev (fun k => whetstoneref03_One.l0 k b i 2) (if fits b i 2 then (gs b i 2, 2) else if fits b i 3 then (gs b i 3, 3) else if fits b i 4 then (gs b i 4, 4) else (-1, 0)) := by
    by_cases hin : i + 2 ≤ (b.length : Int)
    · refine start 2 _ (by omega) (by omega) hin (Ev.step (fun k => whetstoneref03_One.j2.eq_2 _ _ _ _ _) (ev_neg (by omega) (Ev.step (fun k => whetstoneref03_One.j3.eq_2 _ _ _ _ _) (ev_neg (by omega) (Ev.step (fun k => whetstoneref03_One.j4.eq_2 _ _ _ _ _) ?_)))))
      rw [if_pos rfl]
      refine turn 2 _ 1 _ (by omega) (by omega) (by omega) hin (by omega) (by omega) ?_
      exact tail 2 _ _ (by omega) (by omega) hin rfl (fun h => by rw [if_pos h]; rfl) (fun h => by rw [if_neg h]; exact l3)
    · rw [if_neg (nofit 2 hin), if_neg (nofit 3 (by omega)), if_neg (nofit 4 (by omega))]; exact stop 2 (by omega) (by omega) (fun h => hin h.2)
  rw [pick]
  refine start 1 _ (by omega) (by omega) (by omega) (Ev.step (fun k => whetstoneref03_One.j2.eq_2 _ _ _ _ _) (ev_neg (by omega) (Ev.step (fun k => whetstoneref03_One.j3.eq_2 _ _ _ _ _) (ev_neg (by omega) (Ev.step (fun k => whetstoneref03_One.j4.eq_2 _ _ _ _ _) ?_)))))
  rw [if_neg (by omega)]
  exact tail 1 _ _ (by omega) (by omega) (by omega) rfl (fun h => by rw [if_pos h]; rfl) (fun h => by rw [if_neg h]; exact l2)
end UtfOne

/-! ### utf: all letters -/
section UtfAll
theorem lt_size {b : List Int} (i : Int) : (lt b i).2 = 0 ∨ (1 ≤ (lt b i).2 ∧ (lt b i).2 ≤ 4) := by
  unfold lt
  split
  · right; dsimp only; omega
  split
  · right; dsimp only; omega
  split
  · split
    · right; dsimp only; omega
    · left; rfl
  split
  · split
    · right; dsimp only; omega
    · left; rfl
  · left; rfl
theorem lt_in {b : List Int} {i : Int} (hl : i < (b.length : Int)) : i + (lt b i).2 ≤ (b.length : Int) := by
  unfold lt
  split
  · dsimp only; omega
  split
  · rename_i h1 h2; have := h2.2.2.1; dsimp only; omega
  split
  · rename_i h1 h2 h3; have := h3.2.2.2.1
    split
    · dsimp only; omega
    · dsimp only; omega
  split
  · rename_i h1 h2 h3 h4; have := h4.2.2.2.2.1
    split
    · dsimp only; omega
    · dsimp only; omega
  · dsimp only; omega
theorem lt_pos {b : List Int} (hb : By b) (i : Int) : 0 ≤ (lt b i).1 := by
  have h0 := hb.place i
  unfold lt
  split
  · exact h0.1
  split
  · rename_i h1 h2; have g := h2.2.2; unfold goesOn at g; dsimp only; unfold r2; omega
  split
  · split
    · rename_i h1 h2 h3 h4; dsimp only; omega
    · exact Int.le_refl _
  split
  · split
    · rename_i h1 h2 h3 h4 h5; dsimp only; omega
    · exact Int.le_refl _
  · exact Int.le_refl _
/-- How many bytes are gone on, and the letter (-1: none). -/
def sz (b : List Int) (i : Int) : Int := if (lt b i).2 = 0 then 1 else (lt b i).2
def lv (b : List Int) (i : Int) : Int := if (lt b i).2 = 0 then -1 else (lt b i).1
theorem sz_bd (b : List Int) (i : Int) : 1 ≤ sz b i ∧ sz b i ≤ 4 := by
  unfold sz
  rcases lt_size (b := b) i with h | h
  · rw [if_pos h]; omega
  · rw [if_neg (by omega)]; exact h
theorem sz_in {b : List Int} {i : Int} (hl : i < (b.length : Int)) : i + sz b i ≤ (b.length : Int) := by
  have := lt_in hl
  unfold sz
  split
  · omega
  · exact this
/-- All letters from a byte on. -/
def ls : Nat → List Int → Int → List (Int × Int)
  | 0, _, _ => []
  | n + 1, b, i => if i < (b.length : Int) then (i, lv b i) :: ls n b (i + sz b i) else []
theorem letters_ev {b : List Int} (hb : By b) (hn : b.length ≤ 1000000) : ∀ (n : Nat) (i : Int), 0 ≤ i → (b.length : Int) ≤ i + n → Ev (fun k => utf_Letters.l k b i) (ls n b i)
  | 0, i, h0, h1 => Ev.step (fun k => utf_Letters.l.eq_2 _ _ _) (ev_neg (by omega) (ev_ret rfl))
  | n + 1, i, h0, h1 => by
    refine Ev.step (fun k => utf_Letters.l.eq_2 _ _ _) (ev_ite (fun hl => ?_) (fun hl => ev_ret (by unfold ls; rw [if_neg hl])))
    have hs := lt_size (b := b) i
    have hz := sz_bd b i
    have hi := sz_in hl
    have w : wrap64 (i + (if (lt b i).2 = 0 then 1 else (lt b i).2)) = i + sz b i := wr (n := i + sz b i) (by omega) (by omega)
    refine Ev.bind (letter_ev hb h0 hl hn) (ev_pos (by omega) ?_)
    rw [w]
    refine Ev.bind (letters_ev hb hn n (i + sz b i) (by omega) (by omega)) (ev_ret ?_)
    conv => rhs; unfold ls
    rw [if_pos hl]; rfl
def tt (b : List Int) (x : Int × Int) : S38 := ⟨x.1, x.2, sz b x.1⟩
theorem rletters_ev {b : List Int} (hb : By b) (hn : b.length ≤ 1000000) : ∀ (n : Nat) (i : Int) (acc : List S38), 0 ≤ i → (b.length : Int) ≤ i + n → acc.length + n ≤ 2000000 → Ev (fun k => whetstoneref03_Letters.l0 k b acc i) (acc ++ (ls n b i).map (tt b))
  | 0, i, acc, h0, h1, _ => Ev.step (fun k => whetstoneref03_Letters.l0.eq_2 _ _ _ _) (ev_neg (by omega) (ev_ret (by simp [ls])))
  | n + 1, i, acc, h0, h1, h2 => by
    refine Ev.step (fun k => whetstoneref03_Letters.l0.eq_2 _ _ _ _) (ev_ite (fun hl => ?_) (fun hl => ev_ret (by unfold ls; rw [if_neg hl]; simp)))
    have hs := lt_size (b := b) i
    have hz := sz_bd b i
    have hi := sz_in hl
    have ih := rletters_ev hb hn n (i + sz b i) (acc ++ [tt b (i, lv b i)]) (by omega) (by omega) (by rw [List.length_append]; simp; omega)
    have e : acc ++ (ls (n + 1) b i).map (tt b) = (acc ++ [tt b (i, lv b i)]) ++ (ls n b (i + sz b i)).map (tt b) := by
      rw [ls, if_pos hl]; simp
    rw [e]
    refine Ev.bind (one_ev hb h0 hl hn) ?_
    by_cases c : (lt b i).2 = 0
    · have e1 : on b i = (-1, 0) := by unfold on; rw [if_pos c]
      have e2 : sz b i = 1 := by unfold sz; rw [if_pos c]
      have e3 : lv b i = -1 := by unfold lv; rw [if_pos c]
      have e4 : tt b (i, lv b i) = (⟨i, (-1), 1⟩ : S38) := by unfold tt; dsimp only; rw [e2, e3]
      rw [e4, e2] at ih
      rw [e1, e4, e2]
      rw [wr (n := i + 1) (by omega) (by omega)]
      exact ev_pos rfl (ev_pos (by omega) ih)
    · have e1 : on b i = lt b i := by unfold on; rw [if_neg c]
      have e2 : sz b i = (lt b i).2 := by unfold sz; rw [if_neg c]
      have e3 : lv b i = (lt b i).1 := by unfold lv; rw [if_neg c]
      have e4 : tt b (i, lv b i) = (⟨i, (lt b i).1, (lt b i).2⟩ : S38) := by unfold tt; dsimp only; rw [e2, e3]
      rw [e4, e2] at ih
      rw [e1, e4, e2]
      rw [wr (n := i + (lt b i).2) (by omega) (by omega)]
      exact ev_neg c (ev_pos (by omega) ih)
theorem rletters {b : List Int} (hb : By b) (hn : b.length ≤ 1000000) : Ev (fun k => whetstoneref03_Letters.f k b) ((ls b.length b 0).map (tt b)) := rletters_ev hb hn b.length 0 [] (by omega) (by omega) (by simp; omega)
/-- The first byte with which no letter begins. -/
def fb : List (Int × Int) → Int × Int
  | [] => (0, 0)
  | x :: t => if x.2 < 0 then (x.1, 10) else fb t
theorem valid_l0 {b : List Int} (hb : By b) (hn : b.length ≤ 1000000) : ∀ (n : Nat) (i : Int), 0 ≤ i → (b.length : Int) ≤ i + n → Ev (fun k => utf_Valid.l0 k b i) (fb (ls n b i))
  | 0, i, h0, h1 => Ev.step (fun k => utf_Valid.l0.eq_2 _ _ _) (ev_neg (by omega) (ev_ret rfl))
  | n + 1, i, h0, h1 => by
    refine Ev.step (fun k => utf_Valid.l0.eq_2 _ _ _) (ev_ite (fun hl => ?_) (fun hl => ev_ret (by unfold ls; rw [if_neg hl]; rfl)))
    have hs := lt_size (b := b) i
    have hz := sz_bd b i
    have hi := sz_in hl
    refine Ev.bind (letter_ev hb h0 hl hn) ?_
    rw [ls, if_pos hl]
    refine ev_ite (fun c => ev_ret ?_) (fun c => ?_)
    · unfold fb lv; rw [if_pos c]; rfl
    · have e2 : sz b i = (lt b i).2 := by unfold sz; rw [if_neg c]
      have e3 : lv b i = (lt b i).1 := by unfold lv; rw [if_neg c]
      have hp := lt_pos hb i
      rw [fb, if_neg (by rw [e3]; dsimp only; omega), e2, wr (n := i + (lt b i).2) (by omega) (by omega)]
      rw [← e2]
      exact valid_l0 hb hn n _ (by omega) (by omega)
theorem valid_ev {b : List Int} (hb : By b) (hn : b.length ≤ 1000000) : Ev (fun k => utf_Valid.f k b) (fb (ls b.length b 0)) := valid_l0 hb hn b.length 0 (by omega) (by omega)
theorem units_ev {b : List Int} (hb : By b) (hn : b.length ≤ 1000000) : Ev (fun k => utf_Units.f k b) (utf_Units.fold (ls b.length b 0)) :=
  ev_pos (by omega) (Ev.bind (letters_ev hb hn b.length 0 (by omega) (by omega)) (ev_ret rfl))
theorem ls_len : ∀ (n : Nat) (b : List Int) (i : Int), (ls n b i).length ≤ n
  | 0, _, _ => Nat.le_refl _
  | n + 1, b, i => by
    rw [ls]; split
    · rw [List.length_cons]; exact Nat.succ_le_succ (ls_len n b _)
    · simp
theorem rd38 (pre : List S38) (x : S38) (rest : List S38) : rd_T38 (pre ++ x :: rest) (pre.length : Int) = x := by
  unfold rd_T38; simp
end UtfAll

theorem lt_up {b : List Int} (hb : By b) (i : Int) : (lt b i).1 ≤ 100000000 := by
  have h0 := hb.place i
  have h1 := hb.place (i + 1)
  have h2 := hb.place (i + 2)
  have h3 := hb.place (i + 3)
  unfold lt r2 r3 r4
  split
  · dsimp only; omega
  · split
    · dsimp only; omega
    · split
      · split <;> (dsimp only; omega)
      · split
        · split <;> (dsimp only; omega)
        · dsimp only; omega
theorem ls_nm {b : List Int} (hb : By b) : ∀ (n : Nat) (i : Int), (ls n b i).map whetstonelaw03_UtfLetters.nm = ls n b i
  | 0, _ => rfl
  | n + 1, i => by
    rw [ls]; split
    · rw [List.map_cons, ls_nm hb n]
      have h0 := lt_pos hb i
      have h1 := lt_up hb i
      have e : whetstonelaw03_UtfLetters.nm (i, lv b i) = (i, lv b i) := by
        unfold whetstonelaw03_UtfLetters.nm lv
        split
        · rw [wr (n := -1) (by omega) (by omega)]
        · rw [wr (n := (lt b i).1) (by omega) (by omega)]
      rw [e]
    · rfl
/-- whatever the bytes are, the law's call is true: the reference's letters are those that the iterator hands on, in both rounds. -/
theorem UtfLetters : whetstonelaw03_UtfLetters.Pure := by
  intro b s _ _ hw _
  have e1 : IntKind.u8.min = 0 := rfl
  have e2 : IntKind.u8.max = 255 := rfl
  have hb : By b := fun x hx => by
    have := hw x hx
    simp [Lit.wf, e1, e2] at this; omega
  refine Ev.rounds (Ev.bind lettered_ev (ev_pos rfl (ev_ite (fun h => ev_ret rfl) (fun h => ?_))))
  have hn : b.length ≤ 1000000 := by omega
  refine Ev.bind (rletters hb hn) (Ev.bind (letters_ev hb hn b.length 0 (by omega) (by omega)) (ev_pos ⟨?_, ls_nm hb _ _, ?_⟩ (ev_ret rfl)))
  · rw [List.map_map]; exact (List.map_congr_left (fun x _ => rfl)).trans (List.map_id _)
  · have := ls_len b.length b 0; rw [List.length_map]; omega

end Go.Proofs.Ytpphijljdoojdaa.Pure
