/-
The plain law of UtfEncodes: whatever the number is, the law's call is true: both writers write the same bytes, or both refuse. No further condition.
-/
import Derived.Test.YtpphijljdoojdaaQUtfEncodesx5
set_option maxRecDepth 100000
set_option linter.unusedVariables false
set_option linter.unusedSimpArgs false
namespace Go.Proofs.Ytpphijljdoojdaa.Pure
open Go.RowKit Go.Proofs.Ytpphijljdoojdaa.QUtfEncodes Go.Proofs.YtpphijljdoojdaaW.PrintWords Go.Proofs.YtpphijljdoojdaaW.PrintLast

/-! ### plain lemmas: rounds -/
section Base
variable {α β : Type}
theorem ev_pos {c : Prop} [Decidable c] {g f : Nat → Option α} {r : α} (hc : c) (h : Ev g r) : Ev (fun k => if c then g k else f k) r := by
  simpa only [if_pos hc] using h
theorem ev_neg {c : Prop} [Decidable c] {g f : Nat → Option α} {r : α} (hc : ¬ c) (h : Ev f r) : Ev (fun k => if c then g k else f k) r := by
  simpa only [if_neg hc] using h
theorem ev_ite {c : Prop} [Decidable c] {g f : Nat → Option α} {r : α} (h1 : c → Ev g r) (h2 : ¬ c → Ev f r) : Ev (fun k => if c then g k else f k) r := by
  by_cases hc : c
  · exact ev_pos hc (h1 hc)
  · exact ev_neg hc (h2 hc)
theorem ev_bind {g : Nat → Option α} {f : Nat → α → Option β} {a : α} {r : β} (h : Ev g a) (k : Ev (fun n => f n a) r) : Ev (fun n => (g n).bind (f n)) r := Ev.bind h k
theorem ev_some {o : Option α} {f : Nat → α → Option β} {a : α} {r : β} (h : o = some a) (k : Ev (fun n => f n a) r) : Ev (fun n => o.bind (f n)) r := by
  subst h; exact k
theorem ev_ret {a r : α} (h : a = r) : Ev (fun _ => some a) r := h ▸ Ev.now a
theorem ev_cast {g : Nat → Option α} {a r : α} (h : Ev g a) (e : a = r) : Ev g r := e ▸ h
theorem ev_ex {g : Nat → Option α} {r : α} (h : Ev g r) : ∃ k, g k = some r := h.rounds
theorem wr {n : Int} (h : -9223372036854775808 ≤ n) (h' : n ≤ 9223372036854775807) : wrap64 n = n := by unfold wrap64; omega
theorem drc {b : List α} {i : Nat} {c : α} {t : List α} (h : b.drop i = c :: t) : i < b.length ∧ b.drop (i + 1) = t ∧ b[i]? = some c := by
  have h1 : i < b.length := by
    rcases Nat.lt_or_ge i b.length with h1 | h1
    · exact h1
    · rw [List.drop_eq_nil_of_le h1] at h; cases h
  rw [List.drop_eq_getElem_cons h1] at h
  injection h with h2 h3
  exact ⟨h1, h3, by rw [List.getElem?_eq_getElem h1, h2]⟩
theorem drn {b : List α} {i : Nat} (h : b.drop i = []) : b.length ≤ i := by
  rcases Nat.lt_or_ge i b.length with h1 | h1
  · rw [List.drop_eq_getElem_cons h1] at h; cases h
  · exact h1
theorem rd_at {b : List Int} {i : Nat} {c : Int} (h : b[i]? = some c) : rd b (i : Int) = c := by
  unfold rd; rw [Int.toNat_natCast, List.getD_eq_getElem?_getD, h]; rfl
end Base

/-! ### utf: a letter's bytes -/
section UtfEnc
theorem or8 {c y : Int} (n : Nat) (hc : 0 ≤ c ∧ c % 2 ^ n = 0) (hy : 0 ≤ y ∧ y < 2 ^ n) (hs : c + 2 ^ n ≤ 256) : Go.bits .or .u8 c y = c + y := by
  have hb : ∀ v : BitVec 8, IntKind.u8.wrap (v.toNat : Int) = v.toNat := fun v => by rw [IntKind.wrap_u8]; have := v.isLt; omega
  have e : Go.bits .or .u8 c y = ((BitVec.ofInt 8 c ||| BitVec.ofInt 8 y).toNat : Int) := hb _
  rw [e, BitVec.toNat_or]
  have hp : (2 : Int) ^ n = ((2 ^ n : Nat) : Int) := by simp
  have hpos : 0 < 2 ^ n := Nat.two_pow_pos n
  have h1 : (BitVec.ofInt 8 y).toNat = y.toNat := by rw [BitVec.toNat_ofInt]; omega
  have h2 : (BitVec.ofInt 8 c).toNat = 2 ^ n * (c / 2 ^ n).toNat := by
    have e1 := Int.emod_add_mul_ediv c (2 ^ n)
    rw [hc.2, Int.zero_add, hp] at e1
    have h0 : 0 ≤ c / ((2 ^ n : Nat) : Int) := Int.ediv_nonneg hc.1 (by omega)
    have e2 : (((2 ^ n * (c / ((2 ^ n : Nat) : Int)).toNat : Nat)) : Int) = c := by
      rw [Int.natCast_mul, Int.toNat_of_nonneg h0]; exact e1
    rw [hp, BitVec.toNat_ofInt]; omega
  have h5 := Nat.two_pow_add_eq_or_of_lt (i := n) (b := y.toNat) (by rw [hp] at hy; omega) (c / 2 ^ n).toNat
  rw [h1, h2, ← h5, ← h2, BitVec.toNat_ofInt]
  omega
theorem and63 {x : Int} (h0 : 0 ≤ x) (h1 : x < 2147483648) : Go.bits .and .i32 x 63 = x % 64 := by
  have e : Go.bits .and .i32 x 63 = IntKind.i32.wrap ((BitVec.ofInt 32 x &&& BitVec.ofInt 32 63).toNat : Int) := rfl
  have h2 : (BitVec.ofInt 32 63).toNat = 2 ^ 6 - 1 := by decide
  have h3 : (BitVec.ofInt 32 x).toNat = x.toNat := by rw [BitVec.toNat_ofInt]; omega
  rw [e, BitVec.toNat_and, h2, h3, Nat.and_two_pow_sub_one_eq_mod, IntKind.wrap_i32]
  omega
theorem enc_j0 (k : Nat) {r : Int} (h0 : 0 ≤ r) (h1 : r ≤ 1114111) (b : Bool) : utf_Encode.j0 k r b = whetstoneref03_Encode.j0 k r b := by
  cases k with
  | zero => rfl
  | succ k =>
    rw [utf_Encode.j0.eq_2, whetstoneref03_Encode.j0.eq_2]
    have td : ∀ y : Int, Int.tdiv r y = r / y := fun y => Int.tdiv_eq_ediv_of_nonneg h0
    have w1 : wrap64 (r / 64) = r / 64 := wr (by omega) (by omega)
    have w2 : wrap64 (r / 4096) = r / 4096 := wr (by omega) (by omega)
    have w3 : wrap64 (r / 262144) = r / 262144 := wr (by omega) (by omega)
    have m1 : Int.tmod r 64 = r % 64 := Int.tmod_eq_emod_of_nonneg h0
    have m2 : Int.tmod (r / 64) 64 = r / 64 % 64 := Int.tmod_eq_emod_of_nonneg (by omega)
    have m3 : Int.tmod (r / 4096) 64 = r / 4096 % 64 := Int.tmod_eq_emod_of_nonneg (by omega)
    simp only [td, w1, w2, w3, m1, m2, m3]
    have a1 : Go.bits .and .i32 r 63 = r % 64 := and63 h0 (by omega)
    have a2 : Go.bits .and .i32 (r / 64) 63 = r / 64 % 64 := and63 (by omega) (by omega)
    have a3 : Go.bits .and .i32 (r / 4096) 63 = r / 4096 % 64 := and63 (by omega) (by omega)
    simp only [a1, a2, a3]
    have o1 : ∀ y : Int, 0 ≤ y → y < 64 → Go.bits .or .u8 128 (y % 256) = (wrap64 (128 + y)) % 256 := fun y g0 g1 => by
      rw [or8 6 (by decide) (by constructor <;> omega) (by decide), wr (by omega) (by omega)]; omega
    rw [o1 (r % 64) (by omega) (by omega), o1 (r / 64 % 64) (by omega) (by omega), o1 (r / 4096 % 64) (by omega) (by omega)]
    by_cases hb : b = true
    · rw [if_pos hb, if_pos hb]
    · rw [if_neg hb, if_neg hb]
      by_cases c1 : r < 128
      · rw [if_pos c1, if_pos c1]
      · rw [if_neg c1, if_neg c1]
        by_cases c2 : r < 2048
        · rw [if_pos c2, if_pos c2]
          have : Go.bits .or .u8 192 (r / 64 % 256) = (wrap64 (192 + r / 64)) % 256 := by
            rw [or8 6 (by decide) (by constructor <;> omega) (by decide), wr (by omega) (by omega)]; omega
          rw [this]
        · rw [if_neg c2, if_neg c2]
          by_cases c3 : r < 65536
          · rw [if_pos c3, if_pos c3]
            have : Go.bits .or .u8 224 (r / 4096 % 256) = (wrap64 (224 + r / 4096)) % 256 := by
              rw [or8 5 (by decide) (by constructor <;> omega) (by decide), wr (by omega) (by omega)]; omega
            rw [this]
          · rw [if_neg c3, if_neg c3]
            have : Go.bits .or .u8 240 (r / 262144 % 256) = (wrap64 (240 + r / 262144)) % 256 := by
              rw [or8 4 (by decide) (by constructor <;> omega) (by decide), wr (by omega) (by omega)]; omega
            rw [this]
theorem enc_bad (k : Nat) (r r' : Int) : utf_Encode.j0 k r true = whetstoneref03_Encode.j0 k r' true := by
  cases k with
  | zero => rfl
  | succ k => rw [utf_Encode.j0.eq_2, whetstoneref03_Encode.j0.eq_2, if_pos rfl, if_pos rfl]
theorem enc_eq (k : Nat) (r : Int) : utf_Encode.f k r = whetstoneref03_Encode.f k r := by
  unfold utf_Encode.f whetstoneref03_Encode.f
  by_cases h0 : r < 0
  · rw [if_pos h0, if_pos h0]; exact enc_bad _ _ _
  · rw [if_neg h0, if_neg h0]
    by_cases h1 : r > 1114111
    · rw [if_pos h1, if_pos h1]; exact enc_bad _ _ _
    · rw [if_neg h1, if_neg h1, enc_j0 k (by omega) (by omega), enc_j0 k (by omega) (by omega)]
theorem enc_ev (r : Int) : Ev (fun k => utf_Encode.f k r) ((utf_Encode.f 1 r).getD ([], 0)) := Ev.of (utf_Encode.mono r) (utf_Encode.one r)
end UtfEnc
theorem lettered_ev : Ev (fun k => whetstonelaw03_lettered.f k) true := Ev.of (k := 60) whetstonelaw03_lettered.mono (by decide +kernel)

/-- whatever the number is, the law's call is true: both writers write the same bytes, or both refuse. -/
theorem UtfEncodes : whetstonelaw03_UtfEncodes.Pure := by
  intro r hr
  have e1 : IntKind.i32.min = -2147483648 := rfl
  have e2 : IntKind.i32.max = 2147483647 := rfl
  simp [Lit.wf, e1, e2] at hr
  have hw : wrap64 r = r := wr (by omega) (by omega)
  have h1 := enc_ev r
  have h2 : Ev (fun k => whetstoneref03_Encode.f k (wrap64 r)) ((utf_Encode.f 1 r).getD ([], 0)) := by
    rw [hw]; exact Ev.congr (fun k => (enc_eq k r).symm) h1
  exact Ev.rounds (Ev.bind h1 (Ev.bind h2 (Ev.bind lettered_ev (ev_pos rfl (ev_pos rfl (ev_ret (by simp)))))))

end Go.Proofs.Ytpphijljdoojdaa.Pure
