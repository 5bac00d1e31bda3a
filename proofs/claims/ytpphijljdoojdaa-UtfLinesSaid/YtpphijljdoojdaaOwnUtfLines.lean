/-
The plain law of UtfLines: whatever the bytes are, the law's call is true: both go through the bytes and keep the same places. No further condition.
-/
import Derived.Test.YtpphijljdoojdaaQUtfLinesx5
set_option maxRecDepth 100000
set_option linter.unusedVariables false
set_option linter.unusedSimpArgs false
namespace Go.Proofs.Ytpphijljdoojdaa.Pure
open Go.RowKit Go.Proofs.Ytpphijljdoojdaa.QUtfLines Go.Proofs.YtpphijljdoojdaaW.PrintWords Go.Proofs.YtpphijljdoojdaaW.PrintLast

/-! ### plain lemmas: rounds -/
section Base
variable {α β : Type}
theorem ev_pos {c : Prop} [Decidable c] {g f : Nat → Option α} {r : α} (hc : c) (h : Ev g r) : Ev (fun k => if c then g k else f k) r := by
  simpa only [if_pos hc] using h
theorem ev_neg {c : Prop} [Decidable c] {g f : Nat → Option α} {r : α} (hc : ¬ c) (h : Ev f r) : Ev (fun k => if c then g k else f k) r := by
  simpa only [if_neg hc] using h
theorem ev_ite {c : Prop} [Decidable c] {g f : Nat → Option α} {r : α} (h1 : c → Ev g r) (h2 : ¬ c → Ev f r) : Ev (fun k => if c then g k else f k) r := by
  by_cases hc : c
  · exact ev_pos hc (h1 hc)
  · exact ev_neg hc (h2 hc)
theorem ev_bind {g : Nat → Option α} {f : Nat → α → Option β} {a : α} {r : β} (h : Ev g a) (k : Ev (fun n => f n a) r) : Ev (fun n => (g n).bind (f n)) r := Ev.bind h k
theorem ev_some {o : Option α} {f : Nat → α → Option β} {a : α} {r : β} (h : o = some a) (k : Ev (fun n => f n a) r) : Ev (fun n => o.bind (f n)) r := by
  subst h; exact k
theorem ev_ret {a r : α} (h : a = r) : Ev (fun _ => some a) r := h ▸ Ev.now a
theorem ev_cast {g : Nat → Option α} {a r : α} (h : Ev g a) (e : a = r) : Ev g r := e ▸ h
theorem ev_ex {g : Nat → Option α} {r : α} (h : Ev g r) : ∃ k, g k = some r := h.rounds
theorem wr {n : Int} (h : -9223372036854775808 ≤ n) (h' : n ≤ 9223372036854775807) : wrap64 n = n := by unfold wrap64; omega
theorem drc {b : List α} {i : Nat} {c : α} {t : List α} (h : b.drop i = c :: t) : i < b.length ∧ b.drop (i + 1) = t ∧ b[i]? = some c := by
  have h1 : i < b.length := by
    rcases Nat.lt_or_ge i b.length with h1 | h1
    · exact h1
    · rw [List.drop_eq_nil_of_le h1] at h; cases h
  rw [List.drop_eq_getElem_cons h1] at h
  injection h with h2 h3
  exact ⟨h1, h3, by rw [List.getElem?_eq_getElem h1, h2]⟩
theorem drn {b : List α} {i : Nat} (h : b.drop i = []) : b.length ≤ i := by
  rcases Nat.lt_or_ge i b.length with h1 | h1
  · rw [List.drop_eq_getElem_cons h1] at h; cases h
  · exact h1
theorem rd_at {b : List Int} {i : Nat} {c : Int} (h : b[i]? = some c) : rd b (i : Int) = c := by
  unfold rd; rw [Int.toNat_natCast, List.getD_eq_getElem?_getD, h]; rfl
end Base

/-! ### utf: a letter's bytes -/
section UtfEnc
theorem or8 {c y : Int} (n : Nat) (hc : 0 ≤ c ∧ c % 2 ^ n = 0) (hy : 0 ≤ y ∧ y < 2 ^ n) (hs : c + 2 ^ n ≤ 256) : Go.bits .or .u8 c y = c + y := by
  have hb : ∀ v : BitVec 8, IntKind.u8.wrap (v.toNat : Int) = v.toNat := fun v => by rw [IntKind.wrap_u8]; have := v.isLt; omega
  have e : Go.bits .or .u8 c y = ((BitVec.ofInt 8 c ||| BitVec.ofInt 8 y).toNat : Int) := hb _
  rw [e, BitVec.toNat_or]
  have hp : (2 : Int) ^ n = ((2 ^ n : Nat) : Int) := by simp
  have hpos : 0 < 2 ^ n := Nat.two_pow_pos n
  have h1 : (BitVec.ofInt 8 y).toNat = y.toNat := by rw [BitVec.toNat_ofInt]; omega
  have h2 : (BitVec.ofInt 8 c).toNat = 2 ^ n * (c / 2 ^ n).toNat := by
    have e1 := Int.emod_add_mul_ediv c (2 ^ n)
    rw [hc.2, Int.zero_add, hp] at e1
    have h0 : 0 ≤ c / ((2 ^ n : Nat) : Int) := Int.ediv_nonneg hc.1 (by omega)
    have e2 : (((2 ^ n * (c / ((2 ^ n : Nat) : Int)).toNat : Nat)) : Int) = c := by
      rw [Int.natCast_mul, Int.toNat_of_nonneg h0]; exact e1
    rw [hp, BitVec.toNat_ofInt]; omega
  have h5 := Nat.two_pow_add_eq_or_of_lt (i := n) (b := y.toNat) (by rw [hp] at hy; omega) (c / 2 ^ n).toNat
  rw [h1, h2, ← h5, ← h2, BitVec.toNat_ofInt]
  omega
theorem and63 {x : Int} (h0 : 0 ≤ x) (h1 : x < 2147483648) : Go.bits .and .i32 x 63 = x % 64 := by
  have e : Go.bits .and .i32 x 63 = IntKind.i32.wrap ((BitVec.ofInt 32 x &&& BitVec.ofInt 32 63).toNat : Int) := rfl
  have h2 : (BitVec.ofInt 32 63).toNat = 2 ^ 6 - 1 := by decide
  have h3 : (BitVec.ofInt 32 x).toNat = x.toNat := by rw [BitVec.toNat_ofInt]; omega
  rw [e, BitVec.toNat_and, h2, h3, Nat.and_two_pow_sub_one_eq_mod, IntKind.wrap_i32]
  omega
theorem enc_ev (r : Int) : Ev (fun k => utf_Encode.f k r) ((utf_Encode.f 1 r).getD ([], 0)) := Ev.of (utf_Encode.mono r) (utf_Encode.one r)
end UtfEnc
theorem lettered_ev : Ev (fun k => whetstonelaw03_lettered.f k) true := Ev.of (k := 60) whetstonelaw03_lettered.mono (by decide +kernel)

section UtfLines
theorem ints_l0 (a : List Int) (ha : a.length ≤ 1000000) : ∀ m i, i + m = a.length → Ev (fun k => whetstoneref01_Ints.l0 k a a (i : Int)) true
  | 0, i, h => Ev.step (fun k => whetstoneref01_Ints.l0.eq_2 _ _ _ _) (ev_neg (by omega) (ev_ret rfl))
  | m + 1, i, h => by
    refine Ev.step (fun k => whetstoneref01_Ints.l0.eq_2 _ _ _ _) ?_
    rw [show wrap64 ((i : Int) + 1) = ((i + 1 : Nat) : Int) by rw [wr (n := (i : Int) + 1) (by omega) (by omega)]; rfl]
    exact ev_pos (by omega) (ev_pos (by omega) (ev_pos (by omega) (ev_pos rfl (ints_l0 a ha m (i + 1) (by omega)))))
theorem ints_ev {a : List Int} (ha : a.length ≤ 1000000) : Ev (fun k => whetstoneref01_Ints.f k a a) true := ev_pos rfl (ints_l0 a ha a.length 0 (by omega))
theorem lines_same (b : List Int) (hb : b.length ≤ 1000000) : ∀ (k : Nat) (acc : List Int) (i : Int), 0 ≤ i → i ≤ b.length → utf_Lines.l0 k b acc (b.length : Int) i = whetstoneref03_Lines.l0 k b acc (i + 1)
  | 0, _, _, _, _ => rfl
  | k + 1, acc, i, h0, h1 => by
    have ih := lines_same b hb k
    have w1 : wrap64 (i + 1) = i + 1 := wr (by omega) (by omega)
    have w2 : wrap64 (i + 1 - 1) = i := by rw [wr (by omega) (by omega)]; omega
    have w3 : wrap64 (i + 1 + 1) = i + 1 + 1 := wr (by omega) (by omega)
    rw [utf_Lines.l0.eq_2, whetstoneref03_Lines.l0.eq_2]
    simp only [w1, w2, w3]
    by_cases c1 : i < (b.length : Int)
    · rw [if_pos c1, if_pos (show i + 1 ≤ (b.length : Int) by omega), if_pos h0, if_pos h0, if_pos c1, if_pos c1]
      have e1 := ih (acc ++ [i + 1]) (i + 1) (by omega) (by omega)
      have e2 := ih acc (i + 1) (by omega) (by omega)
      rw [e1, e2]
      by_cases c2 : rd b i = 10
      · have c3 : ¬ rd b i = 13 := by omega
        rw [if_pos c2, if_neg c3, if_pos c2]
      · rw [if_neg c2]
        by_cases c3 : rd b i = 13
        · rw [if_pos c3, if_pos c3]
          by_cases c4 : i + 1 = (b.length : Int)
          · rw [if_pos c4, if_pos c4, if_neg c2]
          · rw [if_neg c4, if_neg c4, if_pos (show 0 ≤ i + 1 by omega), if_pos (show 0 ≤ i + 1 by omega), if_pos (show i + 1 < (b.length : Int) by omega), if_pos (show i + 1 < (b.length : Int) by omega), if_neg c2]
        · rw [if_neg c3, if_neg c3, if_neg c2]
    · rw [if_neg c1, if_neg (by omega)]
theorem lines_ev (b : List Int) (hb : b.length ≤ 100000) : ∀ (m i : Nat) (acc : List Int), i + m = b.length → acc.length + m ≤ 500000 → ∃ r, Ev (fun k => utf_Lines.l0 k b acc (b.length : Int) (i : Int)) r ∧ r.length ≤ 500000
  | 0, i, acc, hi, hl => ⟨acc, Ev.step (fun k => utf_Lines.l0.eq_2 _ _ _ _ _) (ev_neg (by omega) (ev_ret rfl)), by omega⟩
  | m + 1, i, acc, hi, hl => by
    have w1 : wrap64 ((i : Int) + 1) = ((i + 1 : Nat) : Int) := by rw [wr (n := (i : Int) + 1) (by omega) (by omega)]; rfl
    obtain ⟨r1, g1, g2⟩ := lines_ev b hb m (i + 1) (acc ++ [((i + 1 : Nat) : Int)]) (by omega) (by simp; omega)
    obtain ⟨r2, g3, g4⟩ := lines_ev b hb m (i + 1) acc (by omega) (by omega)
    have c0 : (i : Int) < (b.length : Int) := by omega
    have go : ∀ {r}, Ev (fun k => if rd b (i : Int) = 10 then (if acc.length < 17592186044416 then utf_Lines.l0 k b (acc ++ [wrap64 ((i : Int) + 1)]) (b.length : Int) (wrap64 ((i : Int) + 1)) else none) else (if rd b (i : Int) = 13 then (if wrap64 ((i : Int) + 1) = (b.length : Int) then (if acc.length < 17592186044416 then utf_Lines.l0 k b (acc ++ [wrap64 ((i : Int) + 1)]) (b.length : Int) (wrap64 ((i : Int) + 1)) else none) else (if 0 ≤ wrap64 ((i : Int) + 1) then (if wrap64 ((i : Int) + 1) < (b.length : Int) then (if rd b (wrap64 ((i : Int) + 1)) = 10 then utf_Lines.l0 k b acc (b.length : Int) (wrap64 ((i : Int) + 1)) else (if acc.length < 17592186044416 then utf_Lines.l0 k b (acc ++ [wrap64 ((i : Int) + 1)]) (b.length : Int) (wrap64 ((i : Int) + 1)) else none)) else none) else none)) else utf_Lines.l0 k b acc (b.length : Int) (wrap64 ((i : Int) + 1)))) r → Ev (fun k => utf_Lines.l0 k b acc (b.length : Int) (i : Int)) r := fun h =>
      Ev.step (fun k => utf_Lines.l0.eq_2 _ _ _ _ _) (ev_pos c0 (ev_pos (by omega) (ev_pos c0 h)))
    rw [w1] at go
    have la : acc.length < 17592186044416 := by omega
    by_cases c1 : rd b (i : Int) = 10
    · exact ⟨r1, go (ev_pos c1 (ev_pos la g1)), g2⟩
    · by_cases c2 : rd b (i : Int) = 13
      · by_cases c3 : ((i + 1 : Nat) : Int) = (b.length : Int)
        · exact ⟨r1, go (ev_neg c1 (ev_pos c2 (ev_pos c3 (ev_pos la g1)))), g2⟩
        · by_cases c4 : rd b ((i + 1 : Nat) : Int) = 10
          · exact ⟨r2, go (ev_neg c1 (ev_pos c2 (ev_neg c3 (ev_pos (by omega) (ev_pos (by omega) (ev_pos c4 g3)))))), g4⟩
          · exact ⟨r1, go (ev_neg c1 (ev_pos c2 (ev_neg c3 (ev_pos (by omega) (ev_pos (by omega) (ev_neg c4 (ev_pos la g1))))))), g2⟩
      · exact ⟨r2, go (ev_neg c1 (ev_neg c2 g3)), g4⟩
end UtfLines
/-- whatever the bytes are, the law's call is true: both go through the bytes and keep the same places. -/
theorem UtfLines : whetstonelaw03_UtfLines.Pure := by
  intro b _ _ _
  refine Ev.rounds (ev_ite (fun h => Ev.bind lettered_ev (ev_pos rfl (ev_ret rfl))) (fun h => Ev.bind lettered_ev (ev_pos rfl ?_)))
  obtain ⟨r, h1, h2⟩ := lines_ev b (by omega) b.length 0 [0] (by omega) (by simp; omega)
  have h3 : Ev (fun k => whetstoneref03_Lines.f k b) r := Ev.congr (fun k => (lines_same b (by omega) k [0] 0 (by omega) (by omega)).symm) h1
  exact Ev.bind (show Ev (fun k => utf_Lines.f k b) r from h1) (Ev.bind h3 (Ev.bind (ints_ev (by omega)) (ev_ret rfl)))

end Go.Proofs.Ytpphijljdoojdaa.Pure
