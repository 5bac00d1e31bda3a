/-
The walk over the program's texts, told with what its values say: a part of it. No further condition.
-/
import Derived.Test.YtmjbnfldehbmcaaDoorAbDF
import Derived.Lib.ItoaNum
namespace Go.Proofs.YtmjbnfldehbmcaaDoor
open Go.Proofs.YtmjbnfldehbmcaaDoor.Ab
set_option linter.unusedVariables false
open Lib (decDigits)
/-! What is written is read. -/
theorem feed_line : ∀ (L : List UInt8) (r : R), (∀ c ∈ L, c ≠ 10) → r.st = 0 → r.size + L.length ≤ 4096 → feedS r L = ({ r with size := r.size + L.length, line := r.line ++ L }, [])
  | [], r, _, _, _ => by simp [feedS]
  | c :: L, r, hL, hs, hn => by
    have hc : c ≠ 10 := hL c (by simp)
    have hn' : r.size + 1 + (L.length : Int) ≤ 4096 := by simp only [List.length_cons] at hn; omega
    have e : stepS r c = ({ r with size := r.size + 1, line := r.line ++ [c] }, []) := by
      unfold stepS headerS
      rw [if_pos hs, if_neg (by omega), if_pos hc]
    have ih := feed_line L { r with size := r.size + 1, line := r.line ++ [c] } (fun d hd => hL d (by simp [hd])) hs hn'
    simp only [feedS, e, ih]
    simp
    omega
theorem feed_field {L : List UInt8} {r : R} (hne : L ≠ []) (hL : ∀ c ∈ L, c ≠ 10) (hs : r.st = 0) (hl : r.line = []) (hn : r.size + L.length + 2 ≤ 4096) :
    feedS r (L ++ [13, 10]) = match fieldS { r with size := r.size + L.length + 2, line := [] } L with
      | none => brk { r with size := r.size + L.length + 2, line := [] }
      | some r' => (r', []) := by
  have h0 : 0 < L.length := List.length_pos_iff.2 hne
  rw [feedS_app, feed_line L r hL hs (by omega)]
  have e : stepS { r with size := r.size + L.length, line := r.line ++ L } 13 = ({ r with size := r.size + L.length + 1, line := L ++ [13] }, []) := by
    unfold stepS headerS
    simp only
    rw [if_pos hs, if_neg (by omega), if_pos (by decide), hl]; rfl
  have hlen : (L ++ [13]).length = L.length + 1 := by simp
  have e2 : stepS { r with size := r.size + L.length + 1, line := L ++ [13] } 10 = match fieldS { r with size := r.size + L.length + 2, line := [] } L with
      | none => brk { r with size := r.size + L.length + 2, line := [] }
      | some r' => (r', []) := by
    unfold stepS headerS
    simp only
    rw [if_pos hs, if_neg (by omega), if_neg (by decide), hlen, Nat.add_sub_cancel]
    have h13 : (L ++ [13] ++ [10])[L.length]? = some 13 := by simp
    rw [if_neg (by rw [h13]; simp), if_neg (by omega)]
    have ht : (L ++ [13] ++ [10]).take L.length = L := by simp
    rw [ht, show r.size + (L.length : Int) + 1 + 1 = r.size + L.length + 2 by omega]
    cases fieldS { r with size := r.size + L.length + 2, line := [] } L <;> rfl
  simp only [feedS, e, e2]
  cases fieldS { r with size := r.size + L.length + 2, line := [] } L <;> simp [brk]
theorem feed_end {r : R} (hs : r.st = 0) (hl : r.line = []) (hn : r.size + 2 ≤ 4096) : feedS r [13, 10] = beginS { r with size := r.size + 2, line := [] } := by
  have e : stepS r 13 = ({ r with size := r.size + 1, line := [13] }, []) := by
    unfold stepS headerS
    rw [if_pos hs, if_neg (by omega), if_pos (by decide), hl]; rfl
  have e2 : stepS { r with size := r.size + 1, line := [13] } 10 = beginS { r with size := r.size + 2, line := [] } := by
    unfold stepS headerS
    simp only
    rw [if_pos hs, if_neg (by omega), if_neg (by decide), if_neg (by simp), if_pos (by rfl)]
    rfl
  simp [feedS, e, e2]
theorem dig_digits : ∀ (u : Nat), ∀ c ∈ decDigits u, 48 ≤ c.toNat ∧ c.toNat ≤ 57 := by
  intro u
  induction u using Nat.strongRecOn with
  | ind u ih =>
    intro c hc
    rw [decDigits] at hc
    split at hc
    · simp at hc; subst hc; simp; omega
    · rename_i h
      rcases List.mem_append.1 hc with hc | hc
      · exact ih (u / 10) (by omega) c hc
      · simp at hc; subst hc; simp; omega
theorem digs_app : ∀ (s t : List UInt8) (m : Int), digs (s ++ t) m = (digs s m).bind (digs t)
  | [], t, m => rfl
  | c :: s, t, m => by
    simp only [List.cons_append, digs]
    split
    · rfl
    · exact digs_app s t _
theorem digs_dec : ∀ (u : Nat), digs (decDigits u) 0 = some (u : Int) := by
  intro u
  induction u using Nat.strongRecOn with
  | ind u ih =>
    rw [decDigits]
    split
    · rename_i h
      have : (UInt8.ofNat (48 + u)).toNat = 48 + u := by simp; omega
      simp only [digs, this]
      rw [if_neg (by omega)]
      simp
      omega
    · rename_i h
      rw [digs_app, ih (u / 10) (by omega), Option.bind_some]
      have : (UInt8.ofNat (48 + u % 10)).toNat = 48 + u % 10 := by simp; omega
      simp only [digs, this]
      rw [if_neg (by omega)]
      simp
      omega
theorem dec_len : ∀ (k u : Nat), u < 10 ^ (k + 1) → (decDigits u).length ≤ k + 1
  | 0, u, h => by rw [decDigits, dif_pos (by omega)]; simp
  | k + 1, u, h => by
    rw [decDigits]
    split
    · simp
    · rw [Nat.pow_succ] at h
      have := dec_len k (u / 10) (by omega)
      simp; omega
theorem dec_pos (u : Nat) : 0 < (decDigits u).length := by
  rw [decDigits]; split <;> simp
theorem sp_digit {c : UInt8} (h : 48 ≤ c.toNat) : sp c = false := by
  cases hs : sp c with
  | false => rfl
  | true => rw [sp_iff] at hs; omega
theorem trim_digits (u : Nat) : trimR (trimL (32 :: decDigits u)) = decDigits u := by
  have h1 : trimL (32 :: decDigits u) = decDigits u := by
    rw [trimL_cons, if_pos (by decide)]
    cases hd : decDigits u with
    | nil => rfl
    | cons c t =>
      rw [trimL_cons, if_neg]
      rw [sp_digit (dig_digits u c (by rw [hd]; simp)).1]; simp
  rw [h1]
  have hcat : decDigits u = [] ∨ ∃ t c, decDigits u = t ++ [c] := by
    rcases List.eq_nil_or_concat (decDigits u) with h | ⟨t, c, h⟩
    · exact .inl h
    · exact .inr ⟨t, c, by simpa using h⟩
  rcases hcat with h | ⟨t, c, h⟩
  · rw [h]; rfl
  · rw [h, trimR_app, if_neg]
    rw [sp_digit (dig_digits u c (by rw [h]; simp)).1]; simp
theorem num_digits {u : Nat} (hu : u < 10 ^ 10) : numS (32 :: decDigits u) = some (u : Int) := by
  unfold numS
  rw [trim_digits, if_neg, digs_dec]
  have := dec_len 9 u hu
  have := dec_pos u
  omega
def hdr (u : Nat) : List UInt8 := [67, 111, 110, 116, 101, 110, 116, 45, 76, 101, 110, 103, 116, 104, 58, 32] ++ decDigits u
theorem field_hdr {u : Nat} (hu : u < 10 ^ 10) {r : R} (hr : r.length < 0) : fieldS r (hdr u) = some { r with length := u } := by
  have h1 : cutS (hdr u) = some 14 := by simp [cutS, hdr, List.findIdx?_cons]
  have h2 : (hdr u).take 14 = [67, 111, 110, 116, 101, 110, 116, 45, 76, 101, 110, 103, 116, 104] := by simp [hdr]
  have h3 : (hdr u).drop 15 = 32 :: decDigits u := by simp [hdr]
  have h4 : isLen [67, 111, 110, 116, 101, 110, 116, 45, 76, 101, 110, 103, 116, 104] = true := by decide
  unfold fieldS
  rw [h1]
  simp only [h2, h3, h4, num_digits hu]
  simp
  omega
theorem hdr_no10 (u : Nat) : ∀ c ∈ hdr u, c ≠ 10 := fun c hc => by
  rcases List.mem_append.1 hc with hc | hc
  · exact (by decide : ∀ c ∈ ([67, 111, 110, 116, 101, 110, 116, 45, 76, 101, 110, 103, 116, 104, 58, 32] : List UInt8), c ≠ 10) c hc
  · have := (dig_digits u c hc).1
    rintro rfl
    simp at this
theorem hdr_fed {u : Nat} (hu : u < 10 ^ 10) : feedS r0 (hdr u ++ [13, 10] ++ [13, 10]) = beginS { r0 with size := (hdr u).length + 4, length := u } := by
  have hl : (hdr u).length ≤ 26 := by have := dec_len 9 u hu; simp [hdr]; omega
  rw [feedS_app, feed_field (L := hdr u) (r := r0) (by simp [hdr]) (hdr_no10 u) rfl rfl (by simp [r0]; omega), field_hdr hu (by simp [r0])]
  simp only
  rw [feed_end rfl rfl (by simp [r0]; omega)]
  simp [r0]
  rw [show ((hdr u).length : Int) + 2 + 2 = (hdr u).length + 4 by omega]
theorem written_fed (b : List UInt8) (hb : b.length ≤ 16777216) : feedS r0 (hdr b.length ++ [13, 10] ++ [13, 10] ++ b) = (r0, [(1, b)]) := by
  rw [feedS_app, hdr_fed (by omega)]
  unfold beginS
  rw [if_neg (by simp only; omega), if_neg (by simp only; omega)]
  by_cases h0 : b = []
  · subst h0
    rw [if_pos (by simp)]
    simp [feedS, r0]
  · have hpos : 0 < b.length := List.length_pos_iff.2 h0
    rw [if_neg (by simp only; omega)]
    have hg : Good { r0 with size := 0, length := -1, left := (b.length : Int), st := 1 } := ⟨by simp, by simp, by simp, by simp, by simp only; omega, by simp only [r0, List.length_nil]; omega, by simp, by simp [r0]⟩
    have hn : takeN { r0 with size := 0, length := -1, left := (b.length : Int), st := 1 } b = b.length := by unfold takeN; simp
    have tf := take_feed b _ hg (.inl rfl) h0
    rw [hn, List.take_length] at tf
    simp only
    rw [tf]
    unfold takeS
    rw [hn, if_pos (by simp)]
    simp [r0]
end Go.Proofs.YtmjbnfldehbmcaaDoor
