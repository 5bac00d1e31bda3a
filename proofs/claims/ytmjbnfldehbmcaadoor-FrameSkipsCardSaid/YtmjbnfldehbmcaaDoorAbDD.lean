/-
The walk over the program's texts, told with what its values say: a part of it. No further condition.
-/
import Derived.Test.YtmjbnfldehbmcaaDoorAbDC
namespace Go.Proofs.YtmjbnfldehbmcaaDoor
open Go.Proofs.YtmjbnfldehbmcaaDoor.Ab
set_option linter.unusedVariables false
def stepS (r : R) (c : UInt8) : R × List Msg := if r.st = 0 then headerS r c else if r.st = 1 ∨ r.st = 2 then takeS r [c] else (r, [])
def feedS : R → List UInt8 → R × List Msg
  | r, [] => (r, [])
  | r, c :: s => ((feedS (stepS r c).1 s).1, (stepS r c).2 ++ (feedS (stepS r c).1 s).2)
theorem feedS_app : ∀ (s t : List UInt8) (r : R), feedS r (s ++ t) = ((feedS (feedS r s).1 t).1, (feedS r s).2 ++ (feedS (feedS r s).1 t).2)
  | [], t, r => by simp [feedS]
  | c :: s, t, r => by simp [feedS, feedS_app s t]
theorem feedS_stop : ∀ (s : List UInt8) (r : R), r.st = 3 → feedS r s = (r, [])
  | [], r, h => rfl
  | c :: s, r, h => by
    have e : stepS r c = (r, []) := by unfold stepS; rw [if_neg (by omega), if_neg (by omega)]
    simp [feedS, e, feedS_stop s r h]
theorem brk_good {r : R} (h1 : 0 ≤ r.size) (h2 : -1 ≤ r.length ∧ r.length < 2 ^ 40) (h3 : -1 ≤ r.left ∧ r.left < 2 ^ 40) : Good (brk r).1 :=
  ⟨by simp [brk], ⟨h1, by simp [brk]⟩, by simp [brk], h2, h3, by simp [brk], by simp [brk], by simp [brk]⟩
theorem begin_good {r : R} (h : Good r) (hs : r.st = 0) (hl : r.line = []) (hb : r.body = []) : Good (beginS r).1 ∧ (beginS r).2.length ≤ 1 := by
  have hlen := h.length
  unfold beginS
  split
  · exact ⟨brk_good (by simp) (by simp) h.length, by simp [brk]⟩
  · split
    · exact ⟨⟨by simp, by simp, by simp, by simp, h.length, by simp, by simp only; omega, by simp [hl]⟩, by simp⟩
    · split
      · exact ⟨⟨by simp [hs], by simp, by simp [hl], by simp, by simp, by simp [hs], by simp [hs], by simp [hs]⟩, by simp⟩
      · exact ⟨⟨by simp, by simp, by simp, by simp, h.length, by simp only [hb, List.length_nil]; omega, by simp, by simp [hl]⟩, by simp⟩
theorem field_good {r r' : R} {s : List UInt8} (h : fieldS r s = some r') : r' = r ∨ ∃ n, 0 ≤ n ∧ n < 2 ^ 40 ∧ r' = { r with length := n } := by
  unfold fieldS at h
  split at h
  · simp at h
  · split at h
    · split at h
      · split at h
        · rename_i n hn
          split at h
          · simp at h
          · simp at h
            exact .inr ⟨n, (numS_bound hn).1, (numS_bound hn).2, h.symm⟩
        · simp at h
      · simp at h; exact .inl h.symm
    · simp at h
theorem header_good {r : R} (h : Good r) (hs : r.st = 0) (hb : r.body = []) (c : UInt8) : Good (headerS r c).1 ∧ (headerS r c).2.length ≤ 1 := by
  have h1 := h.size
  have h2 := h.line hs
  have gb : ∀ l, Good (brk { r with size := r.size + 1, line := l }).1 := fun l => brk_good (by simp only; omega) h.length h.left
  have g0 : Good { r with size := r.size + 1, line := [] } ∨ 4096 < r.size + 1 := by
    by_cases hbig : 4096 < r.size + 1
    · exact .inr hbig
    · exact .inl ⟨h.st, ⟨by simp only; omega, fun _ => by simp only; omega⟩, fun _ => by simp only [List.length_nil]; omega, h.length, h.left, h.body, h.skip, fun h' => by simp only at h'; omega⟩
  unfold headerS
  split
  · exact ⟨gb r.line, by simp [brk]⟩
  · rename_i hbig
    split
    · exact ⟨⟨h.st, ⟨by simp only; omega, fun _ => by simp only; omega⟩, fun _ => by simp only [List.length_append, List.length_singleton]; omega, h.length, h.left, h.body, h.skip, fun h' => by simp only at h'; omega⟩, by simp⟩
    · split
      · exact ⟨gb _, by simp [brk]⟩
      · split
        · exact begin_good (g0.resolve_right hbig) hs rfl hb
        · split
          · exact ⟨gb _, by simp [brk]⟩
          · rename_i r' hf
            have g := g0.resolve_right hbig
            refine ⟨?_, by simp⟩
            rcases field_good hf with rfl | ⟨n, hn0, hn1, rfl⟩
            · exact g
            · exact ⟨g.st, g.size, g.line, ⟨by simp only; omega, hn1⟩, g.left, g.body, g.skip, g.mid⟩
theorem takeN_le {r : R} (h : Good r) (hs : r.st = 1 ∨ r.st = 2) (b : List UInt8) : 0 < r.left ∧ (takeN r b : Int) ≤ r.left ∧ takeN r b ≤ b.length := by
  have : 0 < r.left := by
    rcases hs with hs | hs
    · exact (h.body hs).1
    · exact h.skip hs
  unfold takeN; omega
theorem take_good {r : R} (h : Good r) (hs : r.st = 1 ∨ r.st = 2) (b : List UInt8) : Good (takeS r b).1 ∧ (takeS r b).2.length ≤ 1 := by
  have hl := h.left
  obtain ⟨h0, hn, hn2⟩ := takeN_le h hs b
  have hm := h.mid hs
  have hsz := h.size
  unfold takeS
  split
  · exact ⟨⟨by simp, ⟨h.size.1, fun _ => hm.1⟩, fun _ => by simp only [hm.2, List.length_nil]; omega, h.length, by simp, by simp, by simp, by simp⟩, by simp only; split <;> simp⟩
  · refine ⟨⟨h.st, ⟨h.size.1, h.size.2⟩, h.line, h.length, by simp only; omega, fun h1 => ?_, fun h1 => by simp only; omega, h.mid⟩, by simp⟩
    have hb := h.body h1
    simp only at h1
    simp only [if_pos h1, List.length_append, List.length_take]
    omega
theorem step_good {r : R} (h : Good r) (hb : r.st = 0 → r.body = []) (c : UInt8) : Good (stepS r c).1 ∧ (stepS r c).2.length ≤ 1 := by
  unfold stepS
  split
  · rename_i hs; exact header_good h hs (hb hs) c
  · split
    · rename_i hs; exact take_good h hs [c]
    · exact ⟨h, by simp⟩
/-- A chunk is its bytes. -/
theorem take_feed : ∀ (b : List UInt8) (r : R), Good r → r.st = 1 ∨ r.st = 2 → b ≠ [] → feedS r (b.take (takeN r b)) = takeS r b
  | [], r, h, hs, hb => absurd rfl hb
  | [c], r, h, hs, hb => by
    have h0 := (takeN_le h hs [c]).1
    have hn : takeN r [c] = 1 := by unfold takeN; simp; omega
    have e : stepS r c = takeS r [c] := by unfold stepS; rw [if_neg (by omega), if_pos hs]
    rw [hn]
    simp [feedS, e]
  | c :: d :: s, r, h, hs, hb => by
    have h0 := (takeN_le h hs [c]).1
    have hn : takeN r [c] = 1 := by unfold takeN; simp; omega
    have e : stepS r c = takeS r [c] := by unfold stepS; rw [if_neg (by omega), if_pos hs]
    by_cases h1 : r.left = 1
    · have hn2 : takeN r (c :: d :: s) = 1 := by unfold takeN; simp; omega
      have e2 : takeS r (c :: d :: s) = takeS r [c] := by
        unfold takeS; rw [hn, hn2]; simp
      rw [hn2, e2]
      simp [feedS, e]
    · have hne : ¬ r.left - (1 : Nat) = 0 := by omega
      have et : takeS r [c] = ({ r with left := r.left - 1, body := if r.st = 1 then r.body ++ [c] else r.body }, []) := by
        unfold takeS; rw [hn, if_neg hne]; rfl
      have g := take_good h hs [c]
      rw [et] at g
      have ih := take_feed (d :: s) _ g.1 hs (by simp)
      have hN : takeN r (c :: d :: s) = takeN { r with left := r.left - 1, body := if r.st = 1 then r.body ++ [c] else r.body } (d :: s) + 1 := by
        unfold takeN; simp only [List.length_cons]; omega
      rw [hN, List.take_succ_cons]
      simp only [feedS, e, et, ih]
      unfold takeS
      rw [hN]
      simp only
      generalize takeN { r with left := r.left - 1, body := if r.st = 1 then r.body ++ [c] else r.body } (d :: s) = M
      by_cases hz : r.left - 1 - (M : Int) = 0
      · have hz' : r.left - ((M + 1 : Nat) : Int) = 0 := by omega
        rw [if_pos hz, if_pos hz']
        by_cases hs1 : r.st = 1 <;> simp [hs1]
      · have hz' : ¬ r.left - ((M + 1 : Nat) : Int) = 0 := by omega
        rw [if_neg hz, if_neg hz']
        have : r.left - ((M + 1 : Nat) : Int) = r.left - 1 - (M : Int) := by omega
        rw [this]
        by_cases hs1 : r.st = 1 <;> simp [hs1]
end Go.Proofs.YtmjbnfldehbmcaaDoor
