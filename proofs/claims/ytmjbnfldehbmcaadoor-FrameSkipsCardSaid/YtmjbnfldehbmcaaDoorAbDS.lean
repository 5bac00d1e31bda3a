/-
The walk over the program's texts, told with what its values say: a part of it. No further condition.
-/
import Derived.Test.YtmjbnfldehbmcaaDoorAbDP
namespace Go.Proofs.YtmjbnfldehbmcaaDoor
open Go.Proofs.YtmjbnfldehbmcaaDoor.Ab
set_option linter.unusedVariables false
/-! A broken header is told last. -/
def NoB (ms : List Msg) : Prop := ∀ m ∈ ms, m.1 ≠ 3
def Kinds (x : R × List Msg) : Prop := (x.1.st ≠ 3 ∧ NoB x.2) ∨ (x.1.st = 3 ∧ ∃ ms, x.2 = ms ++ [(3, [])] ∧ NoB ms)
theorem kinds_brk (r : R) : Kinds (brk r) := .inr ⟨rfl, [], rfl, fun m h => by simp at h⟩
theorem kinds_begin {r : R} (h : r.st ≠ 3) : Kinds (beginS r) := by
  unfold beginS
  split
  · exact kinds_brk _
  · split
    · exact .inl ⟨by simp, by simp [NoB]⟩
    · split
      · exact .inl ⟨h, by simp [NoB]⟩
      · exact .inl ⟨by simp, by simp [NoB]⟩
theorem kinds_step {r : R} (h : r.st ≠ 3) (c : UInt8) : Kinds (stepS r c) := by
  unfold stepS
  split
  · unfold headerS
    split
    · exact kinds_brk _
    · split
      · exact .inl ⟨h, by simp [NoB]⟩
      · split
        · exact kinds_brk _
        · split
          · exact kinds_begin h
          · split
            · exact kinds_brk _
            · rename_i r' hf
              refine .inl ⟨?_, by simp [NoB]⟩
              rcases field_good hf with rfl | ⟨n, _, _, rfl⟩ <;> exact h
  · split
    · unfold takeS
      split
      · refine .inl ⟨by simp, ?_⟩
        simp only
        split <;> simp [NoB]
      · exact .inl ⟨h, by simp [NoB]⟩
    · exact .inl ⟨h, by simp [NoB]⟩
theorem kinds_feed : ∀ (s : List UInt8) (r : R), r.st ≠ 3 → Kinds (feedS r s)
  | [], r, h => .inl ⟨h, by simp [feedS, NoB]⟩
  | c :: s, r, h => by
    simp only [feedS]
    rcases kinds_step h c with ⟨h1, h2⟩ | ⟨h1, ms, h2, h3⟩
    · rcases kinds_feed s _ h1 with ⟨h4, h5⟩ | ⟨h4, ms, h5, h6⟩
      · exact .inl ⟨h4, fun m hm => (List.mem_append.1 hm).elim (h2 m) (h5 m)⟩
      · exact .inr ⟨h4, (stepS r c).2 ++ ms, by simp only; rw [h5, List.append_assoc], fun m hm => (List.mem_append.1 hm).elim (h2 m) (h6 m)⟩
    · rw [feedS_stop s _ h1]
      exact .inr ⟨h1, ms, by simp [h2], h3⟩
end Go.Proofs.YtmjbnfldehbmcaaDoor
