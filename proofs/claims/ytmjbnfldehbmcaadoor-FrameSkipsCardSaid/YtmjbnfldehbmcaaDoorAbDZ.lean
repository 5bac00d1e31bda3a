/-
The walk over the program's texts, told with what its values say: a part of it. No further condition.
-/
import Derived.Test.YtmjbnfldehbmcaaDoorAbDW
import Derived.Test.YtmjbnfldehbmcaaDoorAbY
namespace Go.Proofs.YtmjbnfldehbmcaaDoor
open Go.Proofs.YtmjbnfldehbmcaaDoor.Ab
set_option linter.unusedVariables false
open Lib (decDigits)
theorem Msgs.cells {σ : St} {es : List (List V)} {ms : List Msg} (h : Msgs σ es ms) {v : V} (ho : Sl σ 2 v es) {i : Nat} {k : Int} {s : List UInt8} (hi : ms[i]? = some (k, s)) :
    ∃ b, faV 0 (elA v i) = some (celA v i 0) ∧ faV 1 (elA v i) = some (celA v i 1) ∧ ldV σ (celA v i 0) = some (.int .i64 k) ∧ ldV σ (celA v i 1) = some b ∧ Bs σ b s ∧ ∀ kk, iaV σ 2 v (.int kk i) = some (elA v i) := by
  obtain ⟨b, hb, sb⟩ := h.get hi
  have hil := (List.getElem?_eq_some_iff.1 hb).1
  refine ⟨b, ho.rd.fa hil, ho.rd.fa hil, by rw [ho.rd.cel hb]; rfl, by rw [ho.rd.cel hb]; rfl, sb.rd, fun kk => ho.rd.at hil⟩
theorem Msgs.cell0 {σ : St} {es : List (List V)} {k : Int} {s : List UInt8} (h : Msgs σ es [(k, s)]) {v : V} (ho : Sl σ 2 v es) :
    ∃ b, lenV v = some (.int .i64 1) ∧ faV 0 (elA v 0) = some (celA v 0 0) ∧ faV 1 (elA v 0) = some (celA v 0 1) ∧ ldV σ (celA v 0 0) = some (.int .i64 k) ∧ ldV σ (celA v 0 1) = some b ∧ Bs σ b s ∧ iaV σ 2 v (.int .i64 0) = some (elA v 0) := by
  obtain ⟨b, h1, h2, h3, h4, h5, h6⟩ := h.cells ho (i := 0) rfl
  exact ⟨b, by rw [ho.rd.len, h.len]; rfl, h1, h2, h3, h4, h5, by simpa using h6 .i64⟩
/-- A reader that skips. -/
def rk (m : Int) : R := { r0 with st := 2, left := m }
def rl (m : Nat) : R := if m = 0 then r0 else rk m
theorem fed_head {n : Nat} (h1 : 16777216 < n) (h2 : n < 10 ^ 10) : feedS r0 (hdr n ++ [13, 10] ++ [13, 10]) = (rl n, [(2, [])]) := by
  rw [hdr_fed h2]
  unfold beginS rl rk
  rw [if_neg (by simp only; omega), if_pos (by simp only; omega), if_neg (by omega)]
  simp [r0]
theorem good_rk {m : Nat} (h : 0 < m) (h2 : m < 2 ^ 40) : Good (rk m) := ⟨by simp [rk], by simp [rk, r0], by simp [rk], by simp [rk, r0], by simp [rk]; omega, by simp [rk], by simp [rk]; omega, by simp [rk, r0]⟩
theorem fed_skip {m : Nat} {b : List UInt8} (hb : 0 < b.length) (hm : b.length ≤ m) (h2 : m < 2 ^ 40) : feedS (rl m) b = (rl (m - b.length), []) := by
  have hr : rl m = rk m := if_neg (by omega)
  have hg := good_rk (m := m) (by omega) h2
  have hn : takeN (rk m) b = b.length := by unfold takeN; simp [rk]; omega
  have tf := take_feed b _ hg (.inr rfl) (by intro e; subst e; simp at hb)
  rw [hn, List.take_length] at tf
  rw [hr, tf]
  unfold takeS
  rw [hn]
  by_cases he : m = b.length
  · subst he
    simp [rk, rl, r0]
  · rw [if_neg (by simp [rk]; omega)]
    simp [rk, rl, r0]
    rw [if_neg (by omega)]
    simp
    omega
theorem rl_st {m : Nat} : (rl m).st = if m = 0 then 0 else 2 := by unfold rl; split <;> simp [r0, rk]
/-- Rows that a reader doesn't name. -/
def Off (σ : St) (A : List Nat) (L : List Nat) : Prop := ∀ l ∈ A, l ∉ L ∧ l < σ.n
theorem Off.fm {σ σ' : St} {A L L' : List Nat} (h : Off σ A L) (f : Fm σ σ' L L') : Off σ' A L' ∧ ∀ l ∈ A, σ'.H l = σ.H l := by
  refine ⟨fun l hl => ?_, fun l hl => f.H l (h l hl).1 (h l hl).2⟩
  obtain ⟨h1, h2⟩ := h l hl
  refine ⟨fun hm => ?_, Nat.lt_of_lt_of_le h2 f.n⟩
  rcases f.sub l hm with h3 | h3
  · exact h1 h3
  · omega
end Go.Proofs.YtmjbnfldehbmcaaDoor
