/-
The walk over the program's texts, told with what its values say: a part of it. No further condition.
-/
import Derived.Test.YtmjbnfldehbmcaaDoorAbD3
namespace Go.Proofs.YtmjbnfldehbmcaaDoor
open Go.Proofs.YtmjbnfldehbmcaaDoor.Ab
def cutS (s : List UInt8) : Option Nat := s.findIdx? (· == 58)
def cutR (v : V) (s : List UInt8) : V :=
  match cutS s with
  | some i => .tup [cutV v 0 i, cutV v (i + 1) s.length, .bool (decide (0 < i))]
  | none => .tup [.nils, .nils, .bool false]
theorem cut_c (v : V) (s : List UInt8) (σ : St) (hv : Bs σ v s) (hb : s.length < 2 ^ 40) : CCalls Tryd.prog 22 [v] σ (fun o σ' => o = .ret (cutR v s) ∧ σ' = σ) := by
  refine w_fn ok22 (by simp [c22]) fun Q hn hr hp => ?_
  simp only [c22] at *
  have hq : ∀ f, f.ds = [] → V.tup [f.env 2, f.env 3, f.env 4] = cutR v s → Q .ret f σ := fun f h1 h2 => hr f σ ⟨h1, by simp [retV, resL, resV, one, h2]⟩
  clear hn hr hp
  have hlen := hv.len
  refine w_seq ?_
  refine w_regk [0] fun K KP hk hkp => ?_
  simp
  apply hk; clear hk hkp K KP
  refine w_seq ?_
  refine w_seq ?_
  refine w_regk [0, 7, 8, 9] fun K KP hk hkp => ?_
  simp [hlen]
  apply hk; clear hk hkp K KP
  refine w_block fun Q0 hn0 he0 hx0 hr0 hp0 => ?_
  refine w_loopk [0, 7, 8, 9] (fun n vs σ' => σ' = σ ∧ ∃ i, i + n = s.length ∧ vs = [v, v, .int .i64 s.length, .int .i64 i] ∧ ∀ c ∈ s.take i, c ≠ 58) s.length ⟨rfl, 0, by simp⟩ ?_
  rintro n vs σ' ⟨rfl, i, hi, rfl, hpre⟩ Qz z1 z2 z3 z4
  refine w_seq ?_
  refine w_regk [0, 7, 8, 9, 10] fun K KP hk hkp => ?_
  simp
  apply hk; clear hk hkp K KP
  refine w_seq ?_
  by_cases hc : i < s.length
  rotate_left
  · refine w_no (by simp [hc]) ?_
    refine w_exit (z2 _ _ _ (he0 _ _ ?_))
    refine w_keep [] ?_
    refine w_seq ?_
    refine w_regk [2, 3, 4] fun K KP hk hkp => ?_
    simp
    apply hk; clear hk hkp K KP
    have : cutS s = none := by
      unfold cutS
      rw [List.findIdx?_eq_none_iff]
      rw [List.take_of_length_le (by omega)] at hpre
      simpa using hpre
    exact w_ret (hq _ (by simp) (by simp [cutR, this]))
  refine w_yes (by simp [hc]) ?_
  refine w_skip ?_
  refine w_seq ?_
  refine w_block fun Q1 hn1 he1 hx1 hr1 hp1 => ?_
  -- BLOCK 1; behind it [0, 7, 8, 9]
  refine w_seq ?_
  refine w_regk [0, 5, 6, 7, 8, 9] fun K KP hk hkp => ?_
  simp [hv.at hc, hv.ld (List.getElem?_eq_getElem hc)]
  apply hk; clear hk hkp K KP
  refine w_seq ?_
  refine w_regk [0, 5, 7, 8, 9, 15] fun K KP hk hkp => ?_
  simp
  apply hk; clear hk hkp K KP
  by_cases h58 : s[i] = 58
  · refine w_yes (by simp [h58]) ?_
    refine w_seq ?_
    refine w_drwk [2, 3, 4] fun K KP hk hkp => ?_
    simp (disch := omega) [IntWalk.i64_in]
    rw [hv.lslTo (b := i) (k := .i64) (by simp) (by omega)]
    simp (disch := omega) [IntWalk.i64_in]
    rw [hv.lslFrom (a := i + 1) (k := .i64) (by simp) (by omega)]
    simp
    apply hk; clear hk hkp K KP
    refine w_ret (hr1 _ _ (z3 _ _ (hr0 _ _ (hq _ (by simp) ?_))))
    have : cutS s = some i := by
      unfold cutS
      rw [List.findIdx?_eq_some_iff_getElem]
      refine ⟨hc, by simp [h58], fun j hj => ?_⟩
      have := hpre s[j] (by rw [List.mem_take_iff_getElem]; exact ⟨j, by omega, rfl⟩)
      simpa using this
    simp [cutR, this]
  refine w_no (by simp; intro h; exact h58 ((u8n (n := 58) (by omega)).1 h)) ?_
  refine w_skip (w_end (hn1 _ _ ?_))
  refine w_reg fun K KP hk hkp => ?_
  simp (disch := omega) [IntWalk.i64_in]
  refine hk _ _ (w_end (z1 (n - 1) _ _ rfl (by omega) ⟨rfl, i + 1, by omega, by simp, ?_⟩))
  intro c hcm
  rw [List.take_add_one, List.getElem?_eq_getElem hc] at hcm
  simp only [Option.toList_some, List.mem_append, List.mem_singleton] at hcm
  rcases hcm with h | h
  · exact hpre c h
  · rw [h]; exact h58
end Go.Proofs.YtmjbnfldehbmcaaDoor
