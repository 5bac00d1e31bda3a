/-
The walk over the program's texts, told with what its values say: a part of it. No further condition.
-/
import Derived.Test.YtmjbnfldehbmcaaDoorAbDQ
namespace Go.Proofs.YtmjbnfldehbmcaaDoor
open Go.Proofs.YtmjbnfldehbmcaaDoor.Ab
set_option linter.unusedVariables false
open Lib (decDigits)
theorem feed_nil (σ : St) (v : V) : CCalls Tryd.prog 11 [.nilp, v] σ (fun o σ' => o = .ret .nils ∧ σ' = σ) := by
  refine w_fn ok11 (by simp [c11]) fun Q hn hr hpq => ?_
  simp only [c11] at *
  have hq : ∀ f', f'.ds = [] → f'.env 4 = .nils → Q .ret f' σ := fun f h1 h2 => hr f _ ⟨h1, by simp [retV, resL, resV, one, h2]⟩
  clear hn hr hpq
  refine w_seq ?_
  refine w_regk [0, 1] fun K KP hk hkp => ?_
  simp
  apply hk; clear hk hkp K KP
  refine w_seq ?_
  refine w_seq ?_
  refine w_regk [0, 1, 8] fun K KP hk hkp => ?_
  simp
  apply hk; clear hk hkp K KP
  refine w_yes rfl ?_
  refine w_seq ?_
  refine w_regk [4] fun K KP hk hkp => ?_
  simp
  exact hk _ _ _ (w_ret (hq _ rfl (by simp)))
theorem over_nil (σ : St) : CCalls Tryd.prog 12 [.nilp] σ (fun o σ' => o = .ret (.bool false) ∧ σ' = σ) := by
  refine w_fn ok12 (by simp [c12]) fun Q hn hr hpq => ?_
  simp only [c12] at *
  have hq : ∀ f', f'.ds = [] → f'.env 2 = .bool false → Q .ret f' σ := fun f h1 h2 => hr f _ ⟨h1, by simp [retV, resL, resV, one, h2]⟩
  clear hn hr hpq
  refine w_seq ?_
  refine w_regk [0] fun K KP hk hkp => ?_
  simp
  apply hk; clear hk hkp K KP
  refine w_seq ?_
  refine w_regk [2] fun K KP hk hkp => ?_
  simp
  exact hk _ _ _ (w_ret (hq _ rfl (by simp)))
/-- The reference's way of writing. -/
theorem rwrite_c (σ : St) (v : V) (b : List UInt8) (hv : Bs σ v b) (hvn : ∀ l, v.row = some l → l < σ.n) (hb : b.length < 2 ^ 30) : CCalls Tryd.prog 9 [v] σ (fun o σ' => ∃ v', o = .ret v' ∧ New σ σ' v' (wr b)) := by
  refine w_fn ok9 (by simp [c9]) fun Q hn hr hpq => ?_
  simp only [c9] at *
  have hq : ∀ f' σ', f'.ds = [] → New σ σ' (f'.env 2) (wr b) → Q .ret f' σ' := fun f σ' h1 h2 => hr f _ ⟨h1, _, by simp [retV, resL, resV, one], _, rfl, h2⟩
  clear hn hr hpq
  have hlen := hv.len
  refine w_seq ?_
  refine w_regk [0] fun K KP hk hkp => ?_
  simp
  apply hk; clear hk hkp K KP
  refine w_seq ?_
  refine w_regk [0, 3] fun K KP hk hkp => ?_
  simp
  apply hk; clear hk hkp K KP
  refine w_seq ?_
  refine w_seq ?_
  refine w_regk [0, 3, 4] fun K KP hk hkp => ?_
  simp [hlen]
  apply hk; clear hk hkp K KP
  have hdl : (decDigits b.length).length ≤ 10 := dec_len 9 b.length (by omega)
  refine w_block fun Q0 hn0 he0 hx0 hr0 hp0 => ?_
  refine w_loopk [0, 3, 4] (fun m vs σ' => ∃ (n : Nat) (s : List UInt8), vs = [v, .str s, .int .i64 n] ∧ m = n + (if s = [] then 1 else 0) ∧ ((s = [] ∧ n = b.length) ∨ (s ≠ [] ∧ decDigits b.length = (if 0 < n then decDigits n else []) ++ s)) ∧ n ≤ b.length ∧
    σ.n ≤ σ'.n ∧ (∀ l, l < σ.n → σ'.H l = σ.H l) ∧ σ'.W = σ.W) (b.length + 1) ⟨b.length, [], by simp, by simp, by simp, by omega, by omega, fun _ _ => rfl, rfl⟩ ?_
  rintro m vs σ' ⟨n, s, rfl, hm, hinv, hnb, hσn, hσH, hσW⟩ Qz z1 z2 z3 z4
  refine w_seq ?_
  refine w_seq ?_
  refine w_regk [0, 3, 4, 13] fun K KP hk hkp => ?_
  have hgo : K [v, .str s, .int .i64 n, .bool (decide ((0 : Int) < n ∨ s = []))] [] σ' := by
    apply hk; clear hk hkp K KP
    by_cases hc : (0 : Int) < n ∨ s = []
    rotate_left
    · refine w_no (vF hc) ?_
      refine w_exit (z2 _ _ _ (he0 _ _ ?_))
      refine w_keep [0, 3] ?_
      have hs : decDigits b.length = s := by
        rcases hinv with ⟨h, _⟩ | ⟨_, h⟩
        · exact absurd (.inr h) hc
        · rw [if_neg (by omega)] at h; simpa using h
      subst hs
      obtain ⟨h, hh⟩ : ∃ h, h = hdr b.length ++ [13, 10] ++ [13, 10] := ⟨_, rfl⟩
      have hhl : h.length ≤ 30 := by rw [hh]; simp [hdr]; omega
      have hhp : 0 < h.length := by rw [hh]; simp
      have l1 : 16 + (decDigits b.length).length ≤ 9223372036854775807 := by omega
      have l2 : (decDigits b.length).length + 1 + 1 + 1 + 1 + 1 + 1 + 1 + 1 + 1 + 1 + 1 + 1 + 1 + 1 + 1 + 1 + 4 ≤ 9223372036854775807 := by omega
      refine w_seq ?_
      refine w_regk [0, 5] fun K KP hk hkp => ?_
      have hgo2 : K [v, .slc σ'.n 0 h.length] [] (σ'.new (.row 1 (h.map byteE))) := by
        apply hk; clear hk hkp K KP
        refine w_seq ?_
        refine w_regk [2] fun K KP hk hkp => ?_
        simp
        have hs1 : Sl (σ'.new (.row 1 (h.map byteE))) 1 (.slc σ'.n 0 h.length) (h.map byteE) := .inr ⟨σ'.n, by simp, by simp⟩
        have hv1 : Bs (σ'.new (.row 1 (h.map byteE))) v b := hv.mono fun l off len e => by
          have := hvn l (by rw [e]; rfl)
          rw [new_H, if_neg (by omega), hσH l this]
        by_cases hb0 : b = []
        · subst hb0
          rw [hs1.app0 (srcOf_rd hv1)]
          simp
          refine hk _ _ _ (w_ret (hq _ _ rfl ?_))
          refine ⟨?_, by simp; omega, fun l hl => by rw [new_H, if_neg (by omega), hσH l hl], fun l hl => ?_, by simp [hσW]⟩
          · have : wr [] = h := by rw [hh]; simp [wr]
            rw [this]; simpa using hs1
          · simp [V.row] at hl; subst hl; simp; omega
        · have hbl : (b.map byteE).length = b.length := by simp
          have hml : (h.map byteE).length = h.length := by simp
          rw [hs1.app (srcOf_rd hv1) (by simpa using hb0) (by rw [hbl, hml]; simp only [reach]; omega) (by rw [hbl, hml]; simp only [reach]; omega)]
          rw [hbl, hml]
          simp
          refine hk _ _ _ (w_ret (hq _ _ rfl ?_))
          have hwr : wr b = h ++ b := by rw [hh]; rfl
          refine ⟨.inr ⟨σ'.n + 1, by rw [hwr]; simp, by rw [hwr]; simp⟩, by simp; omega, fun l hl => ?_, fun l hl => ?_, by simp [hσW]⟩
          · rw [new_H, if_neg (by simp; omega), grown_H, if_neg (by simp [V.row]; omega), new_H, if_neg (by omega), hσH l hl]
          · simp [V.row] at hl; subst hl; simp; omega
      simpa [l1, l2, hh, hdr] using hgo2
    refine w_yes (vT hc) ?_
    refine w_skip ?_
    refine w_seq ?_
    refine w_block fun Q1 hn1 he1 hx1 hr1 hp1 => ?_
    refine w_reg fun K KP hk hkp => ?_
    have hsl : s.length ≤ 10 := by
      rcases hinv with ⟨h, _⟩ | ⟨_, h⟩
      · rw [h]; simp
      · have := congrArg List.length h
        rw [List.length_append] at this
        omega
    have hm10 : (n : Int).tmod 10 = ((n % 10 : Nat) : Int) := by rw [Int.tmod_eq_emod_of_nonneg (by omega)]; omega
    have hw1 : IntKind.i64.wrap (48 + (n : Int).tmod 10) = ((48 + n % 10 : Nat) : Int) := by rw [hm10, IntWalk.i64_in _ (by omega)]; omega
    have hw2 : IntKind.u8.wrap ((48 + n % 10 : Nat) : Int) = ((48 + n % 10 : Nat) : Int) := IntWalk.u8_in _ (by omega)
    obtain ⟨c, hc'⟩ : ∃ c : UInt8, c = UInt8.ofNat (48 + n % 10) := ⟨_, rfl⟩
    have hct : ((48 + n % 10 : Nat) : Int) = (c.toNat : Int) := by rw [hc']; simp; omega
    have hbs : Bs (σ'.new (.row 1 [byteE c])) (.slc σ'.n 0 1) [c] := by simp [Bs, Rd, cont]
    have hb2 := hbs.b2s
    have l3 : 1 + s.length ≤ 9223372036854775807 := by omega
    simp only [byteE] at hb2
    rw [hct] at hw1 hw2
    simp [hw1, hw2, hb2, l3]
    refine hk _ _ (w_end (hn1 _ _ ?_))
    clear hk hkp K KP
    refine w_keep [0, 3, 4] ?_
    refine w_reg fun K KP hk hkp => ?_
    have hd10 : IntKind.i64.wrap ((n : Int) / 10) = ((n / 10 : Nat) : Int) := by rw [IntWalk.i64_in _ (by omega)]; omega
    simp [hd10]
    have hdec : 0 < n → decDigits n = (if 0 < n / 10 then decDigits (n / 10) else []) ++ [c] := fun hn0 => by
      rw [decDigits]
      split
      · rename_i h
        rw [if_neg (by omega), hc', Nat.mod_eq_of_lt h]; rfl
      · rename_i h
        rw [if_pos (by omega), hc']
    refine hk _ _ (w_end (z1 (n / 10) _ _ rfl ?_ ⟨n / 10, c :: s, by simp, by simp, .inr ⟨by simp, ?_⟩, by omega, by simp; omega, fun l hl => by rw [new_H, if_neg (by omega), hσH l hl], by simp [hσW]⟩))
    · rw [hm]
      rcases hc with hc | hc
      · have : n / 10 < n := by omega
        omega
      · rw [if_pos hc]; omega
    · rcases hinv with ⟨h, hn⟩ | ⟨hs, h⟩
      · subst h
        by_cases hn0 : 0 < n
        · rw [← hn, hdec hn0]
        · have : n = 0 := by omega
          subst this
          rw [← hn, decDigits, dif_pos (by omega), hc']; rfl
      · by_cases hn0 : 0 < n
        · rw [h, if_pos hn0, hdec hn0]; simp
        · rcases hc with hc | hc
          · omega
          · exact absurd hc hs
  by_cases h1 : 0 < n
  · simpa [h1] using hgo
  · simpa [h1] using hgo
end Go.Proofs.YtmjbnfldehbmcaaDoor
