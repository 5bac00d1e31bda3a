/-
The walk over the program's texts, told with what its values say: a part of it. No further condition.
-/
import Derived.Test.YtmjbnfldehbmcaaDoorAbDU
import Derived.Test.YtmjbnfldehbmcaaDoorAbV
namespace Go.Proofs.YtmjbnfldehbmcaaDoor
open Go.Proofs.YtmjbnfldehbmcaaDoor.Ab
def low (n : Int) : Int := if 65 ≤ n ∧ n ≤ 90 then IntKind.u8.wrap (n + 32) else n
theorem low_c (n : Int) (σ : St) : CCalls Tryd.prog 29 [.int .u8 n] σ (fun o σ' => o = .ret (.int .u8 (low n)) ∧ σ' = σ) := by
  refine w_fn ok29 (by simp [c29]) fun Q hn hr hp => ?_
  simp only [c29] at *
  have hq : ∀ f, f.ds = [] → f.env 2 = .int .u8 (low n) → Q .ret f σ := fun f h1 h2 => hr f σ ⟨h1, by simp [retV, resL, resV, one, h2]⟩
  clear hn hr hp
  unfold low at hq
  refine w_seq (w_regk [0] fun K KP hk hkp => ?_)
  simp
  apply hk; clear hk hkp K KP
  refine w_seq (w_seq (w_regk [0,8] fun K KP hk hkp => ?_))
  by_cases h1 : 65 ≤ n <;> by_cases h2 : n ≤ 90 <;> simp [h1, h2] <;> apply hk
  · refine w_yes (by simp) (w_seq (w_regk [2] fun K KP hk hkp => ?_))
    simp
    apply hk
    exact w_ret (hq _ (by simp) (by simp [h1,h2]))
  all_goals
    refine w_no (by simp) (w_skip (w_seq (w_regk [2] fun K KP hk hkp => ?_)))
    simp
    apply hk
    exact w_ret (hq _ (by simp) (by simp [h1,h2]))
def want : List UInt8 := [99, 111, 110, 116, 101, 110, 116, 45, 108, 101, 110, 103, 116, 104]
def isLen (s : List UInt8) : Bool := s.length = 14 ∧ s.map (fun c => low c.toNat) = want.map (fun c => (c.toNat : Int))
theorem isLength_c (v : V) (s : List UInt8) (σ : St) (hv : Rd σ 1 v (s.map byteE)) : CCalls Tryd.prog 23 [v] σ (fun o σ' => o = .ret (.bool (isLen s)) ∧ σ' = σ) := by
  refine w_fn ok23 (by simp [c23]) fun Q hn hr hp => ?_
  simp only [c23] at *
  have hq : ∀ f, f.ds = [] → f.env 2 = .bool (isLen s) → Q .ret f σ := fun f h1 h2 => hr f σ ⟨h1, by simp [retV, resL, resV, one, h2]⟩
  clear hn hr hp
  have hlen := hv.len
  refine w_seq (w_regk [0] fun K KP hk hkp => ?_)
  simp
  apply hk; clear hk hkp K KP
  refine w_seq (w_seq (w_regk [0,6] fun K KP hk hkp => ?_))
  simp [hlen]
  apply hk; clear hk hkp K KP
  by_cases h14 : s.length = 14
  case neg =>
    refine w_yes (by simp; omega) (w_seq (w_regk [2] fun K KP hk hkp => ?_))
    simp
    apply hk
    refine w_ret (hq _ (by simp) (by simp [isLen, h14]))
  refine w_no (by simp; omega) (w_skip (w_seq (w_seq (w_regk [0,8,9] fun K KP hk hkp => ?_))))
  simp [hlen, h14]
  apply hk; clear hk hkp K KP
  refine w_block fun Q' hn he hx hr hp => ?_
  refine w_loopk [0,8,9] (fun n vs σ' => σ' = σ ∧ ∃ i, i + n = 14 ∧ vs = [v, .int .i64 14, .int .i64 i] ∧ (s.take i).map (fun c => low c.toNat) = (want.take i).map (fun c => (c.toNat : Int))) 14 ⟨rfl, 0, by simp⟩ ?_
  rintro n vs σ' ⟨rfl, i, hi, rfl, hpre⟩ Qz z1 z2 z3 z4
  refine w_seq (w_regk [0,8,9,10] fun K KP hk hkp => ?_)
  simp
  apply hk; clear hk hkp K KP
  refine w_seq ?_
  by_cases hc : i < 14
  case neg =>
    refine w_no (by simp; omega) ?_
    refine w_exit (z2 _ _ _ (he _ _ ?_))
    refine w_keep [] ?_
    refine w_seq (w_regk [2] fun K KP hk hkp => ?_)
    simp
    apply hk
    refine w_ret (hq _ (by simp) ?_)
    have : i = 14 := by omega
    subst this
    simp [isLen, h14]
    rw [List.take_of_length_le (by omega)] at hpre
    exact hpre
  refine w_yes (by simp; omega) ?_
  refine w_skip ?_
  refine w_seq ?_
  refine w_block fun Q1 hn1 he1 hx1 hr1 hp1 => ?_
  refine w_seq ?_
  refine w_regk [0, 3, 8, 9] fun K KP hk hkp => ?_
  simp
  apply hk; clear hk hkp K KP
  refine w_seq ?_
  refine w_drwk [0, 8, 9, 19] fun K KP hk hkp => ?_
  have hs : i < s.length := by omega
  have hel := hv.el (i := i) (e := byteE s[i]) (by simp [hs])
  obtain ⟨W, hW⟩ : ∃ W, want[i]? = some W := ⟨want[i]'(by simp [want]; omega), by simp⟩
  have hW' : [99, 111, 110, 116, 101, 110, 116, 45, 108, 101, 110, 103, 116, 104][i]? = some W := hW
  simp [hv.at (show i < (s.map byteE).length by simpa using hs), hel, byteE, hW']
  refine (low_c _ _).mono ?_
  rintro _ _ ⟨rfl, rfl⟩
  simp
  apply hk; clear hk hkp K KP
  by_cases heq : low s[i].toNat = W.toNat
  case neg =>
    refine w_yes (by simpa using heq) ?_
    refine w_seq (w_regk [2] fun K KP hk hkp => ?_)
    simp
    apply hk
    refine w_ret (hr1 _ _ (z3 _ _ (hr _ _ (hq _ (by simp) ?_))))
    simp [isLen, h14]
    intro h
    have := congrArg (·[i]?) h
    simp [hs, hW] at this
    exact heq this
  refine w_no (by simpa using heq) ?_
  refine w_skip (w_end (hn1 _ _ ?_))
  refine w_reg fun K KP hk hkp => ?_
  simp
  refine hk _ _ (w_end (z1 (n - 1) _ _ rfl (by omega) ⟨rfl, i + 1, by omega, ?_, ?_⟩))
  · simp
    rw [IntWalk.i64_in _ (by omega)]
  · rw [List.take_add_one, List.take_add_one, List.map_append, List.map_append, hpre, List.getElem?_eq_getElem hs, hW]; simp [heq]
end Go.Proofs.YtmjbnfldehbmcaaDoor
