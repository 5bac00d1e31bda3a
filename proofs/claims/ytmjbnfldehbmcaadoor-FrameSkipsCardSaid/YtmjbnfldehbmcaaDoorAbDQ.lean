/-
The walk over the program's texts, told with what its values say: a part of it. No further condition.
-/
import Derived.Test.YtmjbnfldehbmcaaDoorAbDP
import Derived.Test.YtmjbnfldehbmcaaDoorAbP
import Derived.Test.YtmjbnfldehbmcaaDoorShelf
namespace Go.Proofs.YtmjbnfldehbmcaaDoor
open Go.Proofs.YtmjbnfldehbmcaaDoor.Ab
set_option linter.unusedVariables false
open Lib (decDigits)
open Go.Sort (grow)
def Tab (σ : St) : Prop := Lib.TabIs Tryd.prog σ.W "internal/strconv.uint64pow10" .u64 Lib.pow10Tab
theorem grow_below (w : World) (k : Nat) (os : Array Obj) : RowKit.Below w.heap.size w (grow (w.drewN k) os) :=
  ⟨rfl, rfl, rfl, by simp [grow, World.drewN], fun b hb => by simp [grow, World.drewN, Array.getElem?_append, hb]⟩
theorem itoa_c (σ : St) (n : Nat) (hn : n < 2 ^ 63) (ht : Tab σ) : CCalls Tryd.prog 13 [.int .i64 n] σ (fun o σ' => o = .ret (.str (decDigits n)) ∧ σ' = σ) := by
  refine ccalls_lift fun φ I w cs hs ha => ?_
  have h0 := ha.2 0 _ rfl
  have hcs : cs = #[.int .i64 n] := by
    have h1 := ha.1
    simp at h1
    obtain ⟨l⟩ := cs
    match l, h1 with
    | [c], _ =>
      simp at h0
      cases h0
      rfl
  subst hcs
  refine (Tryd.strconv_Itoa n (by omega) (by omega) w (base_var hs ht)).mono ?_
  rintro e w' ⟨rfl, k, os, rfl⟩
  refine ⟨_, rfl, grow_below w k os, .str ?_⟩
  unfold Lib.itoa
  rw [if_neg (by omega)]
  simp
/-- A new row, and nothing else has turned. -/
structure New (σ σ' : St) (v : V) (s : List UInt8) : Prop where
  sl : Sl σ' 1 v (s.map byteE)
  n : σ.n ≤ σ'.n
  H : ∀ l, l < σ.n → σ'.H l = σ.H l
  row : ∀ l, v.row = some l → σ.n ≤ l ∧ l < σ'.n
  W : σ'.W = σ.W
def wr (b : List UInt8) : List UInt8 := hdr b.length ++ [13, 10] ++ [13, 10] ++ b
theorem write_c (σ : St) (v : V) (b : List UInt8) (hv : Bs σ v b) (hvn : ∀ l, v.row = some l → l < σ.n) (hb : b.length < 2 ^ 30) (ht : Tab σ) : CCalls Tryd.prog 8 [v] σ (fun o σ' => ∃ v', o = .ret v' ∧ New σ σ' v' (wr b)) := by
  refine w_fn ok8 (by simp [c8]) fun Q hn hr hpq => ?_
  simp only [c8] at *
  have hq : ∀ f' σ', f'.ds = [] → New σ σ' (f'.env 2) (wr b) → Q .ret f' σ' := fun f σ' h1 h2 => hr f _ ⟨h1, _, by simp [retV, resL, resV, one], _, rfl, h2⟩
  clear hn hr hpq
  have hlen := hv.len
  refine w_seq ?_
  refine w_regk [0] fun K KP hk hkp => ?_
  simp
  apply hk; clear hk hkp K KP
  have hdl : (decDigits b.length).length ≤ 10 := dec_len 9 b.length (by omega)
  refine w_seq ?_
  refine w_regk [0, 3] fun K KP hk hkp => ?_
  simp [hlen]
  refine (itoa_c σ b.length (by omega) ht).mono ?_
  rintro _ σ1 ⟨rfl, e⟩
  obtain rfl := e.symm
  clear e
  have l1 : 16 + (decDigits b.length).length ≤ 9223372036854775807 := by omega
  have l2 : (decDigits b.length).length + 1 + 1 + 1 + 1 + 1 + 1 + 1 + 1 + 1 + 1 + 1 + 1 + 1 + 1 + 1 + 1 + 4 ≤ 9223372036854775807 := by omega
  obtain ⟨h, hh⟩ : ∃ h, h = hdr b.length ++ [13, 10] ++ [13, 10] := ⟨_, rfl⟩
  have hhl : h.length ≤ 30 := by rw [hh]; simp [hdr]; omega
  have hhp : 0 < h.length := by rw [hh]; simp
  have hgo : K [v, .slc σ.n 0 h.length] [] (σ.new (.row 1 (h.map byteE))) := by
    apply hk; clear hk hkp K KP
    refine w_seq ?_
    refine w_regk [2] fun K KP hk hkp => ?_
    simp
    have hs1 : Sl (σ.new (.row 1 (h.map byteE))) 1 (.slc σ.n 0 h.length) (h.map byteE) := .inr ⟨σ.n, by simp, by simp⟩
    have hv1 : Bs (σ.new (.row 1 (h.map byteE))) v b := hv.mono fun l off len e => by
      have := hvn l (by rw [e]; rfl)
      rw [new_H, if_neg (by omega)]
    by_cases hb0 : b = []
    · subst hb0
      rw [hs1.app0 (srcOf_rd hv1)]
      simp
      refine hk _ _ _ (w_ret (hq _ _ rfl ?_))
      refine ⟨?_, by simp, fun l hl => by rw [new_H, if_neg (by omega)], fun l hl => ?_, rfl⟩
      · have : wr [] = h := by rw [hh]; simp [wr]
        rw [this]; simpa using hs1
      · simp [V.row] at hl; subst hl; simp
    · have hbl : (b.map byteE).length = b.length := by simp
      have hml : (h.map byteE).length = h.length := by simp
      rw [hs1.app (srcOf_rd hv1) (by simpa using hb0) (by rw [hbl, hml]; simp only [reach]; omega) (by rw [hbl, hml]; simp only [reach]; omega)]
      rw [hbl, hml]
      simp
      refine hk _ _ _ (w_ret (hq _ _ rfl ?_))
      have hwr : wr b = h ++ b := by rw [hh]; rfl
      refine ⟨.inr ⟨σ.n + 1, by rw [hwr]; simp, by rw [hwr]; simp⟩, by simp; omega, fun l hl => ?_, fun l hl => ?_, by simp⟩
      · rw [new_H, if_neg (by simp; omega), grown_H, if_neg (by simp [V.row]; omega), new_H, if_neg (by omega)]
      · simp [V.row] at hl; subst hl; simp
  simpa [l1, l2, hh, hdr] using hgo
end Go.Proofs.YtmjbnfldehbmcaaDoor
