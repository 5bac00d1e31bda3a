/-
The walk over the program's texts, told with what its values say: a part of it. No further condition.
-/
import Derived.Test.YtmjbnfldehbmcaaDoorAbV
import Derived.Below
import Derived.WalkKit
namespace Go.Proofs.YtmjbnfldehbmcaaDoor.Ab
open Go.RowKit
set_option linter.unusedVariables false
/-! The top: a law's call, at the arguments as they stand. -/
def σ0 (W : World) : St := ⟨fun _ => none, 0, W⟩
def φ0 : Phi := fun _ => none
def I0 (W : World) (b : Nat) : Prop := b < W.heap.size
theorem sim0 (W : World) : Sim φ0 (I0 W) (σ0 W) W :=
  ⟨fun l x h => by simp [φ0] at h, fun l x h => by simp [φ0] at h, fun l b h => by simp [σ0] at h, fun b ⟨l, x, h, _⟩ => by simp [σ0] at h, fun l l' x x' h => by simp [σ0] at h, fun b h => h, fun b h => ⟨h, rfl⟩⟩
theorem calls_top {P : Program} {k : FuncId} {vs : List V} {W : World} {args : Array Value} (hc : CCalls P k vs (σ0 W) (fun o _ => o = .ret (.bool true))) (hr : RelA φ0 (I0 W) W vs args) :
    Calls P k args W fun e w' => e = .returned (.bool true) ∧ Below W.heap.size W w' := by
  refine (hc _ _ _ _ (sim0 W) hr).mono ?_
  rintro e w' ⟨o, σ', φ', I', rfl, ho, he, hs⟩
  cases ho with
  | ret h =>
    refine ⟨by rw [h.bool_inv], he.os, he.tape, he.output, he.size, fun b hb => he.frame b hb ?_⟩
    rintro ⟨l, x, h, _⟩
    simp [σ0] at h
/-- A slice of bytes. -/
theorem rel_bytes {W : World} {a : Option Addr} {len cap : Nat} {zs : List Int}
    (h : (a = none ∧ len = 0 ∧ cap = 0 ∧ zs = []) ∨ ∃ x, a = some x ∧ len ≤ cap ∧ cap ≤ maxLen ∧ zs.length = cap ∧ (∀ i, i < zs.length → W.cell? (x.add i) = some (.int .u8 (zs.getD i 0))) ∧ ∀ n ∈ zs, (Lit.int .u8 n).wf = true) :
    ∃ v b, Rel φ0 (I0 W) W v (.slice a len cap) ∧ (∀ σ, Bs σ v b) ∧ v.row = none ∧ b.length = len := by
  rcases h with ⟨rfl, rfl, rfl, rfl⟩ | ⟨x, rfl, hl, hm, hz, hcell, hwf⟩
  · exact ⟨.nils, [], .nils, fun σ => rfl, rfl, rfl⟩
  · let b : List UInt8 := (zs.take len).map fun n => UInt8.ofNat n.toNat
    have hbl : b.length = len := by simp [b]; omega
    have hget : ∀ i, i < len → ∃ n, zs[i]? = some n ∧ 0 ≤ n ∧ n < 256 ∧ b[i]? = some (UInt8.ofNat n.toNat) := fun i hi => by
      have hi' : i < zs.length := by omega
      refine ⟨zs[i], List.getElem?_eq_getElem hi', ?_⟩
      have hw := hwf zs[i] (List.getElem_mem hi')
      simp [Lit.wf, IntKind.min, IntKind.max, IntKind.signed, IntKind.bits] at hw
      refine ⟨by omega, by omega, ?_⟩
      simp [b, hi, hi']
    refine ⟨.islc 1 (b.map byteE), b, ?_, fun σ => by simp [Bs, Rd, cont], rfl, hbl⟩
    have key : ∀ i, i < len → x.spot = none ∧ x.block < W.heap.size ∧ W.cell? ⟨x.block, x.off + i, none⟩ = some (.int .u8 (zs.getD i 0)) := fun i hi => by
      have h0 := hcell 0 (by omega)
      have hi' := hcell i (by omega)
      simp only [Addr.add, if_pos] at h0
      have hx : x.spot = none ∧ x.block < W.heap.size := by
        unfold World.cell? at h0
        split at h0
        · rename_i hh
          split at h0
          · simp at h0
          · rename_i hs
            refine ⟨by simpa using hs, ?_⟩
            rcases Nat.lt_or_ge x.block W.heap.size with h | h
            · exact h
            · rw [Array.getElem?_eq_none h] at hh; simp at hh
        · simp at h0
      refine ⟨hx.1, hx.2, ?_⟩
      rw [← hi']
      congr 1
      unfold Addr.add
      split
      · rename_i h; subst h
        cases x; simp_all
      · cases x; simp_all
    have hbm : (b.map byteE).length = len := by simp [hbl]
    have := Rel.islc (φ := φ0) (I := I0 W) (w := W) (z := 1) (es := b.map byteE) (b := x.block) (o := x.off) (cap := cap) (a := x) (cs := fun i _ => .int .u8 (zs.getD i 0))
      (by rw [hbm]; exact hl) (fun hne => ?_) (fun e he => ?_) (fun i j hi hj => ?_) (fun i j hi hj => rfl) ?_ (fun i j e v hi hj => ?_)
    · rw [hbm] at this; exact this
    · have h0 : 0 < len := by rw [← hbm]; exact List.length_pos_iff.2 hne
      obtain ⟨h1, h2, _⟩ := key 0 h0
      exact ⟨by cases x; simp_all, h2⟩
    · obtain ⟨c, _, rfl⟩ := List.mem_map.1 he
      rfl
    · rw [hbm] at hi
      obtain rfl : j = 0 := by omega
      rw [Nat.mul_one, Nat.add_zero]
      exact (key i hi).2.2
    · simp [byteE, V.pure]
    · have hil : i < len := by rw [← hbm]; exact (List.getElem?_eq_some_iff.1 hi).1
      obtain ⟨n, h1, h2, h3, h4⟩ := hget i hil
      rw [List.getElem?_map, h4] at hi
      simp at hi
      subst hi
      have hj0 : j = 0 := by
        have := (List.getElem?_eq_some_iff.1 hj).1
        simp [byteE] at this; exact this
      subst hj0
      simp [byteE] at hj
      subst hj
      have hzs : zs.getD i 0 = n := by simp [h1]
      rw [hzs]
      have hmx : max n 0 % 256 = n := by omega
      simp [hmx]
      exact .int _ _
end Go.Proofs.YtmjbnfldehbmcaaDoor.Ab
