/-
The walk over the program's texts, told with what its values say: a part of it. No further condition.
-/
import Derived.Test.YtmjbnfldehbmcaaDoorAbC
namespace Go.Proofs.YtmjbnfldehbmcaaDoor.Ab
open Go.RowKit
set_option linter.unusedVariables false
set_option linter.unusedSimpArgs false
section
variable {P : Program} {φ : Phi} {I : Nat → Prop} {σ : St} {w w' : World} {nt : Nat} {env : Env} {a : Act}
theorem bytes_row (s : ByteArray) (rest : Array Value) : (∀ i j e v, (s.data.toList.map byteE)[i]? = some e → e[j]? = some v → Rel φ I w v (((s.data.map fun b => Value.int .u8 b.toNat) ++ rest).getD (i * 1 + j) undef)) ∧
    (∀ i j, i < (s.data.toList.map byteE).length → j < 1 → (((s.data.map fun b => Value.int .u8 b.toNat) ++ rest).getD (i * 1 + j) undef).oneCell' = true) ∧ (∀ e ∈ s.data.toList.map byteE, e.length = 1) := by
  have hg : ∀ i, (hi : i < s.data.size) → ((s.data.map fun b => Value.int .u8 b.toNat) ++ rest).getD i undef = .int .u8 s.data[i].toNat := fun i hi => by
    have hi2 : i < s.size := hi
    simp [Array.getElem?_append, hi, hi2]
  refine ⟨fun i j e v h1 h2 => ?_, fun i j h1 h2 => ?_, fun e he => ?_⟩
  · simp only [List.getElem?_map, Option.map_eq_some_iff] at h1
    obtain ⟨b, hb, rfl⟩ := h1
    obtain ⟨hi, hbe⟩ := List.getElem?_eq_some_iff.1 hb
    have hi' : i < s.data.size := by simpa using hi
    cases j with
    | zero =>
      simp [byteE] at h2
      subst h2
      rw [Nat.mul_one, Nat.add_zero, hg i hi']
      have : s.data[i] = b := by simpa using hbe
      rw [this]
      exact .int _ _
    | succ j => simp [byteE] at h2
  · have hi' : i < s.data.size := by simpa using h1
    have : j = 0 := by omega
    subst this
    rw [Nat.mul_one, Nat.add_zero, hg i hi']
    rfl
  · simp only [List.mem_map] at he
    obtain ⟨b, _, rfl⟩ := he
    rfl
theorem acts_s2b {o : Oper} {s t e : TypeId} {x : Operand} {x' : Opd} {v : V} {σ' : St} (ho : o.op = .convert s t x) (hs : P.underlying s = some .string) (ht : P.underlying t = some (.slice e)) (he8 : P.underlying e = some (.int .u8))
    (hS : Sim φ I σ w) (hf : EnvR φ I w nt env a) (hx : cOpd nt x = some x') (he : evI env σ (.s2b x') = some (v, σ')) : Acts P φ I σ w a o v σ' := by
  have h := cOpd_rel hf hx
  obtain ⟨dst, op', ty, pos, after, guard⟩ := o
  simp only at ho; subst ho
  simp only [evI] at he
  split at he <;> simp only [Option.some.injEq, Prod.mk.injEq, reduceCtorEq] at he
  rename_i l e1
  rw [e1] at h
  obtain ⟨b, hb, rfl⟩ := h.str_inv
  obtain ⟨rfl, rfl⟩ := he
  let q : Question := .appendCap b.size 0 e
  let cap := q.cut (w.tape w.drawn q)
  have hcap : b.size ≤ cap := by show b.size ≤ b.size + _; exact Nat.le_add_right _ _
  let arr : Array Value := (b.data.map fun b => Value.int .u8 b.toNat) ++ Array.replicate (cap - b.size) (.int .u8 0)
  have hasz : arr.size = cap := by simp only [arr, Array.size_append, Array.size_map, Array.size_replicate]; have : b.data.size = b.size := rfl; omega
  let w1 : World := { w with heap := w.heap.push (.cells arr e (arr.size, arr.size + 1)), drawn := w.drawn + 1 }
  obtain ⟨c1, c2, c3⟩ := bytes_row (φ := φ) (I := I) (w := w) b (Array.replicate (cap - b.size) (.int .u8 0))
  obtain ⟨q1, q2⟩ := row_new (w' := w1) (t := e) (fz := (arr.size, arr.size + 1)) hS rfl ⟨rfl, rfl, rfl⟩ (.inr (Nat.le_refl _)) (z := 1) (by omega) c3 (by rw [hasz]; simp; exact hcap) c2 c1
  have hlen : b.data.toList.length = b.size := by simp
  have hrel := new_rel (w' := w1) (t := e) (fz := (arr.size, arr.size + 1)) (z := 1) (len := b.size) (cap := cap) hS rfl hcap (by rw [hasz, Nat.mul_one])
  refine ⟨.slice (some ⟨w.heap.size, 0, none⟩) b.size cap, w1, _, _, .inl ?_, by rw [hlen]; exact hrel, q1, q2⟩
  have hfo : q.forced = false := rfl
  have hrun : (Conv.stringToBytes e b).run P w = .ok (.slice (some ⟨w.heap.size, 0, none⟩) b.size cap) w1 := by
    unfold Conv.stringToBytes
    rw [Sem.run_bind, run_choose, if_neg (by show ¬ (q.forced = true); rw [hfo]; simp)]
    simp only [Result.andThen_ok, newRow, Sem.run_bind, run_newObj, Sem.run_pure, markStringish, run_shape]
    have hsh : World.shape? { heap := w.heap.push (.cells arr e (0, 0)), tape := w.tape, drawn := w.drawn + 1, os := w.os, output := w.output } w.heap.size = some (e, arr.size) := by simp [World.shape?]
    have hfz : World.freeze { heap := w.heap.push (.cells arr e (0, 0)), tape := w.tape, drawn := w.drawn + 1, os := w.os, output := w.output } ⟨w.heap.size, arr.size, none⟩ 1 = w1 := by
      unfold World.freeze
      rw [if_neg (by simp)]
      simp only [w1]
      congr 1
      apply Array.ext_getElem?
      intro i
      simp only [Array.getElem?_modify, Array.getElem?_push]
      by_cases hi : w.heap.size = i
      · subst hi; simp
      · simp [hi, Ne.symm hi]
    show (Sem.run P (match World.shape? { heap := w.heap.push (.cells arr e (0, 0)), tape := w.tape, drawn := w.drawn + 1, os := w.os, output := w.output } w.heap.size with | some (_, n) => freeze ⟨w.heap.size, n, none⟩ 1 | x => pure ()) _).andThen _ = _
    rw [hsh]
    simp only [run_freeze, Result.andThen_ok]
    rw [hfz]
  simp only [execOp, hb, convert, Sem.run_bind, run_underlying hs, run_underlying ht, Result.andThen_ok, run_underlying he8]
  rw [hrun]
  rfl
theorem set_same {σ : St} {l : Nat} {b : Blk} (h : σ.H l = some b) : σ.set l b = σ := by
  cases σ with
  | mk H n W =>
    simp only [St.set, St.mk.injEq, and_true]
    funext k
    simp only [upd]
    split
    · rename_i e; rw [e]; exact h.symm
    · rfl
theorem acts_b2b {o : Oper} {s e e' : TypeId} {x : Operand} {x' : Opd} {v : V} {σ' : St} (ho : o.op = .convert s s x) (hs1 : P.underlying s = some (.slice e')) (hs2 : P.underlying s = some (.slice e)) (he8 : P.underlying e = some (.int .u8))
    (hs : Sim φ I σ w) (hf : EnvR φ I w nt env a) (hx : cOpd nt x = some x') (he : evI env σ (.b2b x') = some (v, σ')) : Acts P φ I σ w a o v σ' := by
  have h := cOpd_rel hf hx
  obtain ⟨dst, op', ty, pos, after, guard⟩ := o
  simp only at ho; subst ho
  simp only [evI] at he
  split at he <;> (try (simp only [reduceCtorEq] at he; done))
  rename_i l off len e1
  split at he <;> (try (simp only [reduceCtorEq] at he; done))
  rename_i z es hH
  split at he <;> simp only [Option.some.injEq, Prod.mk.injEq, reduceCtorEq] at he
  rename_i hpos
  obtain ⟨rfl, rfl⟩ := he
  rw [e1] at h
  have h' := h
  generalize hq : a.eval x = q at h h'
  cases h with
  | slc hφ hl hN ha =>
    rename_i b base z' cap ad
    obtain ⟨b', base', arr, t, fz, q1, hh, hfz, hz, hzz, hsz, ho1, hr⟩ := hs.row hH
    rw [hφ] at q1
    simp only [Option.some.injEq, Prod.mk.injEq] at q1
    obtain ⟨rfl, rfl, rfl⟩ := q1
    have had := ha (by omega)
    subst had
    let fz' : Nat × Nat := if fz.1 == fz.2 then (arr.size, arr.size + 1) else (min fz.1 arr.size, max fz.2 (arr.size + 1))
    have hfz' : fits arr fz' := by
      unfold fits
      simp only [fz']
      rcases hfz with h | h
      · simp [h]
      · split
        · exact .inr (Nat.le_refl _)
        · right; simp; omega
    let w1 := w.freeze ⟨b, arr.size, none⟩ 1
    have g1 : w1.heap[b]? = some (.cells arr t fz') := by
      simp only [w1, World.freeze]
      rw [if_neg (by simp)]
      simp only [Array.getElem?_modify, if_true, hh, Option.map_some, fz']
    have g2 : ∀ k, k ≠ b → w1.heap[k]? = w.heap[k]? := fun k hk => by
      simp only [w1, World.freeze]
      rw [if_neg (by simp)]
      simp only [Array.getElem?_modify, if_neg (Ne.symm hk)]
    have g3 : w1.heap.size = w.heap.size := by
      simp only [w1, World.freeze]
      rw [if_neg (by simp)]
      simp
    have hNN : cellsOf w1 b = cellsOf w b := by simp [cellsOf, g1, hh]
    have hlv : (σ.H l).isSome = true := by rw [hH]; rfl
    have g6 : Same w w1 := by
      simp only [w1, World.freeze]
      rw [if_neg (by simp)]
      exact ⟨rfl, rfl, rfl⟩
    have kp : ∀ {v : V} {c : Value}, Rel φ I w v c → Rel φ I w1 v c := fun h => rel_turn hs hlv hφ g2 hNN (fun _ _ h => h) h
    obtain ⟨s1, s2⟩ := sim_turn hs hlv hφ g2 g3 hNN g6 (.row g1 hfz' hz hzz hsz ho1 fun i j e v h1 h2 => kp (hr i j e v h1 h2))
    rw [set_same hH] at s1 s2
    refine ⟨_, w1, φ, I, .inl ?_, kp h', s1, s2⟩
    have hsh : w.shape? b = some (t, arr.size) := by simp [World.shape?, hh]
    simp only [execOp, hq, convert, Sem.run_bind, run_underlying hs1, Result.andThen_ok]
    rw [hs1] at hs2
    obtain rfl : e' = e := by simpa using hs2
    simp [run_underlying he8, markStringish, hsh, Sem.run_bind]
    rfl
end
end Go.Proofs.YtmjbnfldehbmcaaDoor.Ab
