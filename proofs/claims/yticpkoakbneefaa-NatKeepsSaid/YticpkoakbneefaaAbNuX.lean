/-
The walk over the program's texts, told with what its values say: a part of it. No further condition.
-/
import Derived.Test.YticpkoakbneefaaAbLd
import Derived.Below
import Derived.WalkKit
import Derived.Deep.Slices
import Derived.ChangeArms
import Derived.DataReads
import Derived.WideShapes
import Derived.Carry
import Derived.OpenShut
import Derived.ChangeShapes
import Derived.Test.YticpkoakbneefaaAbNuV
namespace Go.Proofs.Yticpkoakbneefaa.Ab
open Go.RowKit
set_option linter.unusedVariables false
/-! The top: a law's call, at the arguments as they stand. -/
def σ0 (W : World) : St := ⟨fun _ => none, 0, W⟩
def φ0 : Phi := fun _ => none
def I0 (W : World) (b : Nat) : Prop := b < W.heap.size
theorem sim0 (W : World) : Sim φ0 (I0 W) (σ0 W) W :=
  ⟨fun l x h => by simp [φ0] at h, fun l x h => by simp [φ0] at h, fun l b h => by simp [σ0] at h, fun b ⟨l, x, h, _⟩ => by simp [σ0] at h, fun l l' x x' h => by simp [σ0] at h, fun b h => h, fun b h => ⟨h, rfl⟩⟩
theorem calls_top {P : Program} {k : FuncId} {vs : List V} {W : World} {args : Array Value} (hc : CCalls P k vs (σ0 W) (fun o _ => o = .ret (.bool true))) (hr : RelA φ0 (I0 W) W vs args) :
    Calls P k args W fun e w' => e = .returned (.bool true) ∧ Below W.heap.size W w' := by
  refine (hc _ _ _ _ (sim0 W) hr).mono ?_
  rintro e w' ⟨o, σ', φ', I', rfl, ho, he, hs⟩
  cases ho with
  | ret h =>
    refine ⟨by rw [h.bool_inv], he.os, he.tape, he.output, he.size, fun b hb => he.frame b hb ?_⟩
    rintro ⟨l, x, h, _⟩
    simp [σ0] at h
/-- A slice of bytes. -/
theorem rel_bytes {W : World} {a : Option Addr} {len cap : Nat} {zs : List Int}
    (h : (a = none ∧ len = 0 ∧ cap = 0 ∧ zs = []) ∨ ∃ x, a = some x ∧ len ≤ cap ∧ cap ≤ maxLen ∧ zs.length = cap ∧ (∀ i, i < zs.length → W.cell? (x.add i) = some (.int .u8 (zs.getD i 0))) ∧ ∀ n ∈ zs, (Lit.int .u8 n).wf = true) :
    ∃ v b, Rel φ0 (I0 W) W v (.slice a len cap) ∧ (∀ σ, Bs σ v b) ∧ v.row = none ∧ b.length = len := by
  rcases h with ⟨rfl, rfl, rfl, rfl⟩ | ⟨x, rfl, hl, hm, hz, hcell, hwf⟩
  · exact ⟨.nils, [], .nils, fun σ => rfl, rfl, rfl⟩
  · let b : List UInt8 := (zs.take len).map fun n => UInt8.ofNat n.toNat
    have hbl : b.length = len := by simp [b]; omega
    have hget : ∀ i, i < len → ∃ n, zs[i]? = some n ∧ 0 ≤ n ∧ n < 256 ∧ b[i]? = some (UInt8.ofNat n.toNat) := fun i hi => by
      have hi' : i < zs.length := by omega
      refine ⟨zs[i], List.getElem?_eq_getElem hi', ?_⟩
      have hw := hwf zs[i] (List.getElem_mem hi')
      simp [Lit.wf, IntKind.min, IntKind.max, IntKind.signed, IntKind.bits] at hw
      refine ⟨by omega, by omega, ?_⟩
      simp [b, hi, hi']
    refine ⟨.islc 1 (b.map byteE), b, ?_, fun σ => by simp [Bs, Rd, cont], rfl, hbl⟩
    have key : ∀ i, i < len → x.spot = none ∧ x.block < W.heap.size ∧ W.cell? ⟨x.block, x.off + i, none⟩ = some (.int .u8 (zs.getD i 0)) := fun i hi => by
      have h0 := hcell 0 (by omega)
      have hi' := hcell i (by omega)
      simp only [Addr.add, if_pos] at h0
      have hx : x.spot = none ∧ x.block < W.heap.size := by
        unfold World.cell? at h0
        split at h0
        · rename_i hh
          split at h0
          · simp at h0
          · rename_i hs
            refine ⟨by simpa using hs, ?_⟩
            rcases Nat.lt_or_ge x.block W.heap.size with h | h
            · exact h
            · rw [Array.getElem?_eq_none h] at hh; simp at hh
        · simp at h0
      refine ⟨hx.1, hx.2, ?_⟩
      rw [← hi']
      congr 1
      unfold Addr.add
      split
      · rename_i h; subst h
        cases x; simp_all
      · cases x; simp_all
    have hbm : (b.map byteE).length = len := by simp [hbl]
    have := Rel.islc (φ := φ0) (I := I0 W) (w := W) (z := 1) (es := b.map byteE) (b := x.block) (o := x.off) (cap := cap) (a := x) (cs := fun i _ => .int .u8 (zs.getD i 0))
      (by rw [hbm]; exact hl) (fun hne => ?_) (fun e he => ?_) (fun i j hi hj => ?_) (fun i j hi hj => rfl) ?_ (fun i j e v hi hj => ?_)
    · rw [hbm] at this; exact this
    · have h0 : 0 < len := by rw [← hbm]; exact List.length_pos_iff.2 hne
      obtain ⟨h1, h2, _⟩ := key 0 h0
      exact ⟨by cases x; simp_all, h2⟩
    · obtain ⟨c, _, rfl⟩ := List.mem_map.1 he
      rfl
    · rw [hbm] at hi
      obtain rfl : j = 0 := by omega
      rw [Nat.mul_one, Nat.add_zero]
      exact (key i hi).2.2
    · simp [byteE, V.pure]
    · have hil : i < len := by rw [← hbm]; exact (List.getElem?_eq_some_iff.1 hi).1
      obtain ⟨n, h1, h2, h3, h4⟩ := hget i hil
      rw [List.getElem?_map, h4] at hi
      simp at hi
      subst hi
      have hj0 : j = 0 := by
        have := (List.getElem?_eq_some_iff.1 hj).1
        simp [byteE] at this; exact this
      subst hj0
      simp [byteE] at hj
      subst hj
      have hzs : zs.getD i 0 = n := by simp [h1]
      rw [hzs]
      have hmx : max n 0 % 256 = n := by omega
      simp [hmx]
      exact .int _ _
end Go.Proofs.Yticpkoakbneefaa.Ab
namespace Go.Proofs.Yticpkoakbneefaa.Ab
open Go.RowKit
set_option linter.unusedVariables false
/-! The arguments of a law: any data of numbers, texts, truths, structs and rows of these. -/
/-- The cells of a type, one behind the other. -/
inductive CT where
  | nil
  | bool (r : CT)
  | int (k : IntKind) (r : CT)
  | str (r : CT)
  | slc (row : CT) (r : CT)
def CT.len : CT → Nat
  | .nil => 0
  | .bool r | .int _ r | .str r | .slc _ r => r.len + 1
def CT.app : CT → CT → CT
  | .nil, s => s
  | .bool r, s => .bool (r.app s)
  | .int k r, s => .int k (r.app s)
  | .str r, s => .str (r.app s)
  | .slc w r, s => .slc w (r.app s)
def Typed : CT → List V → Prop
  | .nil, vs => vs = []
  | .bool r, vs => ∃ b vs', vs = .bool b :: vs' ∧ Typed r vs'
  | .int k r, vs => ∃ n vs', vs = .int k n :: vs' ∧ (k.min ≤ n ∧ n ≤ k.max) ∧ Typed r vs'
  | .str r, vs => ∃ s vs', vs = .str s :: vs' ∧ s.length ≤ maxLen ∧ Typed r vs'
  | .slc w r, vs => ∃ u vs', vs = u :: vs' ∧ (u = .nils ∨ ∃ es, u = .islc w.len es ∧ es.length ≤ maxLen ∧ ∀ e ∈ es, Typed w e) ∧ Typed r vs'
theorem Typed.len : ∀ {c : CT} {vs : List V}, Typed c vs → vs.length = c.len
  | .nil, vs, h => by simp [Typed] at h; simp [h, CT.len]
  | .bool r, vs, h => by obtain ⟨b, vs', rfl, h⟩ := h; simp [CT.len, h.len]
  | .int k r, vs, h => by obtain ⟨b, vs', rfl, _, h⟩ := h; simp [CT.len, h.len]
  | .str r, vs, h => by obtain ⟨b, vs', rfl, _, h⟩ := h; simp [CT.len, h.len]
  | .slc w r, vs, h => by obtain ⟨b, vs', rfl, _, h⟩ := h; simp [CT.len, h.len]
theorem Typed.app : ∀ {c d : CT} {vs us : List V}, Typed c vs → Typed d us → Typed (c.app d) (vs ++ us)
  | .nil, d, vs, us, h, k => by simp [Typed] at h; simp [h, CT.app, k]
  | .bool r, d, vs, us, h, k => by obtain ⟨b, vs', rfl, h⟩ := h; exact ⟨b, vs' ++ us, rfl, h.app k⟩
  | .int _ r, d, vs, us, h, k => by obtain ⟨b, vs', rfl, h1, h⟩ := h; exact ⟨b, vs' ++ us, rfl, h1, h.app k⟩
  | .str r, d, vs, us, h, k => by obtain ⟨b, vs', rfl, h1, h⟩ := h; exact ⟨b, vs' ++ us, rfl, h1, h.app k⟩
  | .slc w r, d, vs, us, h, k => by obtain ⟨b, vs', rfl, h1, h⟩ := h; exact ⟨b, vs' ++ us, rfl, h1, h.app k⟩
theorem CT.app_len : ∀ (c d : CT), (c.app d).len = c.len + d.len
  | .nil, d => by simp [CT.app, CT.len]
  | .bool r, d | .int _ r, d | .str r, d | .slc _ r, d => by simp [CT.app, CT.len, CT.app_len r d]; omega
/-- A struct's fields: one behind the other, and all that there is. -/
def ctFs (P : Program) (ct : TypeId → Option CT) : Nat → List Field → Option CT
  | _, [] => some .nil
  | o, f :: fs => if f.offset = o then (ct f.type).bind fun c => if c.len = P.cellsOf f.type then (ctFs P ct (o + c.len) fs).map (c.app ·) else none else none
def ctOf (P : Program) : Nat → TypeId → Option CT
  | 0, _ => none
  | n + 1, t => match P.underlying t with
    | some .bool => some (.bool .nil)
    | some (.int k) => some (.int k .nil)
    | some .string => some (.str .nil)
    | some (.slice e) => (ctOf P n e).bind fun w => if 0 < w.len ∧ w.len = P.cellsOf e then some (.slc w .nil) else none
    | some (.struct fs) => (ctFs P (ctOf P n) 0 fs.toList).bind fun c => if c.len = P.cellsOf t then some c else none
    | _ => none
def RelL (W : World) (vs : List V) (cs : List Value) : Prop :=
  vs.length = cs.length ∧ ∀ (i : Nat) (v : V) (c : Value), vs[i]? = some v → cs[i]? = some c → Rel φ0 (I0 W) W v c ∧ c.oneCell' = true ∧ v.pure = true
theorem RelL.one {W : World} {v : V} {c : Value} (h : Rel φ0 (I0 W) W v c) (hc : c.oneCell' = true) (hp : v.pure = true) : RelL W [v] [c] :=
  ⟨rfl, fun i v' c' h1 h2 => by
    cases i with
    | zero => simp at h1 h2; subst h1; subst h2; exact ⟨h, hc, hp⟩
    | succ i => simp at h1⟩
theorem RelL.app {W : World} {vs us : List V} {cs ds : List Value} (h : RelL W vs cs) (k : RelL W us ds) : RelL W (vs ++ us) (cs ++ ds) :=
  ⟨by simp [h.1, k.1], fun i v c h1 h2 => by
    by_cases hi : i < vs.length
    · rw [List.getElem?_append_left hi] at h1
      rw [List.getElem?_append_left (by rw [← h.1]; exact hi)] at h2
      exact h.2 i v c h1 h2
    · rw [List.getElem?_append_right (by omega)] at h1
      rw [List.getElem?_append_right (by rw [← h.1]; omega), ← h.1] at h2
      exact k.2 _ v c h1 h2⟩
theorem rows_of {Q : Nat → List V → Prop} : ∀ (n : Nat), (∀ i, i < n → ∃ e, Q i e) → ∃ es : List (List V), es.length = n ∧ ∀ (i : Nat) e, es[i]? = some e → Q i e
  | 0, _ => ⟨[], rfl, fun i e h => by simp at h⟩
  | n + 1, h => by
    obtain ⟨es, h1, h2⟩ := rows_of n fun i hi => h i (by omega)
    obtain ⟨e, he⟩ := h n (by omega)
    refine ⟨es ++ [e], by simp [h1], fun i e' hi => ?_⟩
    by_cases hl : i < es.length
    · rw [List.getElem?_append_left hl] at hi; exact h2 i e' hi
    · rw [List.getElem?_append_right (by omega)] at hi
      have : i - es.length = 0 := by
        rcases Nat.eq_zero_or_pos (i - es.length) with h | h
        · exact h
        · rw [List.getElem?_eq_none (by simp; omega)] at hi; simp at hi
      rw [this] at hi; simp at hi; subst hi
      rw [show i = n by omega]; exact he
theorem cell_at {W : World} {a : Addr} {c : Value} (h : W.cell? a = some c) : a.spot = none ∧ a.block < W.heap.size := by
  unfold World.cell? at h
  split at h
  · rename_i hh
    split at h
    · simp at h
    · rename_i hs
      refine ⟨by simpa using hs, ?_⟩
      rcases Nat.lt_or_ge a.block W.heap.size with h' | h'
      · exact h'
      · rw [Array.getElem?_eq_none h'] at hh; simp at hh
  · simp at h
theorem add_at {a : Addr} (hs : a.spot = none) (k : Nat) : a.add k = ⟨a.block, a.off + k, none⟩ := by
  unfold Addr.add
  split
  · rename_i h; subst h; cases a; simp_all
  · rfl
section
variable {H : Type} {enc : TypeId × Value → H} {P : Program} {W : World} {sp : Nat → Bool} {held : Bool}
theorem read_fs {ct : TypeId → Option CT} {n : Nat} {cs : List Value} (hct : ∀ t c cs x, ct t = some c → DataW.trod enc P W 0 sp held n t cs = some x → ∃ vs, RelL W vs cs ∧ Typed c vs) :
    ∀ (fs : List Field) (o : Nat) (c : CT), ctFs P ct o fs = some c → (∀ f ∈ fs, ∃ x, DataW.trod enc P W 0 sp held n f.type ((cs.drop f.offset).take (P.cellsOf f.type)) = some x) →
      ∃ vs, RelL W vs ((cs.drop o).take c.len) ∧ Typed c vs
  | [], o, c, h, _ => by
    simp only [ctFs, Option.some.injEq] at h; subst h
    exact ⟨[], ⟨by simp [CT.len], fun i v c h => by simp at h⟩, rfl⟩
  | f :: fs, o, c, h, hf => by
    simp only [ctFs] at h
    split at h
    · rename_i ho
      obtain ⟨c1, hc1, h⟩ := Option.bind_eq_some_iff.1 h
      split at h
      · rename_i hl
        obtain ⟨c2, hc2, rfl⟩ := Option.map_eq_some_iff.1 h
        obtain ⟨x, hx⟩ := hf f (by simp)
        obtain ⟨v1, r1, t1⟩ := hct _ _ _ _ hc1 hx
        obtain ⟨v2, r2, t2⟩ := read_fs hct fs _ c2 hc2 fun g hg => hf g (by simp [hg])
        refine ⟨v1 ++ v2, ?_, t1.app t2⟩
        have := r1.app r2
        rw [CT.app_len]
        rw [ho, ← hl, ← List.drop_drop] at this
        rwa [List.take_add]
      · simp at h
    · simp at h
theorem read : ∀ (n : Nat) (fuel : Nat) (t : TypeId) (c : CT) (cs : List Value) (x : DataW H × List MemPlace), ctOf P n t = some c → DataW.trod enc P W 0 sp held fuel t cs = some x → ∃ vs, RelL W vs cs ∧ Typed c vs
  | 0, _, _, _, _, _, h, _ => by simp [ctOf] at h
  | n + 1, fuel, t, c, cs, x, h, hx => by
    simp only [ctOf] at h
    split at h
    · rename_i ht
      simp only [Option.some.injEq] at h; subst h
      obtain ⟨b, rfl, _⟩ := DataW.trod_bool ht hx
      exact ⟨[.bool b], .one (.bool b) rfl rfl, b, [], rfl, rfl⟩
    · rename_i k ht
      simp only [Option.some.injEq] at h; subst h
      obtain ⟨b, rfl, _, hw⟩ := DataW.trod_int ht hx
      simp only [Lit.wf, Bool.and_eq_true, decide_eq_true_eq] at hw
      exact ⟨[.int k b], .one (.int k b) rfl rfl, b, [], rfl, hw, rfl⟩
    · rename_i ht
      simp only [Option.some.injEq] at h; subst h
      obtain ⟨s, rfl, _, hm⟩ := DataW.trod_string ht hx
      exact ⟨[.str s.data.toList], .one (.str rfl) rfl rfl, _, [], rfl, by simpa using hm, rfl⟩
    · rename_i e ht
      obtain ⟨w, hw, h⟩ := Option.bind_eq_some_iff.1 h
      split at h
      · rename_i hl
        simp only [Option.some.injEq] at h; subst h
        rcases Deep.open_slice ht hx with ⟨rfl, _⟩ | ⟨a, len, cap, m, k, D, Pl, rfl, _, hlc, hcm, hmm, _, hel⟩
        · exact ⟨[.nils], .one .nils rfl rfl, .nils, [], rfl, .inl rfl, rfl⟩
        · have hlm : len ≤ m := by rw [hmm]; split <;> omega
          obtain ⟨es, hes, hq⟩ := rows_of (Q := fun i e' => ∃ cs', W.cells? 0 (a.add (i * P.cellsOf e)) (P.cellsOf e) = some cs' ∧ RelL W e' cs' ∧ Typed w e') len fun i hi => by
            obtain ⟨cs', h1, h2⟩ := hel i (by omega)
            obtain ⟨vs, h3, h4⟩ := read n _ _ _ _ _ hw h2
            exact ⟨vs, cs', h1, h3, h4⟩
          have cel : ∀ i j e', es[i]? = some e' → j < w.len → ∃ c v, W.cell? (a.add (i * w.len + j)) = some c ∧ e'[j]? = some v ∧ Rel φ0 (I0 W) W v c ∧ c.oneCell' = true ∧ v.pure = true := fun i j e' hi hj => by
            obtain ⟨cs', h1, h2, h3⟩ := hq i e' hi
            obtain ⟨_, h4, h5⟩ := World.cells?_some h1
            have hjl : j < cs'.length := by rw [h4, ← hl.2]; exact hj
            have hc : cs'[j]? = some cs'[j] := List.getElem?_eq_getElem hjl
            have hv : e'[j]? = some (e'[j]'(by rw [h3.len]; exact hj)) := List.getElem?_eq_getElem _
            refine ⟨_, _, ?_, hv, h2.2 j _ _ hv hc⟩
            have := h5 j (by rw [← h4]; exact hjl)
            rw [hc, ← hl.2] at this
            have aa : (a.add (i * w.len)).add j = a.add (i * w.len + j) := by
              unfold Addr.add
              by_cases h1 : i * w.len = 0 <;> by_cases h2 : j = 0 <;> simp [h1, h2, Nat.add_assoc]
            rw [aa] at this
            exact this
          have hsp : es ≠ [] → a.spot = none ∧ a.block < W.heap.size := fun hne => by
            have h0 : 0 < es.length := List.length_pos_iff.2 hne
            obtain ⟨c, v, h1, _⟩ := cel 0 0 _ (List.getElem?_eq_getElem h0) hl.1
            have := cell_at h1
            simpa [Addr.add] using this
          have hidx : ∀ i j, i < es.length → a.add (i * w.len + j) = ⟨a.block, a.off + i * w.len + j, none⟩ := fun i j hi => by
            rw [add_at (hsp (fun e => by simp [e] at hi)).1, Nat.add_assoc]
          have key := Rel.islc (φ := φ0) (I := I0 W) (w := W) (z := w.len) (es := es) (b := a.block) (o := a.off) (cap := cap) (a := a) (cs := fun i j => (W.cell? ⟨a.block, a.off + i * w.len + j, none⟩).getD undef)
            (by omega) (fun hne => ⟨by cases a; have := (hsp hne).1; simp_all, (hsp hne).2⟩) (fun e' he => by
              obtain ⟨i, hi⟩ := List.mem_iff_getElem?.1 he
              obtain ⟨_, _, _, h3⟩ := hq i e' hi
              exact h3.len)
            (fun i j hi hj => by
              obtain ⟨c, v, h1, _⟩ := cel i j _ (List.getElem?_eq_getElem hi) hj
              rw [hidx i j hi] at h1; rw [h1]; rfl)
            (fun i j hi hj => by
              obtain ⟨c, v, h1, _, _, h4, _⟩ := cel i j _ (List.getElem?_eq_getElem hi) hj
              rw [hidx i j hi] at h1; simp only [h1]; exact h4)
            (by
              rw [List.all_eq_true]; intro e' he
              obtain ⟨i, hi⟩ := List.mem_iff_getElem?.1 he
              rw [List.all_eq_true]; intro v hv
              obtain ⟨j, hj⟩ := List.mem_iff_getElem?.1 hv
              obtain ⟨_, _, h2, h3⟩ := hq i e' hi
              have hjl := (List.getElem?_eq_some_iff.1 hj).1
              rw [h3.len] at hjl
              obtain ⟨c, v', _, h1, _, _, h5⟩ := cel i j e' hi hjl
              rw [hj] at h1; simp at h1; subst h1; exact h5)
            (fun i j e' v hi hj => by
              have hil := (List.getElem?_eq_some_iff.1 hi).1
              obtain ⟨_, _, h2, h3⟩ := hq i e' hi
              have hjl := (List.getElem?_eq_some_iff.1 hj).1
              rw [h3.len] at hjl
              obtain ⟨c, v', h0, h1, h4, _, _⟩ := cel i j e' hi hjl
              rw [hj] at h1; simp at h1; subst h1
              rw [hidx i j hil] at h0; simp only [h0]; exact h4)
          rw [hes] at key
          refine ⟨[.islc w.len es], .one key rfl rfl, _, [], rfl, .inr ⟨es, rfl, by omega, fun e' he => ?_⟩, rfl⟩
          obtain ⟨i, hi⟩ := List.mem_iff_getElem?.1 he
          obtain ⟨_, _, _, h3⟩ := hq i e' hi
          exact h3
      · simp at h
    · rename_i fs ht
      obtain ⟨c', hc', h⟩ := Option.bind_eq_some_iff.1 h
      split at h
      · rename_i hl
        simp only [Option.some.injEq] at h; subst h
        obtain ⟨xs, k, _, _, hlen, hxs, hf⟩ := DataW.trod_struct ht hx
        obtain ⟨vs, h1, h2⟩ := read_fs (cs := cs) (ct := ctOf P n) (n := k) (fun t c cs x hc hx => read n k t c cs x hc hx) fs.toList 0 c' hc' (fun f hf' => by
          obtain ⟨i, hi⟩ := List.mem_iff_getElem?.1 hf'
          have hi' : fs[i]? = some f := by simpa using hi
          have := hf i f hi'
          have hil : i < xs.length := by rw [hxs]; exact (Array.getElem?_eq_some_iff.1 hi').1
          rw [List.getElem?_eq_getElem hil] at this
          exact ⟨_, this⟩)
        refine ⟨vs, ?_, h2⟩
        rw [hl, ← hlen] at h1
        simpa using h1
      · simp at h
    · simp at h
end
/-! A law's arguments. -/
inductive AT where
  | one (c : CT)
  | agg (c : CT)
def atOf (P : Program) (n : Nat) (t : TypeId) : Option AT :=
  (ctOf P n t).bind fun c => (P.underlying t).map fun d => if isAggD d then .agg c else .one c
def TypedU : AT → V → Prop
  | .one c, u => Typed c [u]
  | .agg c, u => ∃ xs, u = .agg xs ∧ Typed c xs
def TypedA : List AT → List V → Prop
  | [], us => us = []
  | a :: atl, us => ∃ u us', us = u :: us' ∧ TypedU a u ∧ TypedA atl us'
section
open WideShapes ChangeShapes
variable {H : Type} {enc : TypeId × Value → H} {P : Program} {W : World} {sp : Nat → Bool} {held : Bool} {base : Nat}
theorem read1 {n : Nat} {t : TypeId} {v : Value} {d : DataW H} {ps : List MemPlace} {a : AT} (ha : atOf P n t = some a) (hv : Value.okWide P W .any base t v) (h : DataW.Trod enc P W 0 sp held t v d ps) : ∃ u, Rel φ0 (I0 W) W u v ∧ TypedU a u := by
  obtain ⟨fuel, h⟩ := h
  simp only [atOf, Option.bind_eq_some_iff, Option.map_eq_some_iff] at ha
  obtain ⟨c, hc, dsc, hd, rfl⟩ := ha
  obtain ⟨vs, hr, ht⟩ := read n fuel t c _ _ hc h
  have single : v.cells.toList = [v] → isAggD dsc = false → ∃ u, Rel φ0 (I0 W) W u v ∧ TypedU (if isAggD dsc then AT.agg c else AT.one c) u := fun hv1 hag => by
    rw [hv1] at hr
    match vs, hr.1 with
    | [u], _ => exact ⟨u, (hr.2 0 u v rfl rfl).1, by rw [hag]; exact ht⟩
  cases n with
  | zero => simp [ctOf] at hc
  | succ n =>
    simp only [ctOf, hd] at hc
    cases dsc <;> simp only [reduceCtorEq] at hc
    case bool => obtain ⟨b, rfl⟩ := okWide_bool hd hv; exact single rfl rfl
    case int => obtain ⟨b, rfl⟩ := okWide_int hd hv; exact single rfl rfl
    case string => obtain ⟨b, rfl⟩ := okWide_string hd hv; exact single rfl rfl
    case slice => obtain ⟨a, b, c, rfl⟩ := okWide_slice hd hv; exact single rfl rfl
    case struct =>
      obtain ⟨cs, rfl, _⟩ := okWide_struct hd hv
      refine ⟨.agg vs, .agg (by simpa [Value.cells] using hr.1.symm) (fun i u hu => ?_), vs, rfl, ht⟩
      have hi := (List.getElem?_eq_some_iff.1 hu).1
      have hc : cs.toList[i]? = some (cs.getD i undef) := by
        have : i < cs.size := by have := hr.1; simp [Value.cells] at this; omega
        simp [this]
      exact (hr.2 i u _ hu hc).1
theorem readA {n : Nat} : ∀ {ts : List TypeId} {vs : List Value} {ds : List (DataW H)} {ps : List MemPlace} {atl : List AT}, ts.mapM (atOf P n) = some atl → (∀ (j : Nat) t v, ts[j]? = some t → vs[j]? = some v → Value.okWide P W .any base t v) →
    DataW.TrodAll enc P W 0 sp held ts vs ds ps → ∃ us : List V, (vs.length = us.length ∧ ∀ (i : Nat) u, us[i]? = some u → Rel φ0 (I0 W) W u (vs.getD i undef)) ∧ TypedA atl us
  | [], vs, ds, ps, atl, ha, hv, h => by
    obtain ⟨rfl, _, _⟩ := trodAll_nil h
    simp at ha; subst ha
    exact ⟨[], ⟨rfl, fun i u h => by simp at h⟩, rfl⟩
  | t :: ts, vs, ds, ps, atl, ha, hv, h => by
    obtain ⟨v, vs, d, ds, p, q, rfl, rfl, rfl, h1, h2⟩ := trodAll_cons h
    rw [List.mapM_cons] at ha
    simp only [Option.bind_eq_bind, Option.bind_eq_some_iff, Option.pure_def, Option.some.injEq] at ha
    obtain ⟨a, ha1, atl', ha2, rfl⟩ := ha
    obtain ⟨u, hu1, hu2⟩ := read1 ha1 (hv 0 t v rfl rfl) h1
    obtain ⟨us, ⟨hl, hus⟩, hus2⟩ := readA ha2 (fun j t' v' h3 h4 => hv (j + 1) t' v' (by simpa using h3) (by simpa using h4)) h2
    refine ⟨u :: us, ⟨by simp [hl], fun i w hw => ?_⟩, u, us, rfl, hu2, hus2⟩
    cases i with
    | zero => simp at hw; subst hw; exact hu1
    | succ i => simpa using hus i w (by simpa using hw)
theorem trodAll_below (hl : laidOutB P = true) {W' : World} (hb : Below W.heap.size W W') : ∀ {ts : List TypeId} {vs : List Value} {ds : List (DataW H)} {ps : List MemPlace}, (∀ t ∈ ts, P.readableRec t = true ∧ t < P.types.size) →
    DataW.TrodAll enc P W 0 (fun _ => true) true ts vs ds ps → DataW.TrodAll enc P W' 0 (fun b => decide (b < W.heap.size)) true ts vs ds ps
  | [], vs, ds, ps, _, h => by
    obtain ⟨rfl, rfl, rfl⟩ := trodAll_nil h
    exact trodAll_mk0
  | t :: ts, vs, ds, ps, ht, h => by
    obtain ⟨v, vs, d, ds, p, q, rfl, rfl, rfl, h1, h2⟩ := trodAll_cons h
    obtain ⟨ht1, ht2⟩ := ht t (by simp)
    have lt : ∀ x ∈ p, x.block < W.heap.size := by obtain ⟨m, hm⟩ := h1; exact DataW.trod_lt m _ _ _ hm
    exact trodAll_cons_mk (Below.trod hl ht1 ht2 h1 hb lt) (trodAll_below hl hb (fun t h => ht t (by simp [h])) h2)
/-- A law's call, whatever the arguments. -/
theorem law_top {k : FuncId} {n : Nat} {ts : List TypeId} {vs : List Value} {ds : List (DataW H)} {ps : List MemPlace} {ats : List AT} (hl : laidOutB P = true) (has : ts.mapM (atOf P n) = some ats) (hrd : ∀ t ∈ ts, P.readableRec t = true ∧ t < P.types.size)
    (hv : ∀ (j : Nat) t v, ts[j]? = some t → vs[j]? = some v → Value.okWide P W .any base t v) (h : DataW.TrodAll enc P W 0 (fun _ => true) true ts vs ds ps) (hc : ∀ us, TypedA ats us → CCalls P k us (σ0 W) (fun o _ => o = .ret (.bool true))) :
    Calls P k vs.toArray W fun e w' => e = .returned (.bool true) ∧ Below W.heap.size W w' ∧ DataW.TrodAll enc P w' 0 (fun b => decide (b < W.heap.size)) true ts vs ds ps := by
  obtain ⟨us, ⟨h1, h2⟩, h3⟩ := readA has hv h
  refine (calls_top (hc us h3) ⟨by simpa using h1, fun i u hu => ?_⟩).mono fun e w' ⟨he, hb⟩ => ⟨he, hb, trodAll_below hl hb hrd h⟩
  have := h2 i u hu
  simpa [Array.getD_eq_getD_getElem?, List.getD_eq_getElem?_getD] using this
end
theorem typed_bytes {u : V} (h : Typed (.slc (.int .u8 .nil) .nil) [u]) : ∃ b, (∀ σ, Bs σ u b) ∧ u.row = none ∧ b.length ≤ maxLen := by
  obtain ⟨u', _, e, h, rfl⟩ := h
  simp at e; subst e
  rcases h with rfl | ⟨es, rfl, hm, hes⟩
  · exact ⟨[], fun σ => rfl, rfl, by simp⟩
  · have : ∃ b : List UInt8, es = b.map byteE := by
      clear hm
      induction es with
      | nil => exact ⟨[], rfl⟩
      | cons e es ih =>
        obtain ⟨b, rfl⟩ := ih fun e' he => hes e' (by simp [he])
        obtain ⟨n, _, rfl, hn, rfl⟩ := hes e (by simp)
        have h1 : 0 ≤ n ∧ n < 256 := by simp [IntKind.min, IntKind.max, IntKind.signed, IntKind.bits] at hn; omega
        refine ⟨UInt8.ofNat n.toNat :: b, ?_⟩
        simp [byteE]
        omega
    obtain ⟨b, rfl⟩ := this
    exact ⟨b, fun σ => by simp [Bs, Rd, cont, CT.len], rfl, by simpa using hm⟩
end Go.Proofs.Yticpkoakbneefaa.Ab
namespace Go.Proofs.Yticpkoakbneefaa
open Go.Proofs.Yticpkoakbneefaa.Ab
set_option linter.unusedVariables false
set_option linter.unusedSimpArgs false
attribute [local simp] Gr.refl Gr.new Gr.set Gr.kill Nat.add_assoc r_cks chk wantG
/-- A slice whose places can be written, in the rows from lo on, below hi. -/
def Wl (σ : St) (lo hi : Nat) (v : V) : Prop := v = .nils ∨ ∃ l off len rows, v = .slc l off len ∧ lo ≤ l ∧ l < hi ∧ len < 2 ^ 40 ∧ σ.H l = some (.row 1 rows) ∧ ∀ i, i < len → ∃ e, rows[off + i]? = some [e]
theorem New.wl {σ0 σ : St} {v : V} {l : List Int} (h : New σ0 σ v l) (hl : l.length < 2 ^ 40) : Wl σ σ0.n σ.n v := by
  rcases h.rd.inv with ⟨rfl, _⟩ | rfl | ⟨p, off, rows, rfl, h1, h2, h3⟩
  · exact .inl rfl
  · have := h.wr; simp [isl] at this
  · have hlo := h.lo p rfl
    refine .inr ⟨p, off, _, rows, rfl, hlo.1, hlo.2, by simpa using hl, h1, fun i hi => ?_⟩
    have h4 : (l.map nE)[i]? = rows[off + i]? := by
      rw [h3, List.getElem?_take_of_lt hi, List.getElem?_drop]
    rw [List.length_map] at hi
    rw [← h4, List.getElem?_map, List.getElem?_eq_getElem hi]
    exact ⟨_, rfl⟩
structure Kp (σ1 σ : St) (lo hi : Nat) (vs : List V) : Prop where
  n : σ.n = σ1.n
  W : σ.W = σ1.W
  H : ∀ k, (k < lo ∨ hi ≤ k) → σ.H k = σ1.H k
  wl : ∀ v ∈ vs, Wl σ lo hi v
theorem Kp.st {σ1 σ : St} {lo hi : Nat} {vs : List V} (h : Kp σ1 σ lo hi vs) {l off len : Nat} (hv : V.slc l off len ∈ vs) {i : Nat} (hi' : i < len) :
    iaV σ 1 (.slc l off len) (.int .i64 i) = some (.ptr l (off + i) 0) ∧ ∃ σ', stV σ 1 (.ptr l (off + i) 0) (.int .u32 5) = some σ' ∧ Kp σ1 σ' lo hi vs := by
  rcases h.wl _ hv with h0 | ⟨l', off', len', rows, e, h1, h2, h3, h4, h5⟩
  · cases h0
  · injection e with e1 e2 e3
    subst e1; subst e2; subst e3
    obtain ⟨x, hx⟩ := h5 i hi'
    refine ⟨by simp [iaV, h4, hi'], σ.set l (.row 1 (rows.set (off + i) [.int .u32 5])), by rw [stV_ptr, h4]; simp [hx, setAt], ⟨h.n, h.W, fun k hk => by rw [set_H, if_neg (by omega)]; exact h.H k hk, fun v hv' => ?_⟩⟩
    rcases h.wl v hv' with rfl | ⟨p, o, n, rs, rfl, k1, k2, k3, k4, k5⟩
    · exact .inl rfl
    · by_cases hp : p = l
      · subst hp
        rw [h4] at k4
        simp at k4; subst k4
        refine .inr ⟨p, o, n, _, rfl, k1, k2, k3, by simp; rfl, fun j hj => ?_⟩
        rw [List.getElem?_set]
        split
        · rw [if_pos (by have := k5 j hj; obtain ⟨e, he⟩ := this; exact (List.getElem?_eq_some_iff.1 (by rename_i hh; rw [hh]; exact he)).1)]; exact ⟨_, rfl⟩
        · exact k5 j hj
      · exact .inr ⟨p, o, n, rs, rfl, k1, k2, k3, by rw [set_H, if_neg hp]; exact k4, k5⟩
theorem typed_u32 {u : V} (h : Typed (.slc (.int .u32 .nil) .nil) [u]) : ∃ b, (∀ σ, Nm σ u b) ∧ u.row = none ∧ b.length ≤ maxLen ∧ Dg 4294967296 b := by
  obtain ⟨u', _, e, h, rfl⟩ := h
  simp at e; subst e
  rcases h with rfl | ⟨es, rfl, hm, hes⟩
  · exact ⟨[], fun σ => rfl, rfl, by simp, .nil⟩
  · have : ∃ b : List Int, es = b.map nE ∧ Dg 4294967296 b := by
      clear hm
      induction es with
      | nil => exact ⟨[], rfl, .nil⟩
      | cons e es ih =>
        obtain ⟨b, rfl, db⟩ := ih fun e' he => hes e' (by simp [he])
        obtain ⟨n, _, rfl, hn, rfl⟩ := hes e (by simp)
        have h1 : 0 ≤ n ∧ n < 4294967296 := by simp [IntKind.min, IntKind.max, IntKind.signed, IntKind.bits] at hn; omega
        refine ⟨n :: b, by simp [nE], fun x hx => ?_⟩
        rcases List.mem_cons.1 hx with rfl | hx
        · exact h1
        · exact db x hx
    obtain ⟨b, rfl, db⟩ := this
    exact ⟨b, fun σ => by simp [Nm, Rd, cont, CT.len], rfl, by simpa using hm, db⟩
def InQ (σ1 : St) (lo hi L i : Nat) (vs : List V) (va vb vx vy : V) (f' : Fr) (σ' : St) : Prop := f'.ds = [] ∧ f'.env 0 = va ∧ f'.env 1 = vb ∧ f'.env 5 = vx ∧ f'.env 6 = vy ∧ f'.env 14 = .slc L 0 6 ∧ f'.env 15 = .int .i64 i ∧ Kp σ1 σ' lo hi vs
def OuQ (σ1 : St) (lo hi : Nat) (vs : List V) (va vb vx vy : V) (f' : Fr) (σ' : St) : Prop := f'.ds = [] ∧ f'.env 0 = va ∧ f'.env 1 = vb ∧ f'.env 5 = vx ∧ f'.env 6 = vy ∧ Kp σ1 σ' lo hi vs
theorem inner_loop {σ1 : St} {lo hi L : Nat} {vs : List V} (hL : hi ≤ L) (hrow : σ1.H L = some (.row 1 (vs.map fun v => [v]))) {va vb vx vy v : V} {i n : Nat} (hi' : vs[i]? = some v) (hv : lenV v = some (.int .i64 n)) (hn : vs.length = 6) (hlen : n < 2 ^ 40) {dd : Bool} {rs : List RC} {st : List SE} {B0 : D} (hB0 : B0 = b3_0) :
    ∀ (m k : Nat) (f : Fr) (σ : St), k + m = n → Kp σ1 σ lo hi vs → f.ds = [] → f.env 0 = va → f.env 1 = vb → f.env 5 = vx → f.env 6 = vy → f.env 14 = .slc L 0 6 → f.env 15 = .int .i64 i → f.env 16 = .int .i64 k →
      Lands ET dd rs st (InQ σ1 lo hi L i vs va vb vx vy) (run ET dd rs (.d (.loop [0, 1, 5, 6, 14, 15, 16] B0) :: .blk 2 :: st) f σ) := by
  have hil : i < 6 := by rw [← hn]; exact (List.getElem?_eq_some_iff.1 hi').1
  have ldL : ∀ σ, Kp σ1 σ lo hi vs → iaV σ 1 (.slc L 0 6) (.int .i64 i) = some (.ptr L i 0) ∧ ldV σ (.ptr L i 0) = some v := fun σ h => by
    have e : σ.H L = some (.row 1 (vs.map fun v => [v])) := by rw [h.H L (.inr hL)]; exact hrow
    refine ⟨by simp [iaV, e, hil], by rw [ldV_ptr, e]; simp [hi']⟩
  intro m
  induction m with
  | zero =>
    intro k f σ hk hkp hd e0 e1 e5 e6 e14 e15 e16
    obtain ⟨i1, l1⟩ := ldL σ hkp
    have h : ¬ k < n := by omega
    rw [r_loopU hB0]
    simp [b3_0, hd, e0, e1, e5, e6, e14, e15, e16, i1, l1, hv, h, -ldV_ptr]
    exact .here ⟨by simp, by simp, by simp, by simp, by simp, by simp, by simp, hkp⟩
  | succ m ih =>
    intro k f σ hk hkp hd e0 e1 e5 e6 e14 e15 e16
    obtain ⟨i1, l1⟩ := ldL σ hkp
    have h : k < n := by omega
    have hmem : v ∈ vs := List.mem_of_getElem? hi'
    have w : IntKind.i64.wrap ((k : Int) + 1) = ((k + 1 : Nat) : Int) := by rw [IntWalk.i64_in _ (by omega)]; omega
    rcases hkp.wl v hmem with rfl | ⟨l, off, len, rows, rfl, k1, k2, k3, k4, k5⟩
    · simp [lenV] at hv; omega
    · have hln : len = n := by simp [lenV] at hv; omega
      subst hln
      obtain ⟨i2, σ', s2, hkp'⟩ := hkp.st hmem h
      have ih := fun f => ih (k + 1) f σ' (by omega) hkp'
      obtain ⟨k', hk'⟩ : ∃ j, j = k + 1 := ⟨_, rfl⟩
      simp only [← hk'] at w ih
      rw [r_loopU hB0]
      simp [b3_0, hd, e0, e1, e5, e6, e14, e15, e16, i1, l1, h, i2, s2, w, -ldV_ptr, -stV_ptr]
      exact ih _ (by simp) (by simp) (by simp) (by simp) (by simp) (by simp) (by simp) (by simp)
theorem outer_loop {σ1 : St} {lo hi L : Nat} {vs : List V} (hL : hi ≤ L) (hrow : σ1.H L = some (.row 1 (vs.map fun v => [v]))) {va vb vx vy : V} (hn : vs.length = 6) {dd : Bool} {rs : List RC} {st : List SE} {B0 : D} (hB0 : B0 = b3_1) :
    ∀ (m i : Nat) (f : Fr) (σ : St), i + m = 6 → Kp σ1 σ lo hi vs → f.ds = [] → f.env 0 = va → f.env 1 = vb → f.env 5 = vx → f.env 6 = vy → f.env 14 = .slc L 0 6 → f.env 15 = .int .i64 i →
      Lands ET dd rs st (OuQ σ1 lo hi vs va vb vx vy) (run ET dd rs (.d (.loop [0, 1, 5, 6, 14, 15] B0) :: .blk 0 :: st) f σ) := by
  intro m
  induction m with
  | zero =>
    intro i f σ hi' hkp hd e0 e1 e5 e6 e14 e15
    have h : ¬ (i : Int) < 6 := by omega
    rw [r_loopU hB0]
    simp [b3_1, hd, e0, e1, e5, e6, e14, e15, h]
    exact .here ⟨by simp, by simp, by simp, by simp, by simp, hkp⟩
  | succ m ih =>
    intro i f σ hi' hkp hd e0 e1 e5 e6 e14 e15
    have h : (i : Int) < 6 := by omega
    have hv : vs[i]? = some (vs[i]'(by omega)) := List.getElem?_eq_getElem _
    generalize vs[i]'_ = v at hv
    have hmem : v ∈ vs := List.mem_of_getElem? hv
    obtain ⟨n, hlv, hnn⟩ : ∃ n : Nat, lenV v = some (.int .i64 n) ∧ n < 2 ^ 40 := by
      rcases hkp.wl v hmem with rfl | ⟨l, off, len, rows, rfl, k1, k2, k3, k4, k5⟩
      · exact ⟨0, rfl, by omega⟩
      · exact ⟨len, rfl, k3⟩
    have w : IntKind.i64.wrap ((i : Int) + 1) = ((i + 1 : Nat) : Int) := by rw [IntWalk.i64_in _ (by omega)]; omega
    have k := fun st f => inner_loop hL hrow (va := va) (vb := vb) (vx := vx) (vy := vy) hv hlv hn hnn (dd := dd) (rs := rs) (st := st) (B0 := b3_0) rfl n 0 f σ (by omega) hkp
    have ih := fun f σ => ih (i + 1) f σ (by omega)
    obtain ⟨i', hi'⟩ : ∃ j, j = i + 1 := ⟨_, rfl⟩
    simp only [← hi'] at w ih
    rw [r_loopU hB0]
    simp [b3_1, hd, e0, e1, e5, e6, e14, e15, h]
    refine Lands.to (C := fun r => Lands ET dd rs st (OuQ σ1 lo hi vs va vb vx vy) r) (k _ _ (by simp) (by simp) (by simp) (by simp) (by simp) (by simp) (by simp) (by simp)) ?_
    rintro f' σ' ⟨a1, a2, a3, a4, a5, a6, a7, hkp'⟩
    simp [a1, a2, a3, a4, a5, a6, a7, w]
    exact ih _ _ hkp' (by simp) (by simp) (by simp) (by simp) (by simp) (by simp) (by simp)
end Go.Proofs.Yticpkoakbneefaa
namespace Go.Proofs.Yticpkoakbneefaa
open Go.Proofs.Yticpkoakbneefaa.Ab
set_option linter.unusedVariables false
set_option linter.unusedSimpArgs false
attribute [local simp] Gr.refl Gr.new Gr.set Gr.kill Nat.add_assoc r_cks chk wantG
variable {B : Int}
/-- A copy with one limb more behind. -/
theorem copy_row {σ : St} {va : V} {a : List Int} (ha : Nm σ va a) (ho : va.old σ) (hal : a.length ≤ 12) (t : Int) : ∃ u τ l τ', appV (σ.new (.row 1 [])) 4 1 (.slc σ.n 0 0) va = some (u, τ) ∧ appV (τ.new (.row 1 [[.int .u32 t]])) 4 1 u (.slc τ.n 0 1) = some (.slc l 0 (a.length + 1), τ') ∧ Gr σ τ' ∧ σ.n ≤ l ∧ l < τ'.n ∧ τ'.H l = some (.row 1 ((a ++ [t]).map nE)) := by
  have o1 := Own.new (Gr.refl σ) 1 [] (n := 0) rfl
  have ha' := ha.gr ((Gr.refl σ).new (.row 1 [])) ho
  obtain ⟨u, τ, h1, h2, _⟩ := o1.appA (y := va) (srcOf_rd ha') (bytes := 4) (by simp [reach]; omega) (by simp [reach]; omega)
  obtain ⟨w, τ', h3, h4⟩ := h2.app1 [nE t] (by simp) (bytes := 4) (by simp [reach]; omega) (by simp [reach]; omega) (n := 1) rfl
  rcases h4.sl with ⟨rfl, h⟩ | ⟨l, rfl, h⟩
  · simp at h
  · simp only [List.nil_append, List.length_append, List.length_map, List.length_cons, List.length_nil, Nat.zero_add] at h h3 h4
    have hlo := h4.lo l rfl
    exact ⟨u, τ, l, τ', h1, h3, h4.gr, hlo.1, hlo.2, by rw [h]; simp⟩
theorem divmod_any (hB : B = 4294967296) {σ : St} {va vb : V} {a b : List Int} (ha : Nm σ va a) (hao : va.old σ) (hb : Nm σ vb b) (hbo : vb.old σ) (hal : a.length ≤ 12) (hbl : b.length ≤ 12) (da : Dg B a) (db : Dg B b) :
    ∃ u w e lu lw τ, ev ET 8 [va, vb] σ = some (.ret (.tup [u, w, .int .i64 e]), τ) ∧ New σ τ u lu ∧ New σ τ w lw ∧ lu.length < 2 ^ 40 ∧ lw.length < 2 ^ 40 := by
  have h2 : 2 ≤ B := by omega
  by_cases hy : vl B b = 0
  · have hz : (tr b).length = 0 := by rw [tr_cn h2 db, hy, cn_zero (Int.le_refl _)]; rfl
    exact ⟨.nils, .nils, 4, [], [], σ, divmod0_ev ha hb (by omega) (by omega) hz, .nils σ, .nils σ, by simp, by simp⟩
  · have hb0 := vl_nonneg (show 0 ≤ B by omega) db
    have ha0 := vl_nonneg (show 0 ≤ B by omega) da
    have hb1 := vl_lt (show 0 < B by omega) db
    have ha1 := vl_lt (show 0 < B by omega) da
    obtain ⟨u, w, τ, k1, k2, k3⟩ := divmod_ev hB ha hao hb hbo (by omega) (by omega) da db (by omega)
    have q1 : vl B a / vl B b ≤ vl B a := Int.ediv_le_self _ ha0
    have q2 := Int.emod_lt_of_pos (vl B a) (show 0 < vl B b by omega)
    have c1 := cn_length h2 (k := a.length) (v := vl B a / vl B b) (by omega)
    have c2 := cn_length h2 (k := b.length) (v := vl B a % vl B b) (by omega)
    exact ⟨u, w, 0, _, _, τ, k1, k2, k3, by omega, by omega⟩
def KeQ (σ : St) (r : Option (CO × St)) : Prop := ∃ τ, r = some (.ret (.bool true), τ) ∧ Gr σ τ
theorem keeps_ev (hB : B = 4294967296) {σ : St} {va vb : V} {a b : List Int} (ha : ∀ σ, Nm σ va a) (hra : va.row = none) (hb : ∀ σ, Nm σ vb b) (hrb : vb.row = none) (da : Dg B a) (db : Dg B b) :
    ev ET 3 [va, vb] σ = some (.ret (.bool true), σ) := by
  suffices h : KeQ σ (run ET false f3.res [.d f3.body] ⟨envOf [va, vb], []⟩ σ) by
    obtain ⟨τ, h, g⟩ := h
    exact ev_pure (fd := f3) rfl (by simp [f3]) rfl h g.H g.W (by simp)
  by_cases h1 : (12 : Int) < a.length
  · exact ⟨σ, by simp [f3, d3, counted_ev, (ha σ).len, h1], .refl σ⟩
  by_cases h2 : (12 : Int) < b.length
  · exact ⟨σ, by simp [f3, d3, counted_ev, (ha σ).len, (hb σ).len, h1, h2], .refl σ⟩
  have hB2 : 2 ≤ B := by omega
  have oa : ∀ σ, va.old σ := fun σ p off len e => by rw [e] at hra; simp [V.row] at hra
  have ob : ∀ σ, vb.old σ := fun σ p off len e => by rw [e] at hrb; simp [V.row] at hrb
  -- the copies
  obtain ⟨u1, t1, lx, s1, a1, a2, a3, a4, a5, a6⟩ := copy_row (σ := σ) (ha σ) (oa σ) (by omega) 7
  obtain ⟨u2, t2, ly, s2, b1, b2, b3, b4, b5, b6⟩ := copy_row (σ := s1) (hb s1) (ob s1) (by omega) 9
  have g2 := a3.trans b3
  have hx2 : s2.H lx = some (.row 1 ((a ++ [7]).map nE)) := by rw [b3.H lx a5]; exact a6
  have cutx : ∀ σ' : St, σ'.H lx = some (.row 1 ((a ++ [7]).map nE)) → ∀ env (hi : Opd), (hi.ev env = .int .i64 a.length → lslV env σ' 1 (.slc lx 0 (a.length + 1)) none (some hi) = some (.slc lx 0 a.length)) ∧ Nm σ' (.slc lx 0 a.length) a := fun σ' h env hi => ⟨fun he => by simp [lslV, h, he], by simp [Nm, Rd, cont, h]⟩
  have cuty : ∀ σ' : St, σ'.H ly = some (.row 1 ((b ++ [9]).map nE)) → ∀ env (hi : Opd), (hi.ev env = .int .i64 b.length → lslV env σ' 1 (.slc ly 0 (b.length + 1)) none (some hi) = some (.slc ly 0 b.length)) ∧ Nm σ' (.slc ly 0 b.length) b := fun σ' h env hi => ⟨fun he => by simp [lslV, h, he], by simp [Nm, Rd, cont, h]⟩
  have nx := (cutx s2 hx2 (envOf []) (.t 0)).2
  have ny := (cuty s2 b6 (envOf []) (.t 0)).2
  have c1 := fun env hi => (cutx s1 a6 env hi).1
  have c2 := fun env hi => (cuty s2 b6 env hi).1
  obtain ⟨x, hx⟩ : ∃ x, x = V.slc lx 0 a.length := ⟨_, rfl⟩
  obtain ⟨y, hy⟩ : ∃ y, y = V.slc ly 0 b.length := ⟨_, rfl⟩
  have ox : x.old s2 := fun p off len e => by rw [hx] at e; injection e with e1; have := b3.n; omega
  have oy : y.old s2 := fun p off len e => by rw [hy] at e; injection e with e1; omega
  rw [← hx] at nx; rw [← hy] at ny
  simp only [← hx] at c1
  simp only [← hy] at c2
  have hv0 := vl_nonneg (show 0 ≤ B by omega) da
  have hv1 := vl_nonneg (show 0 ≤ B by omega) db
  have sa : Sm B 12 (vl B a) := .of hB2 da (by omega)
  have sb : Sm B 12 (vl B b) := .of hB2 db (by omega)
  -- the six answers
  obtain ⟨w1, r1, e1, m1⟩ := add_ev (E := ET) rfl hB nx ox ny oy (by omega) (by omega) da db
  have gr1 := m1.gr
  have old1 : ∀ {v : V} {τ : St}, Gr s2 τ → v.old s2 → v.old τ := fun g h p off len e => Nat.lt_of_lt_of_le (h p off len e) g.n
  obtain ⟨w2, r2, e2, m2⟩ := mul_ev (E := ET) rfl hB (nx.gr gr1 ox) (old1 gr1 ox) (ny.gr gr1 oy) (old1 gr1 oy) (by omega) (by omega) da db
  have gr2 := gr1.trans m2.gr
  obtain ⟨w3, r3, e3, m3⟩ := norm_ev (E := ET) rfl (nx.gr gr2 ox) (by omega)
  have gr3 := gr2.trans m3.gr
  obtain ⟨w4, w5, er, l4, l5, r4, e4, m4, m5, hl4, hl5⟩ := divmod_any hB (nx.gr gr3 ox) (old1 gr3 ox) (ny.gr gr3 oy) (old1 gr3 oy) (by omega) (by omega) da db
  have gr4 := gr3.trans m4.gr
  obtain ⟨w6, r6, e6, m6⟩ := gcd_ev hB (nx.gr gr4 ox) (old1 gr4 ox) (ny.gr gr4 oy) (old1 gr4 oy) (by omega) (by omega) da db
  have gr6 := gr4.trans m6.gr
  have g64 := m6.gr
  have g43 := m4.gr
  have g32 := m3.gr
  have g21 := m2.gr
  have q1 := m1.step (g21.trans (g32.trans (g43.trans g64)))
  have q2 := (m2.step (g32.trans (g43.trans g64))).base gr1
  have q3 := (m3.step (g43.trans g64)).base gr2
  have q4 := (m4.step g64).base gr3
  have q5 := (m5.step g64).base gr3
  have q6 := m6.base gr4
  have z1 := q1.wl (by have := (sa.add hB2 sb).len hB2; omega)
  have z2 := q2.wl (by have := (sa.mul hB2 sb).len hB2; omega)
  have z3 := q3.wl (by have := tr_length a; omega)
  have z4 := q4.wl hl4
  have z5 := q5.wl hl5
  have z6 := q6.wl (by
    have hg : Nat.gcd (vl B a).toNat (vl B b).toNat ≤ (vl B a).toNat + (vl B b).toNat := by
      rcases Nat.eq_zero_or_pos (vl B a).toNat with h | h
      · rw [h, Nat.gcd_zero_left]; omega
      · have := Nat.gcd_le_left (vl B b).toNat h; omega
    have hs := (sa.add hB2 sb).2
    have := cn_length hB2 (k := 12 + 12 + 1) (v := (Nat.gcd (vl B a).toNat (vl B b).toNat : Nat)) (by omega)
    omega)
  obtain ⟨s7, hs7⟩ : ∃ s, s = r6.new (.row 1 ([w1, w2, w3, w4, w5, w6].map fun v => [v])) := ⟨_, rfl⟩
  have hrow : s7.H r6.n = some (.row 1 ([w1, w2, w3, w4, w5, w6].map fun v => [v])) := by rw [hs7]; simp
  have g7 : Gr r6 s7 := by rw [hs7]; exact (Gr.refl r6).new _
  have up : ∀ v, Wl r6 s2.n r6.n v → Wl s7 s2.n r6.n v := fun v h => by
    rcases h with rfl | ⟨l, off, len, rows, rfl, k1, k2, k3, k4, k5⟩
    · exact .inl rfl
    · exact .inr ⟨l, off, len, rows, rfl, k1, k2, k3, by rw [g7.H l k2]; exact k4, k5⟩
  have hkp : Kp s7 s7 s2.n r6.n [w1, w2, w3, w4, w5, w6] := ⟨rfl, rfl, fun k hk => rfl, fun v hv => by
    simp only [List.mem_cons, List.not_mem_nil, or_false] at hv
    rcases hv with rfl | rfl | rfl | rfl | rfl | rfl
    · exact up _ z1
    · exact up _ z2
    · exact up _ z3
    · exact up _ z4
    · exact up _ z5
    · exact up _ z6⟩
  have k := fun st f => outer_loop (Nat.le_refl r6.n) hrow (va := va) (vb := vb) (vx := x) (vy := y) rfl (dd := false) (rs := [.t 4]) (st := st) (B0 := b3_1) rfl 6 0 f s7 (by omega) hkp
  have y1 := Rd.scal q1.rd
  have y2 := Rd.scal q2.rd
  have y3 := Rd.scal q3.rd
  have y4 := Rd.scal q4.rd
  have y5 := Rd.scal q5.rd
  have y6 := Rd.scal q6.rd
  have v1 := cells_scal y1
  have v2 := cells_scal y2
  have v3 := cells_scal y3
  have v4 := cells_scal y4
  have v5 := cells_scal y5
  have v6 := cells_scal y6
  simp only [List.map_cons, List.map_nil] at hs7
  have fin : ∀ σ', Kp s7 σ' s2.n r6.n [w1, w2, w3, w4, w5, w6] → Gr s2 σ' := fun σ' h => by
    have e := gr6.trans g7
    exact ⟨by rw [h.n]; exact e.n, fun k hk => by rw [h.H k (.inl hk)]; exact e.H k hk, by rw [h.W]; exact e.W⟩
  have la := (ha σ).len
  have lb := (hb σ).len
  clear z1 z2 z3 z4 z5 z6 q1 q2 q3 q4 q5 q6 up hkp m1 m2 m3 m4 m5 m6 sa sb hv0 hv1
  simp [f3, d3, counted_ev, la, lb, h1, h2, a1, a2, c1, b1, b2, c2, e1, e2, e3, e4, e6, v1, v2, v3, v4, v5, v6, y1, y2, y3, y4, y5, y6, ← hs7]
  refine Lands.to (C := KeQ σ) (k _ _ (by simp) (by simp) (by simp) (by simp) (by simp) (by simp) (by simp)) ?_
  rintro f' σ' ⟨i1, i2, i3, i4, i5, hkp'⟩
  have gf := fin σ' hkp'
  have W1 := words_ev (nx.gr gf ox) (ha σ') (by omega)
  have W2 := words_ev (ny.gr gf oy) (hb σ') (by omega)
  have hx3 : σ'.H lx = some (.row 1 ((a ++ [7]).map nE)) := by rw [gf.H lx (by have := b3.n; omega)]; exact hx2
  have hy3 : σ'.H ly = some (.row 1 ((b ++ [9]).map nE)) := by rw [gf.H ly b5]; exact b6
  refine ⟨σ', ?_, g2.trans gf⟩
  obtain ⟨na, hna⟩ : ∃ n, n = a.length + 1 := ⟨_, rfl⟩
  obtain ⟨nb, hnb⟩ : ∃ n, n = b.length + 1 := ⟨_, rfl⟩
  have wa : IntKind.i64.wrap ((a.length : Int) + 1) = (na : Int) := by rw [IntWalk.i64_in _ (by omega)]; omega
  have wb : IntKind.i64.wrap ((b.length : Int) + 1) = (nb : Int) := by rw [IntWalk.i64_in _ (by omega)]; omega
  have c3 : ∀ env (hi : Opd), hi.ev env = .int .i64 na → lslV env σ' 1 x none (some hi) = some (.slc lx 0 na) := fun env hi he => by simp [hx, lslV, hx3, he]; omega
  have c4 : ∀ env (hi : Opd), hi.ev env = .int .i64 nb → lslV env σ' 1 y none (some hi) = some (.slc ly 0 nb) := fun env hi he => by simp [hy, lslV, hy3, he]; omega
  have j1 : iaV σ' 1 (.slc lx 0 na) (.int .i64 a.length) = some (.ptr lx a.length 0) := row_at hx3 (by simp [hna]) (by omega)
  have j2 : iaV σ' 1 (.slc ly 0 nb) (.int .i64 b.length) = some (.ptr ly b.length 0) := row_at hy3 (by simp [hnb]) (by omega)
  have o1 := row_ld hx3 (i := a.length) (by simp)
  have o2 := row_ld hy3 (i := b.length) (by simp)
  rw [show rd (a ++ [7]) (a.length : Int) = 7 by rw [rd_nat]; simp] at o1
  rw [show rd (b ++ [9]) (b.length : Int) = 9 by rw [rd_nat]; simp] at o2
  simp [i1, i2, i3, i4, i5, W1, W2, la, lb, wa, wb, c3, c4, j1, j2, o1, o2, -ldV_ptr]
theorem keeps_core (W : World) (us : List V) (hu : TypedA [.one (.slc (.int .u32 .nil) .nil), .one (.slc (.int .u32 .nil) .nil)] us) : CCalls Try.prog 3 us (Go.Proofs.Yticpkoakbneefaa.Ab.σ0 W) (fun o _ => o = .ret (.bool true)) := by
  obtain ⟨v, _, rfl, hv, u2, _, rfl, hn, rfl⟩ := hu
  obtain ⟨a, ha, hra, la, da⟩ := typed_u32 hv
  obtain ⟨b, hb, hrb, lb, db⟩ := typed_u32 hn
  exact (ev_calls ET_ok (keeps_ev rfl (σ := Go.Proofs.Yticpkoakbneefaa.Ab.σ0 W) ha hra hb hrb da db)).mono fun o _ h => h.1
end Go.Proofs.Yticpkoakbneefaa
