/-
The walk over the program's texts, told with what its values say: a part of it. No further condition.
-/
import Derived.Test.YtmkgmjdbgjiehaaDoorAbW
import Derived.Deep.Slices
import Derived.ChangeArms
import Derived.DataReads
import Derived.WideShapes
import Derived.Carry
import Derived.OpenShut
import Derived.ChangeShapes
namespace Go.Proofs.YtmkgmjdbgjiehaaDoor.Ab
open Go.RowKit
set_option linter.unusedVariables false
inductive CT where
  | nil
  | bool (r : CT)
  | int (k : IntKind) (r : CT)
  | str (r : CT)
  | slc (row : CT) (r : CT)
def CT.len : CT → Nat
  | .nil => 0
  | .bool r | .int _ r | .str r | .slc _ r => r.len + 1
def CT.app : CT → CT → CT
  | .nil, s => s
  | .bool r, s => .bool (r.app s)
  | .int k r, s => .int k (r.app s)
  | .str r, s => .str (r.app s)
  | .slc w r, s => .slc w (r.app s)
def Typed : CT → List V → Prop
  | .nil, vs => vs = []
  | .bool r, vs => ∃ b vs', vs = .bool b :: vs' ∧ Typed r vs'
  | .int k r, vs => ∃ n vs', vs = .int k n :: vs' ∧ (k.min ≤ n ∧ n ≤ k.max) ∧ Typed r vs'
  | .str r, vs => ∃ s vs', vs = .str s :: vs' ∧ s.length ≤ maxLen ∧ Typed r vs'
  | .slc w r, vs => ∃ u vs', vs = u :: vs' ∧ (u = .nils ∨ ∃ es, u = .islc w.len es ∧ es.length ≤ maxLen ∧ ∀ e ∈ es, Typed w e) ∧ Typed r vs'
theorem Typed.len : ∀ {c : CT} {vs : List V}, Typed c vs → vs.length = c.len
  | .nil, vs, h => by simp [Typed] at h; simp [h, CT.len]
  | .bool r, vs, h => by obtain ⟨b, vs', rfl, h⟩ := h; simp [CT.len, h.len]
  | .int k r, vs, h => by obtain ⟨b, vs', rfl, _, h⟩ := h; simp [CT.len, h.len]
  | .str r, vs, h => by obtain ⟨b, vs', rfl, _, h⟩ := h; simp [CT.len, h.len]
  | .slc w r, vs, h => by obtain ⟨b, vs', rfl, _, h⟩ := h; simp [CT.len, h.len]
theorem Typed.app : ∀ {c d : CT} {vs us : List V}, Typed c vs → Typed d us → Typed (c.app d) (vs ++ us)
  | .nil, d, vs, us, h, k => by simp [Typed] at h; simp [h, CT.app, k]
  | .bool r, d, vs, us, h, k => by obtain ⟨b, vs', rfl, h⟩ := h; exact ⟨b, vs' ++ us, rfl, h.app k⟩
  | .int _ r, d, vs, us, h, k => by obtain ⟨b, vs', rfl, h1, h⟩ := h; exact ⟨b, vs' ++ us, rfl, h1, h.app k⟩
  | .str r, d, vs, us, h, k => by obtain ⟨b, vs', rfl, h1, h⟩ := h; exact ⟨b, vs' ++ us, rfl, h1, h.app k⟩
  | .slc w r, d, vs, us, h, k => by obtain ⟨b, vs', rfl, h1, h⟩ := h; exact ⟨b, vs' ++ us, rfl, h1, h.app k⟩
theorem CT.app_len : ∀ (c d : CT), (c.app d).len = c.len + d.len
  | .nil, d => by simp [CT.app, CT.len]
  | .bool r, d | .int _ r, d | .str r, d | .slc _ r, d => by simp [CT.app, CT.len, CT.app_len r d]; omega
def ctFs (P : Program) (ct : TypeId → Option CT) : Nat → List Field → Option CT
  | _, [] => some .nil
  | o, f :: fs => if f.offset = o then (ct f.type).bind fun c => if c.len = P.cellsOf f.type then (ctFs P ct (o + c.len) fs).map (c.app ·) else none else none
def ctOf (P : Program) : Nat → TypeId → Option CT
  | 0, _ => none
  | n + 1, t => match P.underlying t with
    | some .bool => some (.bool .nil)
    | some (.int k) => some (.int k .nil)
    | some .string => some (.str .nil)
    | some (.slice e) => (ctOf P n e).bind fun w => if 0 < w.len ∧ w.len = P.cellsOf e then some (.slc w .nil) else none
    | some (.struct fs) => (ctFs P (ctOf P n) 0 fs.toList).bind fun c => if c.len = P.cellsOf t then some c else none
    | _ => none
def RelL (W : World) (vs : List V) (cs : List Value) : Prop :=
  vs.length = cs.length ∧ ∀ (i : Nat) (v : V) (c : Value), vs[i]? = some v → cs[i]? = some c → Rel φ0 (I0 W) W v c ∧ c.oneCell' = true ∧ v.pure = true
theorem RelL.one {W : World} {v : V} {c : Value} (h : Rel φ0 (I0 W) W v c) (hc : c.oneCell' = true) (hp : v.pure = true) : RelL W [v] [c] :=
  ⟨rfl, fun i v' c' h1 h2 => by
    cases i with
    | zero => simp at h1 h2; subst h1; subst h2; exact ⟨h, hc, hp⟩
    | succ i => simp at h1⟩
theorem RelL.app {W : World} {vs us : List V} {cs ds : List Value} (h : RelL W vs cs) (k : RelL W us ds) : RelL W (vs ++ us) (cs ++ ds) :=
  ⟨by simp [h.1, k.1], fun i v c h1 h2 => by
    by_cases hi : i < vs.length
    · rw [List.getElem?_append_left hi] at h1
      rw [List.getElem?_append_left (by rw [← h.1]; exact hi)] at h2
      exact h.2 i v c h1 h2
    · rw [List.getElem?_append_right (by omega)] at h1
      rw [List.getElem?_append_right (by rw [← h.1]; omega), ← h.1] at h2
      exact k.2 _ v c h1 h2⟩
theorem rows_of {Q : Nat → List V → Prop} : ∀ (n : Nat), (∀ i, i < n → ∃ e, Q i e) → ∃ es : List (List V), es.length = n ∧ ∀ (i : Nat) e, es[i]? = some e → Q i e
  | 0, _ => ⟨[], rfl, fun i e h => by simp at h⟩
  | n + 1, h => by
    obtain ⟨es, h1, h2⟩ := rows_of n fun i hi => h i (by omega)
    obtain ⟨e, he⟩ := h n (by omega)
    refine ⟨es ++ [e], by simp [h1], fun i e' hi => ?_⟩
    by_cases hl : i < es.length
    · rw [List.getElem?_append_left hl] at hi; exact h2 i e' hi
    · rw [List.getElem?_append_right (by omega)] at hi
      have : i - es.length = 0 := by
        rcases Nat.eq_zero_or_pos (i - es.length) with h | h
        · exact h
        · rw [List.getElem?_eq_none (by simp; omega)] at hi; simp at hi
      rw [this] at hi; simp at hi; subst hi
      rw [show i = n by omega]; exact he
theorem cell_at {W : World} {a : Addr} {c : Value} (h : W.cell? a = some c) : a.spot = none ∧ a.block < W.heap.size := by
  unfold World.cell? at h
  split at h
  · rename_i hh
    split at h
    · simp at h
    · rename_i hs
      refine ⟨by simpa using hs, ?_⟩
      rcases Nat.lt_or_ge a.block W.heap.size with h' | h'
      · exact h'
      · rw [Array.getElem?_eq_none h'] at hh; simp at hh
  · simp at h
theorem add_at {a : Addr} (hs : a.spot = none) (k : Nat) : a.add k = ⟨a.block, a.off + k, none⟩ := by
  unfold Addr.add
  split
  · rename_i h; subst h; cases a; simp_all
  · rfl
section
variable {H : Type} {enc : TypeId × Value → H} {P : Program} {W : World} {sp : Nat → Bool} {held : Bool}
theorem read_fs {ct : TypeId → Option CT} {n : Nat} {cs : List Value} (hct : ∀ t c cs x, ct t = some c → DataW.trod enc P W 0 sp held n t cs = some x → ∃ vs, RelL W vs cs ∧ Typed c vs) :
    ∀ (fs : List Field) (o : Nat) (c : CT), ctFs P ct o fs = some c → (∀ f ∈ fs, ∃ x, DataW.trod enc P W 0 sp held n f.type ((cs.drop f.offset).take (P.cellsOf f.type)) = some x) →
      ∃ vs, RelL W vs ((cs.drop o).take c.len) ∧ Typed c vs
  | [], o, c, h, _ => by
    simp only [ctFs, Option.some.injEq] at h; subst h
    exact ⟨[], ⟨by simp [CT.len], fun i v c h => by simp at h⟩, rfl⟩
  | f :: fs, o, c, h, hf => by
    simp only [ctFs] at h
    split at h
    · rename_i ho
      obtain ⟨c1, hc1, h⟩ := Option.bind_eq_some_iff.1 h
      split at h
      · rename_i hl
        obtain ⟨c2, hc2, rfl⟩ := Option.map_eq_some_iff.1 h
        obtain ⟨x, hx⟩ := hf f (by simp)
        obtain ⟨v1, r1, t1⟩ := hct _ _ _ _ hc1 hx
        obtain ⟨v2, r2, t2⟩ := read_fs hct fs _ c2 hc2 fun g hg => hf g (by simp [hg])
        refine ⟨v1 ++ v2, ?_, t1.app t2⟩
        have := r1.app r2
        rw [CT.app_len]
        rw [ho, ← hl, ← List.drop_drop] at this
        rwa [List.take_add]
      · simp at h
    · simp at h
theorem read : ∀ (n : Nat) (fuel : Nat) (t : TypeId) (c : CT) (cs : List Value) (x : DataW H × List MemPlace), ctOf P n t = some c → DataW.trod enc P W 0 sp held fuel t cs = some x → ∃ vs, RelL W vs cs ∧ Typed c vs
  | 0, _, _, _, _, _, h, _ => by simp [ctOf] at h
  | n + 1, fuel, t, c, cs, x, h, hx => by
    simp only [ctOf] at h
    split at h
    · rename_i ht
      simp only [Option.some.injEq] at h; subst h
      obtain ⟨b, rfl, _⟩ := DataW.trod_bool ht hx
      exact ⟨[.bool b], .one (.bool b) rfl rfl, b, [], rfl, rfl⟩
    · rename_i k ht
      simp only [Option.some.injEq] at h; subst h
      obtain ⟨b, rfl, _, hw⟩ := DataW.trod_int ht hx
      simp only [Lit.wf, Bool.and_eq_true, decide_eq_true_eq] at hw
      exact ⟨[.int k b], .one (.int k b) rfl rfl, b, [], rfl, hw, rfl⟩
    · rename_i ht
      simp only [Option.some.injEq] at h; subst h
      obtain ⟨s, rfl, _, hm⟩ := DataW.trod_string ht hx
      exact ⟨[.str s.data.toList], .one (.str rfl) rfl rfl, _, [], rfl, by simpa using hm, rfl⟩
    · rename_i e ht
      obtain ⟨w, hw, h⟩ := Option.bind_eq_some_iff.1 h
      split at h
      · rename_i hl
        simp only [Option.some.injEq] at h; subst h
        rcases Deep.open_slice ht hx with ⟨rfl, _⟩ | ⟨a, len, cap, m, k, D, Pl, rfl, _, hlc, hcm, hmm, _, hel⟩
        · exact ⟨[.nils], .one .nils rfl rfl, .nils, [], rfl, .inl rfl, rfl⟩
        · have hlm : len ≤ m := by rw [hmm]; split <;> omega
          obtain ⟨es, hes, hq⟩ := rows_of (Q := fun i e' => ∃ cs', W.cells? 0 (a.add (i * P.cellsOf e)) (P.cellsOf e) = some cs' ∧ RelL W e' cs' ∧ Typed w e') len fun i hi => by
            obtain ⟨cs', h1, h2⟩ := hel i (by omega)
            obtain ⟨vs, h3, h4⟩ := read n _ _ _ _ _ hw h2
            exact ⟨vs, cs', h1, h3, h4⟩
          have cel : ∀ i j e', es[i]? = some e' → j < w.len → ∃ c v, W.cell? (a.add (i * w.len + j)) = some c ∧ e'[j]? = some v ∧ Rel φ0 (I0 W) W v c ∧ c.oneCell' = true ∧ v.pure = true := fun i j e' hi hj => by
            obtain ⟨cs', h1, h2, h3⟩ := hq i e' hi
            obtain ⟨_, h4, h5⟩ := World.cells?_some h1
            have hjl : j < cs'.length := by rw [h4, ← hl.2]; exact hj
            have hc : cs'[j]? = some cs'[j] := List.getElem?_eq_getElem hjl
            have hv : e'[j]? = some (e'[j]'(by rw [h3.len]; exact hj)) := List.getElem?_eq_getElem _
            refine ⟨_, _, ?_, hv, h2.2 j _ _ hv hc⟩
            have := h5 j (by rw [← h4]; exact hjl)
            rw [hc, ← hl.2] at this
            have aa : (a.add (i * w.len)).add j = a.add (i * w.len + j) := by
              unfold Addr.add
              by_cases h1 : i * w.len = 0 <;> by_cases h2 : j = 0 <;> simp [h1, h2, Nat.add_assoc]
            rw [aa] at this
            exact this
          have hsp : es ≠ [] → a.spot = none ∧ a.block < W.heap.size := fun hne => by
            have h0 : 0 < es.length := List.length_pos_iff.2 hne
            obtain ⟨c, v, h1, _⟩ := cel 0 0 _ (List.getElem?_eq_getElem h0) hl.1
            have := cell_at h1
            simpa [Addr.add] using this
          have hidx : ∀ i j, i < es.length → a.add (i * w.len + j) = ⟨a.block, a.off + i * w.len + j, none⟩ := fun i j hi => by
            rw [add_at (hsp (fun e => by simp [e] at hi)).1, Nat.add_assoc]
          have key := Rel.islc (φ := φ0) (I := I0 W) (w := W) (z := w.len) (es := es) (b := a.block) (o := a.off) (cap := cap) (a := a) (cs := fun i j => (W.cell? ⟨a.block, a.off + i * w.len + j, none⟩).getD undef)
            (by omega) (fun hne => ⟨by cases a; have := (hsp hne).1; simp_all, (hsp hne).2⟩) (fun e' he => by
              obtain ⟨i, hi⟩ := List.mem_iff_getElem?.1 he
              obtain ⟨_, _, _, h3⟩ := hq i e' hi
              exact h3.len)
            (fun i j hi hj => by
              obtain ⟨c, v, h1, _⟩ := cel i j _ (List.getElem?_eq_getElem hi) hj
              rw [hidx i j hi] at h1; rw [h1]; rfl)
            (fun i j hi hj => by
              obtain ⟨c, v, h1, _, _, h4, _⟩ := cel i j _ (List.getElem?_eq_getElem hi) hj
              rw [hidx i j hi] at h1; simp only [h1]; exact h4)
            (by
              rw [List.all_eq_true]; intro e' he
              obtain ⟨i, hi⟩ := List.mem_iff_getElem?.1 he
              rw [List.all_eq_true]; intro v hv
              obtain ⟨j, hj⟩ := List.mem_iff_getElem?.1 hv
              obtain ⟨_, _, h2, h3⟩ := hq i e' hi
              have hjl := (List.getElem?_eq_some_iff.1 hj).1
              rw [h3.len] at hjl
              obtain ⟨c, v', _, h1, _, _, h5⟩ := cel i j e' hi hjl
              rw [hj] at h1; simp at h1; subst h1; exact h5)
            (fun i j e' v hi hj => by
              have hil := (List.getElem?_eq_some_iff.1 hi).1
              obtain ⟨_, _, h2, h3⟩ := hq i e' hi
              have hjl := (List.getElem?_eq_some_iff.1 hj).1
              rw [h3.len] at hjl
              obtain ⟨c, v', h0, h1, h4, _, _⟩ := cel i j e' hi hjl
              rw [hj] at h1; simp at h1; subst h1
              rw [hidx i j hil] at h0; simp only [h0]; exact h4)
          rw [hes] at key
          refine ⟨[.islc w.len es], .one key rfl rfl, _, [], rfl, .inr ⟨es, rfl, by omega, fun e' he => ?_⟩, rfl⟩
          obtain ⟨i, hi⟩ := List.mem_iff_getElem?.1 he
          obtain ⟨_, _, _, h3⟩ := hq i e' hi
          exact h3
      · simp at h
    · rename_i fs ht
      obtain ⟨c', hc', h⟩ := Option.bind_eq_some_iff.1 h
      split at h
      · rename_i hl
        simp only [Option.some.injEq] at h; subst h
        obtain ⟨xs, k, _, _, hlen, hxs, hf⟩ := DataW.trod_struct ht hx
        obtain ⟨vs, h1, h2⟩ := read_fs (cs := cs) (ct := ctOf P n) (n := k) (fun t c cs x hc hx => read n k t c cs x hc hx) fs.toList 0 c' hc' (fun f hf' => by
          obtain ⟨i, hi⟩ := List.mem_iff_getElem?.1 hf'
          have hi' : fs[i]? = some f := by simpa using hi
          have := hf i f hi'
          have hil : i < xs.length := by rw [hxs]; exact (Array.getElem?_eq_some_iff.1 hi').1
          rw [List.getElem?_eq_getElem hil] at this
          exact ⟨_, this⟩)
        refine ⟨vs, ?_, h2⟩
        rw [hl, ← hlen] at h1
        simpa using h1
      · simp at h
    · simp at h
end
inductive AT where
  | one (c : CT)
  | agg (c : CT)
def atOf (P : Program) (n : Nat) (t : TypeId) : Option AT :=
  (ctOf P n t).bind fun c => (P.underlying t).map fun d => if isAggD d then .agg c else .one c
def TypedU : AT → V → Prop
  | .one c, u => Typed c [u]
  | .agg c, u => ∃ xs, u = .agg xs ∧ Typed c xs
def TypedA : List AT → List V → Prop
  | [], us => us = []
  | a :: atl, us => ∃ u us', us = u :: us' ∧ TypedU a u ∧ TypedA atl us'
section
open WideShapes ChangeShapes
variable {H : Type} {enc : TypeId × Value → H} {P : Program} {W : World} {sp : Nat → Bool} {held : Bool} {base : Nat}
theorem read1 {n : Nat} {t : TypeId} {v : Value} {d : DataW H} {ps : List MemPlace} {a : AT} (ha : atOf P n t = some a) (hv : Value.okWide P W .any base t v) (h : DataW.Trod enc P W 0 sp held t v d ps) : ∃ u, Rel φ0 (I0 W) W u v ∧ TypedU a u := by
  obtain ⟨fuel, h⟩ := h
  simp only [atOf, Option.bind_eq_some_iff, Option.map_eq_some_iff] at ha
  obtain ⟨c, hc, dsc, hd, rfl⟩ := ha
  obtain ⟨vs, hr, ht⟩ := read n fuel t c _ _ hc h
  have single : v.cells.toList = [v] → isAggD dsc = false → ∃ u, Rel φ0 (I0 W) W u v ∧ TypedU (if isAggD dsc then AT.agg c else AT.one c) u := fun hv1 hag => by
    rw [hv1] at hr
    match vs, hr.1 with
    | [u], _ => exact ⟨u, (hr.2 0 u v rfl rfl).1, by rw [hag]; exact ht⟩
  cases n with
  | zero => simp [ctOf] at hc
  | succ n =>
    simp only [ctOf, hd] at hc
    cases dsc <;> simp only [reduceCtorEq] at hc
    case bool => obtain ⟨b, rfl⟩ := okWide_bool hd hv; exact single rfl rfl
    case int => obtain ⟨b, rfl⟩ := okWide_int hd hv; exact single rfl rfl
    case string => obtain ⟨b, rfl⟩ := okWide_string hd hv; exact single rfl rfl
    case slice => obtain ⟨a, b, c, rfl⟩ := okWide_slice hd hv; exact single rfl rfl
    case struct =>
      obtain ⟨cs, rfl, _⟩ := okWide_struct hd hv
      refine ⟨.agg vs, .agg (by simpa [Value.cells] using hr.1.symm) (fun i u hu => ?_), vs, rfl, ht⟩
      have hi := (List.getElem?_eq_some_iff.1 hu).1
      have hc : cs.toList[i]? = some (cs.getD i undef) := by
        have : i < cs.size := by have := hr.1; simp [Value.cells] at this; omega
        simp [this]
      exact (hr.2 i u _ hu hc).1
theorem readA {n : Nat} : ∀ {ts : List TypeId} {vs : List Value} {ds : List (DataW H)} {ps : List MemPlace} {atl : List AT}, ts.mapM (atOf P n) = some atl → (∀ (j : Nat) t v, ts[j]? = some t → vs[j]? = some v → Value.okWide P W .any base t v) →
    DataW.TrodAll enc P W 0 sp held ts vs ds ps → ∃ us : List V, (vs.length = us.length ∧ ∀ (i : Nat) u, us[i]? = some u → Rel φ0 (I0 W) W u (vs.getD i undef)) ∧ TypedA atl us
  | [], vs, ds, ps, atl, ha, hv, h => by
    obtain ⟨rfl, _, _⟩ := trodAll_nil h
    simp at ha; subst ha
    exact ⟨[], ⟨rfl, fun i u h => by simp at h⟩, rfl⟩
  | t :: ts, vs, ds, ps, atl, ha, hv, h => by
    obtain ⟨v, vs, d, ds, p, q, rfl, rfl, rfl, h1, h2⟩ := trodAll_cons h
    rw [List.mapM_cons] at ha
    simp only [Option.bind_eq_bind, Option.bind_eq_some_iff, Option.pure_def, Option.some.injEq] at ha
    obtain ⟨a, ha1, atl', ha2, rfl⟩ := ha
    obtain ⟨u, hu1, hu2⟩ := read1 ha1 (hv 0 t v rfl rfl) h1
    obtain ⟨us, ⟨hl, hus⟩, hus2⟩ := readA ha2 (fun j t' v' h3 h4 => hv (j + 1) t' v' (by simpa using h3) (by simpa using h4)) h2
    refine ⟨u :: us, ⟨by simp [hl], fun i w hw => ?_⟩, u, us, rfl, hu2, hus2⟩
    cases i with
    | zero => simp at hw; subst hw; exact hu1
    | succ i => simpa using hus i w (by simpa using hw)
theorem trodAll_below (hl : laidOutB P = true) {W' : World} (hb : Below W.heap.size W W') : ∀ {ts : List TypeId} {vs : List Value} {ds : List (DataW H)} {ps : List MemPlace}, (∀ t ∈ ts, P.readableRec t = true ∧ t < P.types.size) →
    DataW.TrodAll enc P W 0 (fun _ => true) true ts vs ds ps → DataW.TrodAll enc P W' 0 (fun b => decide (b < W.heap.size)) true ts vs ds ps
  | [], vs, ds, ps, _, h => by
    obtain ⟨rfl, rfl, rfl⟩ := trodAll_nil h
    exact trodAll_mk0
  | t :: ts, vs, ds, ps, ht, h => by
    obtain ⟨v, vs, d, ds, p, q, rfl, rfl, rfl, h1, h2⟩ := trodAll_cons h
    obtain ⟨ht1, ht2⟩ := ht t (by simp)
    have lt : ∀ x ∈ p, x.block < W.heap.size := by obtain ⟨m, hm⟩ := h1; exact DataW.trod_lt m _ _ _ hm
    exact trodAll_cons_mk (Below.trod hl ht1 ht2 h1 hb lt) (trodAll_below hl hb (fun t h => ht t (by simp [h])) h2)
theorem law_top {k : FuncId} {n : Nat} {ts : List TypeId} {vs : List Value} {ds : List (DataW H)} {ps : List MemPlace} {ats : List AT} (hl : laidOutB P = true) (has : ts.mapM (atOf P n) = some ats) (hrd : ∀ t ∈ ts, P.readableRec t = true ∧ t < P.types.size)
    (hv : ∀ (j : Nat) t v, ts[j]? = some t → vs[j]? = some v → Value.okWide P W .any base t v) (h : DataW.TrodAll enc P W 0 (fun _ => true) true ts vs ds ps) (hc : ∀ us, TypedA ats us → CCalls P k us (σ0 W) (fun o _ => o = .ret (.bool true))) :
    Calls P k vs.toArray W fun e w' => e = .returned (.bool true) ∧ Below W.heap.size W w' ∧ DataW.TrodAll enc P w' 0 (fun b => decide (b < W.heap.size)) true ts vs ds ps := by
  obtain ⟨us, ⟨h1, h2⟩, h3⟩ := readA has hv h
  refine (calls_top (hc us h3) ⟨by simpa using h1, fun i u hu => ?_⟩).mono fun e w' ⟨he, hb⟩ => ⟨he, hb, trodAll_below hl hb hrd h⟩
  have := h2 i u hu
  simpa [Array.getD_eq_getD_getElem?, List.getD_eq_getElem?_getD] using this
end
theorem typed_bytes {u : V} (h : Typed (.slc (.int .u8 .nil) .nil) [u]) : ∃ b, (∀ σ, Bs σ u b) ∧ u.row = none ∧ b.length ≤ maxLen := by
  obtain ⟨u', _, e, h, rfl⟩ := h
  simp at e; subst e
  rcases h with rfl | ⟨es, rfl, hm, hes⟩
  · exact ⟨[], fun σ => rfl, rfl, by simp⟩
  · have : ∃ b : List UInt8, es = b.map byteE := by
      clear hm
      induction es with
      | nil => exact ⟨[], rfl⟩
      | cons e es ih =>
        obtain ⟨b, rfl⟩ := ih fun e' he => hes e' (by simp [he])
        obtain ⟨n, _, rfl, hn, rfl⟩ := hes e (by simp)
        have h1 : 0 ≤ n ∧ n < 256 := by simp [IntKind.min, IntKind.max, IntKind.signed, IntKind.bits] at hn; omega
        refine ⟨UInt8.ofNat n.toNat :: b, ?_⟩
        simp [byteE]
        omega
    obtain ⟨b, rfl⟩ := this
    exact ⟨b, fun σ => by simp [Bs, Rd, cont, CT.len], rfl, by simpa using hm⟩
end Go.Proofs.YtmkgmjdbgjiehaaDoor.Ab
namespace Go.Proofs.YtmkgmjdbgjiehaaDoor
open Go.Proofs.YtmkgmjdbgjiehaaDoor.Ab
set_option linter.unusedVariables false
theorem row_old {u : V} (h : u.row = none) (σ : St) : u.old σ := fun l off len e => by subst e; simp [V.row] at h
end Go.Proofs.YtmkgmjdbgjiehaaDoor
namespace Go.Proofs.YtmkgmjdbgjiehaaDoor
open Go.Proofs.YtmkgmjdbgjiehaaDoor.Ab
set_option linter.unusedVariables false
theorem brackets_core (W : World) (us : List V) (hu : TypedA [.one (.slc (.int .u8 .nil) .nil)] us) (ht : Lib.TabIs Tryd.prog W "internal/strconv.uint64pow10" .u64 Lib.pow10Tab) : CCalls Tryd.prog 5 us (Go.Proofs.YtmkgmjdbgjiehaaDoor.Ab.σ0 W) (fun o _ => o = .ret (.bool true)) := by
  obtain ⟨v, _, rfl, hv, rfl⟩ := hu
  obtain ⟨b, hb, hr, _⟩ := typed_bytes hv
  have h := brackets_ev (σ := Go.Proofs.YtmkgmjdbgjiehaaDoor.Ab.σ0 W) (hb _) (row_old hr _) ht
  exact (ev_calls ET_ok h).mono fun o _ h => h.1
end Go.Proofs.YtmkgmjdbgjiehaaDoor
