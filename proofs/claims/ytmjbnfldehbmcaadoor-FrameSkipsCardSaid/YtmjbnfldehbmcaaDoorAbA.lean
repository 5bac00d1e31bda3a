/-
The walk over the program's texts, told with what its values say: a part of it. No further condition.
-/
import Derived.Test.YtmjbnfldehbmcaaDoorAb9
namespace Go.Proofs.YtmjbnfldehbmcaaDoor.Ab
open Go.RowKit
set_option linter.unusedVariables false
set_option linter.unusedSimpArgs false
def Phi.put (φ : Phi) (n : Nat) (x : Nat × Nat × Nat) : Phi := fun l => if l = n then some x else φ l
/-- The streams are as they were. -/
structure Same (w w' : World) : Prop where
  os : w'.os = w.os
  tape : w'.tape = w.tape
  output : w'.output = w.output
theorem Same.refl (w : World) : Same w w := ⟨rfl, rfl, rfl⟩
section
variable {P : Program} {φ : Phi} {I : Nat → Prop} {σ : St} {w w' : World} {nt : Nat} {env : Env} {a : Act}
theorem Sim.fresh (hs : Sim φ I σ w) : σ.H σ.n = none := by
  cases h : σ.H σ.n with
  | none => rfl
  | some b =>
    obtain ⟨x, hx, _⟩ := hs.live _ _ h
    have := hs.dom _ _ hx
    omega
theorem cellsOf_push {o : Obj} (hh : w'.heap = w.heap.push o) {b : Nat} (hb : b < w.heap.size) : cellsOf w' b = cellsOf w b := by
  simp only [cellsOf, hh, Array.getElem?_push]
  rw [if_neg (by omega)]
theorem heap_push {o : Obj} (hh : w'.heap = w.heap.push o) {b : Nat} (hb : b < w.heap.size) : w'.heap[b]? = w.heap[b]? := by
  rw [hh, Array.getElem?_push, if_neg (by omega)]
theorem put_old (hs : Sim φ I σ w) {x : Nat × Nat × Nat} : ∀ l y, φ l = some y → (φ.put σ.n x) l = some y := fun l y h => by
  unfold Phi.put
  rw [if_neg (by have := hs.dom _ _ h; omega)]
  exact h
/-- What was there stays what it is, where only live blocks turn and new ones come. -/
theorem Rel.keep (hs : Sim φ I σ w) {φ' : Phi} (hφ : ∀ l y, φ l = some y → φ' l = some y) (hI : ∀ b, I b → w'.heap[b]? = w.heap[b]?) (hN : ∀ b, b < w.heap.size → cellsOf w' b = cellsOf w b)
    {v : V} {c : Value} (h : Rel φ I w v c) : Rel φ' I w' v c :=
  h.mono hφ (fun _ h => h) hI (fun l x hx => hN _ (hs.blk l x hx))
theorem BlkRel.keep (hs : Sim φ I σ w) {φ' : Phi} (hφ : ∀ l y, φ l = some y → φ' l = some y) (hI : ∀ b, I b → w'.heap[b]? = w.heap[b]?) (hN : ∀ b, b < w.heap.size → cellsOf w' b = cellsOf w b)
    {b : Blk} {x : Nat × Nat × Nat} (hb : w'.heap[x.1]? = w.heap[x.1]?) (h : BlkRel φ I w b x) : BlkRel φ' I w' b x := by
  cases h with
  | row hh hfz hpos hz hsz ho hr => exact .row (hb.trans hh) hfz hpos hz hsz ho (fun i j e v h1 h2 => (hr i j e v h1 h2).keep hs hφ hI hN)
  | map hh hn hr => exact .map (hb.trans hh) hn (fun i kv e h1 h2 => ⟨(hr i kv e h1 h2).1.keep hs hφ hI hN, (hr i kv e h1 h2).2.keep hs hφ hI hN⟩)
theorem upd_same (H : Nat → Option Blk) (l : Nat) (b : Option Blk) : upd H l b l = b := by simp [upd]
theorem upd_ne (H : Nat → Option Blk) {l k : Nat} (b : Option Blk) (h : k ≠ l) : upd H l b k = H k := by simp [upd, h]
/-- A new block. -/
theorem sim_new (hs : Sim φ I σ w) {o : Obj} (hh : w'.heap = w.heap.push o) (hsame : Same w w') {blk : Blk} {z : Nat} (hb : ∀ φ', (∀ l y, φ l = some y → φ' l = some y) → BlkRel φ' I w' blk (w.heap.size, 0, z)) :
    Evo φ I σ w (φ.put σ.n (w.heap.size, 0, z)) I (σ.new blk) w' ∧ Sim (φ.put σ.n (w.heap.size, 0, z)) I (σ.new blk) w' := by
  have hφ := put_old hs (x := (w.heap.size, 0, z))
  have hsz : w'.heap.size = w.heap.size + 1 := by rw [hh]; simp
  have hI : ∀ b, I b → w'.heap[b]? = w.heap[b]? := fun b h => heap_push hh (hs.imm b h)
  have hN : ∀ b, b < w.heap.size → cellsOf w' b = cellsOf w b := fun b h => cellsOf_push hh h
  have hlive : ∀ b, Live (φ.put σ.n (w.heap.size, 0, z)) (σ.new blk) b → (Live φ σ b ∧ b < w.heap.size) ∨ b = w.heap.size := fun b hl => by
    obtain ⟨l, x, h1, h2, rfl⟩ := hl
    by_cases hn : l = σ.n
    · subst hn
      simp only [Phi.put, if_true, Option.some.injEq] at h2
      subst h2
      exact .inr rfl
    · simp only [Phi.put, if_neg hn] at h2
      simp only [St.new, upd_ne _ _ hn] at h1
      exact .inl ⟨⟨l, x, h1, h2, rfl⟩, hs.blk _ _ h2⟩
  refine ⟨⟨hφ, fun _ h => h, fun _ h => .inl h, fun b hl => ?_, by omega, hN, fun b h _ => heap_push hh h, hsame.os, hsame.tape, hsame.output, rfl⟩, ⟨fun l x h => ?_, fun l x h => ?_, fun l b h => ?_, fun b hl hi => ?_, fun l l' x x' h1 h2 h3 h4 he => ?_, fun b h => ?_, fun b h => ⟨(hs.base b h).1, (hI b (hs.base b h).1).trans (hs.base b h).2⟩⟩⟩
  · rcases hlive b hl with h | h
    · exact .inl h.1
    · exact .inr (by omega)
  · simp only [Phi.put] at h
    split at h
    · simp only [St.new]; omega
    · have := hs.dom _ _ h; simp only [St.new]; omega
  · simp only [Phi.put] at h
    split at h
    · simp only [Option.some.injEq] at h; subst h; simp only; omega
    · have := hs.blk _ _ h; omega
  · by_cases hn : l = σ.n
    · subst hn
      simp only [St.new, upd_same, Option.some.injEq] at h
      subst h
      exact ⟨_, by simp [Phi.put], hb _ hφ⟩
    · simp only [St.new, upd_ne _ _ hn] at h
      obtain ⟨x, h1, h2⟩ := hs.live _ _ h
      exact ⟨x, hφ _ _ h1, h2.keep hs hφ hI hN (heap_push hh (hs.blk _ _ h1))⟩
  · rcases hlive b hl with h | h
    · exact hs.notI b h.1 hi
    · have := hs.imm b hi; omega
  · by_cases hn : l = σ.n <;> by_cases hn' : l' = σ.n
    · omega
    · subst hn
      simp only [Phi.put, if_true, Option.some.injEq] at h3
      simp only [Phi.put, if_neg hn'] at h4
      have := hs.blk _ _ h4
      subst h3
      simp only at he; omega
    · subst hn'
      simp only [Phi.put, if_true, Option.some.injEq] at h4
      simp only [Phi.put, if_neg hn] at h3
      have := hs.blk _ _ h3
      subst h4
      simp only at he; omega
    · simp only [Phi.put, if_neg hn] at h3
      simp only [Phi.put, if_neg hn'] at h4
      simp only [St.new, upd_ne _ _ hn] at h1
      simp only [St.new, upd_ne _ _ hn'] at h2
      exact hs.inj _ _ _ _ h1 h2 h3 h4 he
  · have := hs.imm b h; omega
theorem row_new (hs : Sim φ I σ w) {arr : Array Value} {t : TypeId} {fz : Nat × Nat} (hh : w'.heap = w.heap.push (.cells arr t fz)) (hsame : Same w w') (hfz : fits arr fz) {z : Nat} (hz : 0 < z) {es : List (List V)}
    (he : ∀ e ∈ es, e.length = z) (hsz : es.length * z ≤ arr.size) (ho : ∀ i j, i < es.length → j < z → (arr.getD (i * z + j) undef).oneCell' = true) (hr : ∀ i j e v, es[i]? = some e → e[j]? = some v → Rel φ I w v (arr.getD (i * z + j) undef)) :
    Evo φ I σ w (φ.put σ.n (w.heap.size, 0, z)) I (σ.new (.row z es)) w' ∧ Sim (φ.put σ.n (w.heap.size, 0, z)) I (σ.new (.row z es)) w' :=
  sim_new hs hh hsame fun φ' hφ => .row (arr := arr) (t := t) (fz := fz) (by rw [hh]; simp) hfz hz he (by omega) (fun i j hi hj => by rw [Nat.zero_add]; exact ho i j hi hj)
    (fun i j e v h1 h2 => by
      rw [Nat.zero_add]
      exact (hr i j e v h1 h2).keep hs hφ (fun b h => heap_push hh (hs.imm b h)) (fun b h => cellsOf_push hh h))
/-- A live row's cells turn; its name is the old one or a new one (then the old one is gone). -/
theorem sim_turn (hs : Sim φ I σ w) {l : Nat} {x : Nat × Nat × Nat} (hl : (σ.H l).isSome = true) (hx : φ l = some x) (hoth : ∀ k, k ≠ x.1 → w'.heap[k]? = w.heap[k]?) (hsize : w'.heap.size = w.heap.size)
    (hN : cellsOf w' x.1 = cellsOf w x.1) (hsame : Same w w') {blk : Blk} (hb : BlkRel φ I w' blk x) : Evo φ I σ w φ I (σ.set l blk) w' ∧ Sim φ I (σ.set l blk) w' := by
  have hlv : Live φ σ x.1 := ⟨l, x, hl, hx, rfl⟩
  have hI : ∀ b, I b → w'.heap[b]? = w.heap[b]? := fun b h => hoth b (fun e => hs.notI _ hlv (e ▸ h))
  have hN' : ∀ b, b < w.heap.size → cellsOf w' b = cellsOf w b := fun b _ => by
    by_cases e : b = x.1
    · rw [e]; exact hN
    · unfold cellsOf; rw [hoth b e]
  have hlive : ∀ b, Live φ (σ.set l blk) b → Live φ σ b := fun b ⟨k, y, h1, h2, h3⟩ => by
    refine ⟨k, y, ?_, h2, h3⟩
    by_cases e : k = l
    · subst e; exact hl
    · simpa only [St.set, upd_ne _ _ e] using h1
  refine ⟨⟨fun _ _ h => h, fun _ h => h, fun _ h => .inl h, fun b h => .inl (hlive b h), by omega, hN', fun b _ hn => hoth b (fun e => hn (e ▸ hlv)), hsame.os, hsame.tape, hsame.output, rfl⟩,
    ⟨hs.dom, fun k y h => by have := hs.blk _ _ h; omega, fun k b h => ?_, fun b h => hs.notI b (hlive b h), fun k k' y y' h1 h2 h3 h4 he => ?_, fun b h => by have := hs.imm b h; omega, fun b h => ⟨(hs.base b h).1, (hI b (hs.base b h).1).trans (hs.base b h).2⟩⟩⟩
  · by_cases e : k = l
    · subst e
      simp only [St.set, upd_same, Option.some.injEq] at h
      subst h
      exact ⟨x, hx, hb⟩
    · simp only [St.set, upd_ne _ _ e] at h
      obtain ⟨y, h1, h2⟩ := hs.live _ _ h
      refine ⟨y, h1, h2.keep hs (fun _ _ h => h) hI hN' (hoth _ (fun e' => e (hs.inj _ _ _ _ (by rw [h]; rfl) hl h1 hx e')))⟩
  · have g : ∀ k, ((σ.set l blk).H k).isSome = true → (σ.H k).isSome = true := fun k h => by
      by_cases e : k = l
      · subst e; exact hl
      · simpa only [St.set, upd_ne _ _ e] using h
    exact hs.inj _ _ _ _ (g _ h1) (g _ h2) h3 h4 he
theorem sim_kill (hs : Sim φ I σ w) (l : Nat) : Evo φ I σ w φ I (σ.kill l) w ∧ Sim φ I (σ.kill l) w := by
  have g : ∀ k, ((σ.kill l).H k).isSome = true → (σ.H k).isSome = true ∧ k ≠ l := fun k h => by
    by_cases e : k = l
    · subst e; simp [St.kill, upd_same] at h
    · exact ⟨by simpa only [St.kill, upd_ne _ _ e] using h, e⟩
  have hlive : ∀ b, Live φ (σ.kill l) b → Live φ σ b := fun b ⟨k, y, h1, h2, h3⟩ => ⟨k, y, (g k h1).1, h2, h3⟩
  refine ⟨⟨fun _ _ h => h, fun _ h => h, fun _ h => .inl h, fun b h => .inl (hlive b h), Nat.le_refl _, fun _ _ => rfl, fun _ _ _ => rfl, rfl, rfl, rfl, rfl⟩,
    ⟨hs.dom, hs.blk, fun k b h => hs.live k b (by
      have := g k (by rw [h]; rfl)
      simpa only [St.kill, upd_ne _ _ this.2] using h), fun b h => hs.notI b (hlive b h), fun k k' y y' h1 h2 h3 h4 he => hs.inj _ _ _ _ (g _ h1).1 (g _ h2).1 h3 h4 he, hs.imm, hs.base⟩⟩
/-- A live row's cells turn, and it gets a new name. -/
theorem sim_move (hs : Sim φ I σ w) {l : Nat} {x y : Nat × Nat × Nat} (hl : (σ.H l).isSome = true) (hx : φ l = some x) (hy : y.1 = x.1) (hoth : ∀ k, k ≠ x.1 → w'.heap[k]? = w.heap[k]?) (hsize : w'.heap.size = w.heap.size)
    (hN : cellsOf w' x.1 = cellsOf w x.1) (hsame : Same w w') {blk : Blk} (hb : ∀ φ', (∀ l y, φ l = some y → φ' l = some y) → BlkRel φ' I w' blk y) :
    Evo φ I σ w (φ.put σ.n y) I ((σ.kill l).new blk) w' ∧ Sim (φ.put σ.n y) I ((σ.kill l).new blk) w' := by
  have hφ := put_old hs (x := y)
  have hln : l ≠ σ.n := fun e => by rw [e, hs.fresh] at hl; simp at hl
  have hlv : Live φ σ x.1 := ⟨l, x, hl, hx, rfl⟩
  have hI : ∀ b, I b → w'.heap[b]? = w.heap[b]? := fun b h => hoth b (fun e => hs.notI _ hlv (e ▸ h))
  have hN' : ∀ b, b < w.heap.size → cellsOf w' b = cellsOf w b := fun b _ => by
    by_cases e : b = x.1
    · rw [e]; exact hN
    · unfold cellsOf; rw [hoth b e]
  have g : ∀ k, k ≠ σ.n → (((σ.kill l).new blk).H k).isSome = true → (σ.H k).isSome = true ∧ k ≠ l := fun k hn h => by
    simp only [St.new, St.kill, upd_ne _ _ hn] at h
    by_cases e : k = l
    · subst e; simp [upd_same] at h
    · exact ⟨by simpa only [upd_ne _ _ e] using h, e⟩
  have hlive : ∀ b, Live (φ.put σ.n y) ((σ.kill l).new blk) b → Live φ σ b := fun b ⟨k, u, h1, h2, h3⟩ => by
    by_cases hn : k = σ.n
    · subst hn
      simp only [Phi.put, if_true, Option.some.injEq] at h2
      subst h2
      rw [← h3, hy]
      exact hlv
    · simp only [Phi.put, if_neg hn] at h2
      exact ⟨k, u, (g k hn h1).1, h2, h3⟩
  refine ⟨⟨hφ, fun _ h => h, fun _ h => .inl h, fun b h => .inl (hlive b h), by omega, hN', fun b _ hn => hoth b (fun e => hn (e ▸ hlv)), hsame.os, hsame.tape, hsame.output, rfl⟩,
    ⟨fun k u h => ?_, fun k u h => ?_, fun k b h => ?_, fun b h => hs.notI b (hlive b h), fun k k' u u' h1 h2 h3 h4 he => ?_, fun b h => by have := hs.imm b h; omega, fun b h => ⟨(hs.base b h).1, (hI b (hs.base b h).1).trans (hs.base b h).2⟩⟩⟩
  · simp only [Phi.put] at h
    split at h
    · simp only [St.new, St.kill]; omega
    · have := hs.dom _ _ h; simp only [St.new, St.kill]; omega
  · simp only [Phi.put] at h
    split at h
    · simp only [Option.some.injEq] at h; subst h; have := hs.blk _ _ hx; omega
    · have := hs.blk _ _ h; omega
  · by_cases hn : k = σ.n
    · subst hn
      have : b = blk := by simpa [St.new, St.kill, upd_same] using h.symm
      subst this
      exact ⟨_, by simp [Phi.put], hb _ hφ⟩
    · obtain ⟨hk, hkl⟩ := g k hn (by rw [h]; rfl)
      simp only [St.new, St.kill, upd_ne _ _ hn, upd_ne _ _ hkl] at h
      obtain ⟨u, h1, h2⟩ := hs.live _ _ h
      exact ⟨u, hφ _ _ h1, h2.keep hs hφ hI hN' (hoth _ (fun e => hkl (hs.inj _ _ _ _ hk hl h1 hx e)))⟩
  · by_cases hn : k = σ.n <;> by_cases hn' : k' = σ.n
    · omega
    · subst hn
      simp only [Phi.put, if_true, Option.some.injEq] at h3
      simp only [Phi.put, if_neg hn'] at h4
      obtain ⟨hk, hkl⟩ := g k' hn' h2
      subst h3
      exact absurd (hs.inj _ _ _ _ hk hl h4 hx (by rw [← he, hy])) hkl
    · subst hn'
      simp only [Phi.put, if_true, Option.some.injEq] at h4
      simp only [Phi.put, if_neg hn] at h3
      obtain ⟨hk, hkl⟩ := g k hn h1
      subst h4
      exact absurd (hs.inj _ _ _ _ hk hl h3 hx (by rw [he, hy])) hkl
    · simp only [Phi.put, if_neg hn] at h3
      simp only [Phi.put, if_neg hn'] at h4
      exact hs.inj _ _ _ _ (g _ hn h1).1 (g _ hn' h2).1 h3 h4 he
end
end Go.Proofs.YtmjbnfldehbmcaaDoor.Ab
