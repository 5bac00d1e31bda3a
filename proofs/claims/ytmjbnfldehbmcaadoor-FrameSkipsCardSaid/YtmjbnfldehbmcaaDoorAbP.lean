/-
The walk over the program's texts, told with what its values say: a part of it. No further condition.
-/
import Derived.Test.YtmjbnfldehbmcaaDoorAbO
namespace Go.Proofs.YtmjbnfldehbmcaaDoor.Ab
open Go.RowKit
set_option linter.unusedVariables false
section
variable {P : Program} {φ φ' : Phi} {I I' : Nat → Prop} {σ σ' : St} {w w' : World}
/-- A world in which no block has turned. -/
theorem below_sim (hs : Sim φ I σ w) (hb : Below w.heap.size w w') : Evo φ I σ w φ I σ w' ∧ Sim φ I σ w' := by
  have hI : ∀ b, I b → w'.heap[b]? = w.heap[b]? := fun b h => hb.block b (hs.imm b h)
  have hN : ∀ b, b < w.heap.size → cellsOf w' b = cellsOf w b := fun b h => by unfold cellsOf; rw [hb.block b h]
  refine ⟨⟨fun _ _ h => h, fun _ h => h, fun _ h => .inl h, fun _ h => .inl h, hb.size, hN, fun b h _ => hb.block b h, hb.os, hb.tape, hb.output, rfl⟩,
    ⟨hs.dom, fun l x h => Nat.lt_of_lt_of_le (hs.blk l x h) hb.size, fun l b h => ?_, hs.notI, hs.inj, fun b h => Nat.lt_of_lt_of_le (hs.imm b h) hb.size, fun b h => ⟨(hs.base b h).1, (hI b (hs.base b h).1).trans (hs.base b h).2⟩⟩⟩
  obtain ⟨x, h1, h2⟩ := hs.live l b h
  exact ⟨x, h1, h2.keep hs (fun _ _ h => h) hI hN (hb.block _ (hs.blk l x h1))⟩
/-- A contract of the kit's for a function that turns no block of the world that it is called in. -/
theorem ccalls_lift {k : FuncId} {vs : List V} {v : V} (h : ∀ φ I w cs, Sim φ I σ w → RelA φ I w vs cs → Calls P k cs w fun e w' => ∃ c, e = .returned c ∧ Below w.heap.size w w' ∧ Rel φ I w v c) :
    CCalls P k vs σ fun o σ' => o = .ret v ∧ σ' = σ := fun φ I w cs hs ha =>
  (h φ I w cs hs ha).mono fun e w' ⟨c, he, hb, hr⟩ => by
    subst he
    obtain ⟨h1, h2⟩ := below_sim hs hb
    exact ⟨_, _, φ, I, ⟨rfl, rfl⟩, .ret (hr.evo hs h1), h1, h2⟩
/-- What the world at the beginning holds, it holds still. -/
theorem base_cell (hs : Sim φ I σ w) {a : Addr} {c : Value} (h : σ.W.cell? a = some c) : w.cell? a = some c := by
  have hlt : a.block < σ.W.heap.size := by
    unfold World.cell? at h
    rcases Nat.lt_or_ge a.block σ.W.heap.size with h' | h'
    · exact h'
    · rw [Array.getElem?_eq_none h'] at h; simp at h
  unfold World.cell? at h ⊢
  rw [(hs.base _ hlt).2]
  exact h
theorem base_var (hs : Sim φ I σ w) {name : String} {cs : Array Value} (h : σ.W.var? P name = some cs) : w.var? P name = some cs := by
  unfold World.var? at h ⊢
  obtain ⟨g, hg, h⟩ := Option.bind_eq_some_iff.1 h
  rw [hg, Option.bind_some]
  have hlt : g < σ.W.heap.size := by
    rcases Nat.lt_or_ge g σ.W.heap.size with h' | h'
    · exact h'
    · rw [Array.getElem?_eq_none h'] at h; simp at h
  rw [(hs.base g hlt).2]
  exact h
end
end Go.Proofs.YtmjbnfldehbmcaaDoor.Ab
