/-
The walk over the program's texts, told with what its values say: a part of it. No further condition.
-/
import Derived.Test.YtmjbnfldehbmcaaDoorAbN
namespace Go.Proofs.YtmjbnfldehbmcaaDoor.Ab
open Go.RowKit
set_option linter.unusedVariables false
set_option linter.unusedSimpArgs false
section
variable {P : Program} {φ φ' : Phi} {I I' : Nat → Prop} {σ σ' : St} {w w' : World} {nt : Nat} {f : Fr} {a : Act} {Q : AX → Fr → St → Prop} {ops : Array Oper} {R : List RI} {A T : List (List Nat)}
theorem Evo.drawn (n : Nat) : Evo φ I σ w φ I σ { w with drawn := n } :=
  ⟨fun _ _ h => h, fun _ h => h, fun _ h => .inl h, fun _ h => .inl h, Nat.le_refl _, fun _ _ => rfl, fun _ _ _ => rfl, rfl, rfl, rfl, rfl⟩
theorem Sim.drawn (h : Sim φ I σ w) (n : Nat) : Sim φ I σ { w with drawn := n } := by
  have rel : ∀ v c, Rel φ I w v c → Rel φ I { w with drawn := n } v c := fun v c hr => hr.evo h (Evo.drawn n)
  refine ⟨h.dom, h.blk, fun l b hl => ?_, h.notI, h.inj, h.imm, h.base⟩
  obtain ⟨x, hx, hb⟩ := h.live l b hl
  refine ⟨x, hx, ?_⟩
  cases hb with
  | row hh hfz hpos hz hsz ho hr => exact .row hh hfz hpos hz hsz ho fun i j e v h1 h2 => rel _ _ (hr i j e v h1 h2)
  | map hh hn hr => exact .map hh hn fun i kv e h1 h2 => ⟨rel _ _ (hr i kv e h1 h2).1, rel _ _ (hr i kv e h1 h2).2⟩
theorem count_all {n : Nat} : (Array.replicate n false).toList.count false ≤ n := by simp
theorem nofalse {n k : Nat} (h : (Array.replicate n false).getD k false = true) : False := by
  by_cases hk : k < n <;> simp [hk] at h
theorem cw_drw {p : Plan} (h : pwp P Q p f σ) : CWof planOf P nt (.drw p) f σ Q := fun code hc φ I w a hs hf => by
  cases code <;> (try simp only [compC, Option.some.injEq, reduceCtorEq, Option.map_eq_some_iff, Option.bind_eq_some_iff, and_false, exists_false] at hc)
  case region id ops d =>
    cases d
    · simp [compC] at hc
    · simp only [compC, Option.map_eq_some_iff, C.drw.injEq] at hc
      obtain ⟨p', hp', rfl⟩ := hc
      unfold planOf at hp'
      split at hp'
      · rename_i hm
        split at hp'
        · rename_i R hR
          simp only [Option.some.injEq] at hp'
          subst hp'
          have ht : Tab P nt ops R ((List.range ops.size).map (aftL ops)) (tblGo ((List.range ops.size).map (aftL ops)) []) :=
            ⟨hR, fun i hi => by simp [hi], tblGo_ok _ _ _ rfl fun i x hx => by simp at hx⟩
          refine wp_region_any hm (any_ok ht ops.size _ [] _ f f.env σ φ I _ a ?_ count_all (hs.drawn _) (hf.evo hs (Evo.drawn _)) (Evo.drawn _) h)
          refine ⟨by simp, trivial, fun k hk => ?_, fun k hk => ?_, fun k hk => by simp at hk, fun t _ => rfl⟩
          · exact (nofalse hk).elim
          · exact (nofalse hk).elim
        · simp at hp'
      · simp at hp'
end
end Go.Proofs.YtmjbnfldehbmcaaDoor.Ab
