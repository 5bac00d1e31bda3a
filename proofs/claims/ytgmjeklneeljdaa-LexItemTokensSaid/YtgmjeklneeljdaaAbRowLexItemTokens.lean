/-
LexItemTokens: whatever the arguments, the call of the law returns true, and each argument reads afterwards as it read before. No further condition.
-/
import Derived.Test.YtgmjeklneeljdaaRows
import Derived.Test.YtgmjeklneeljdaaAbLxT
import Derived.Test.YtgmjeklneeljdaaAbY
import Derived.WalkKit
import Derived.ProofKit
import Derived.OpenShut
import Derived.ShutString
import Derived.ChangeOld
import Derived.Below
import Derived.SizedLaws
namespace Go.Proofs.Ytgmjeklneeljdaa.lexItemTokens
open Go.ChangeShapes Go.WideShapes Go.ChangeAt Go.RowKit
set_option linter.unusedVariables false
theorem own : ownKnob Try.prog.godebug = none := by kernel_rfl
theorem laidOut : laidOutB Try.prog = true := by kernel_rfl
set_option maxRecDepth 100000 in
theorem lifted (os : Os) (started : os.Started) (H : Type) (enc : TypeId × Value → H) :
    ReturnsInHanded {} Try.checked os 4 .any (Rows.lexItemTokensSpec.pre6 enc Try.prog Try.f4 Rows.lexItemTokensRow.domain false) (Rows.lexItemTokensSpec.post enc Try.prog Try.f4 false true false false) := by
  refine returnsInHanded_of_change_sized (C := Try.checked) own started (by kernel_rfl) Try.func4
    (ChangeSpec.witness6 (enc := enc) (C := Try.checked) false ⟨#[], #[.slice none 0 0], []⟩ 8 (by kernel_rfl) (by kernel_rfl) (by kernel_rfl) (by kernel_rfl)) ?_
  intro W base args ds gs before hval0 hW hcnd hsz0 _
  have hval : ∀ (j : Nat) t v, Try.f4.params[j]? = some t → args[j]? = some v → Value.okWide Try.prog W .any base t v := hval0
  have hW' := hW
  obtain ⟨p, q, hA0, hV, rfl, hfz, hnd⟩ := hW
  have hA : DataW.TrodAll enc Try.prog W 0 (fun _ => true) true Try.f4.params.toList args.toList ds p := hA0
  rw [Try.params4] at hA hval
  have hB := hA
  obtain ⟨v0, vs0, d0, ds0, p0, q0, hargs0, rfl, rfl, h0, r0⟩ := trodAll_cons hA
  obtain ⟨rfl, rfl, rfl⟩ := trodAll_nil r0
  obtain rfl : args = #[v0] := by cases args; simp_all
  obtain ⟨rfl, rfl⟩ := trodVars_none hV
  refine (Go.Proofs.Ytgmjeklneeljdaa.Ab.law_top (P := Try.prog) (k := 4) (n := 9) (ts := [22]) (vs := [v0]) (ats := [.one (.slc (.int .u8 .nil) .nil)]) laidOut (by kernel_rfl) (of_decide_eq_true (by kernel_rfl)) (fun j t v h1 h2 => hval j t v (by simpa using h1) (by simpa using h2)) hB (fun us hu => itemtoks_core W us hu)).mono fun e W' ⟨he, bel, hC⟩ => ?_
  subst he
  exact ⟨_, rfl, _, _, _, [], _, [], hW', trodAll_mk1 (shut_bool Try.underlying4 _), hC, rfl, bel.frame _, fun h => by cases h⟩
theorem over : Rows.lexItemTokensRow.holds Try.pinned (OpenSpec.ofChange Rows.lexItemTokensSpec) :=
  OpenClaim.holds_of_wide 4 Try.f4 rfl rfl rfl rfl rfl rfl rfl ⟨rfl, rfl, rfl, rfl, rfl⟩ rfl rfl rfl rfl rfl (by kernel_rfl) Try.func4 (by kernel_rfl)
    (of_decide_eq_true (by kernel_rfl)) (by unfold Func.isWrapper; first | (rw [if_pos (by decide +kernel)]; kernel_rfl) | (rw [if_neg (by decide +kernel)]; exact ⟨rfl, rfl⟩))
    (fun os started H enc _ => lifted os started H enc)
theorem proved : Rows.LexItemTokensSaid := over
#print axioms proved
end Go.Proofs.Ytgmjeklneeljdaa.lexItemTokens
namespace Go.Proofs.Ytgmjeklneeljdaa
/-- The row, under a short name, for the claim. -/
theorem lexItemTokens_holds : Rows.LexItemTokensSaid := lexItemTokens.proved
end Go.Proofs.Ytgmjeklneeljdaa
