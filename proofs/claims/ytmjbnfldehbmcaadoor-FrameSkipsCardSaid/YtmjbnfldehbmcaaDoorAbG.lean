/-
The walk over the program's texts, told with what its values say: a part of it. No further condition.
-/
import Derived.Test.YtmjbnfldehbmcaaDoorAbF
namespace Go.Proofs.YtmjbnfldehbmcaaDoor.Ab
open Go.RowKit
set_option linter.unusedVariables false
set_option linter.unusedSimpArgs false
/-- It reads, at most. -/
def Ins.quiet : Ins → Bool
  | .new _ | .box _ | .bslice _ _ _ | .st _ _ _ | .s2b _ | .b2b _ | .mkmap | .mksl _ _ _ _ | .app _ _ _ _ | .call _ _ | .callv _ _ | .defer _ _ | .panic _ | .recover => false
  | _ => true
section
variable {P : Program} {φ : Phi} {I : Nat → Prop} {σ : St} {w w' : World} {nt : Nat} {env : Env} {a : Act}
theorem op_okP {o : Oper} {ins : Ins} {v : V} {σ' : St} (hc : compP P nt o = some ins) (hs : Sim φ I σ w) (hf : EnvR φ I w nt env a) (he : evI env σ ins = some (v, σ')) :
    Acts P φ I σ w a o v σ' ∧ (ins.quiet = true → σ' = σ ∧ Quiet P φ I w a o v) := by
  have qu : (σ' = σ ∧ Quiet P φ I w a o v) → Acts P φ I σ w a o v σ' ∧ (ins.quiet = true → σ' = σ ∧ Quiet P φ I w a o v) := fun h => ⟨by obtain ⟨rfl, h2⟩ := h; exact h2.acts hs, fun _ => h⟩
  have ac : ins.quiet = false → Acts P φ I σ w a o v σ' → Acts P φ I σ w a o v σ' ∧ (ins.quiet = true → σ' = σ ∧ Quiet P φ I w a o v) := fun h k => ⟨k, fun h' => by rw [h] at h'; simp at h'⟩
  unfold compP at hc
  split at hc
  case h_1 x ho => -- move
    simp only [Option.map_eq_some_iff] at hc
    obtain ⟨y, hy, rfl⟩ := hc
    simp only [evI, Option.some.injEq, Prod.mk.injEq] at he
    obtain ⟨rfl, rfl⟩ := he
    exact qu ⟨rfl, quiet_mv (.inl ho) hf hy⟩
  case h_2 x ho =>
    simp only [Option.map_eq_some_iff] at hc
    obtain ⟨y, hy, rfl⟩ := hc
    simp only [evI, Option.some.injEq, Prod.mk.injEq] at he
    obtain ⟨rfl, rfl⟩ := he
    exact qu ⟨rfl, quiet_mv (.inr ho) hf hy⟩
  case h_3 c x y ho =>
    simp only [Option.bind_eq_some_iff, Option.map_eq_some_iff] at hc
    obtain ⟨c', hc1, x', hx, y', hy, rfl⟩ := hc
    simp only [evI] at he
    split at he <;> simp only [Option.some.injEq, Prod.mk.injEq, reduceCtorEq] at he
    rename_i b hb
    obtain ⟨rfl, rfl⟩ := he
    exact qu ⟨rfl, quiet_pick ho hf hc1 hx hy hb rfl⟩
  case h_4 t ho =>
    simp only [Option.map_eq_some_iff] at hc
    obtain ⟨z, hz, rfl⟩ := hc
    exact ac rfl (acts_new ho hz hs he)
  case h_5 t x ho =>
    simp only [Option.map_eq_some_iff] at hc
    obtain ⟨y, hy, rfl⟩ := hc
    exact ac rfl (acts_box ho hs hf hy he)
  case h_6 t parts ho =>
    split at hc
    · rename_i fs hu
      simp only [Option.bind_eq_some_iff, Option.map_eq_some_iff] at hc
      obtain ⟨z, hz, ps, hps, hc⟩ := hc
      split at hc
      · rename_i hall
        subst hc
        exact qu (quiet_build ho hu hz hall hps hf he)
      · subst hc; simp [evI] at he
    · simp at hc
  case h_7 t len parts ho =>
    split at hc
    · rename_i e hu
      simp only [Option.bind_eq_some_iff] at hc
      obtain ⟨z, hz, hc⟩ := hc
      split at hc
      · rename_i hlim
        simp only [Option.map_eq_some_iff] at hc
        obtain ⟨ps, hps, rfl⟩ := hc
        exact ac rfl (acts_bslice ho hu hz hlim (by simpa only [Option.map_eq_map] using hps) hs hf he)
      · simp at hc
    · simp at hc
  case h_8 t x ho =>
    simp only [Option.bind_eq_some_iff] at hc
    obtain ⟨d, hd, hc⟩ := hc
    split at hc
    · rename_i hag
      simp only [Option.bind_eq_some_iff, Option.map_eq_some_iff] at hc
      obtain ⟨n, hn, x', hx, rfl⟩ := hc
      exact qu (quiet_lda ho hd hag hn hs hf hx he)
    · rename_i hag
      simp only [Option.map_eq_some_iff] at hc
      obtain ⟨x', hx, rfl⟩ := hc
      exact qu (quiet_ld ho hd (by simpa using hag) hs hf hx he)
  case h_9 t x y ho =>
    simp only [Option.bind_eq_some_iff, Option.map_eq_some_iff] at hc
    obtain ⟨n, hn, x', hx, y', hy, rfl⟩ := hc
    exact ac rfl (acts_st ho hn hs hf hx hy he)
  case h_10 x ho =>
    simp only [Option.map_eq_some_iff] at hc
    obtain ⟨x', hx, rfl⟩ := hc
    exact qu (quiet_nilck ho hf hx he)
  case h_11 op t x y u ho =>
    simp only [Option.bind_eq_some_iff] at hc
    obtain ⟨x', hx, y', hy, hc⟩ := hc
    unfold compBin at hc
    have hcase : ∀ neg : Bool, op = (if neg then .neq else .eql) → ((P.underlying t).bind fun
      | .int _ | .string => some (.bin op x' y')
      | .bool => some (.beq neg x' y')
      | .pointer _ => some (.nq neg 1 x' y')
      | .slice _ => some (.nq neg 2 x' y')
      | .func _ _ _ => some (.nq neg 3 x' y')
      | .interface _ => if (isConstO x || isConstO y) then some (.nq neg 4 x' y') else none
      | .map _ _ => some (.nq neg 5 x' y')
      | .struct _ => (kinds P 20 t).bind fun ks => if P.eqGuardType P.depth t = false then some (.eqa neg ks x' y') else none
      | _ => none) = some ins → Acts P φ I σ w a o v σ' ∧ (ins.quiet = true → σ' = σ ∧ Quiet P φ I w a o v) := fun neg hop hc => by
      simp only [Option.bind_eq_some_iff] at hc
      obtain ⟨d, hd, hc⟩ := hc
      split at hc
      · simp only [Option.some.injEq] at hc; subst hc; exact qu (quiet_bin ho hf hx hy he)
      · simp only [Option.some.injEq] at hc; subst hc; exact qu (quiet_bin ho hf hx hy he)
      · simp only [Option.some.injEq] at hc; subst hc; exact qu (quiet_beq ho hop hd hf hx hy he)
      · simp only [Option.some.injEq] at hc; subst hc; exact qu (quiet_nq (fam := 1) ho hop hd rfl (by decide) (fun h => by simp at h) hf hx hy he)
      · simp only [Option.some.injEq] at hc; subst hc; exact qu (quiet_nq (fam := 2) ho hop hd rfl (by decide) (fun h => by simp at h) hf hx hy he)
      · simp only [Option.some.injEq] at hc; subst hc; exact qu (quiet_nq (fam := 3) ho hop hd rfl (by decide) (fun h => by simp at h) hf hx hy he)
      · split at hc <;> simp only [Option.some.injEq, reduceCtorEq] at hc
        rename_i hcc
        subst hc; exact qu (quiet_nq (fam := 4) ho hop hd rfl (by decide) (fun _ => hcc) hf hx hy he)
      · simp only [Option.some.injEq] at hc; subst hc; exact qu (quiet_nq (fam := 5) ho hop hd rfl (by decide) (fun h => by simp at h) hf hx hy he)
      · simp only [Option.bind_eq_some_iff] at hc
        obtain ⟨ks, hks, hc⟩ := hc
        split at hc <;> simp only [Option.some.injEq, reduceCtorEq] at hc
        rename_i hg
        subst hc
        exact qu (quiet_eqa ho hop hd hks hg hf hx hy he)
      · simp at hc
    split at hc
    · exact hcase false rfl hc
    · exact hcase true rfl hc
    · simp only [Option.some.injEq] at hc; subst hc; exact qu (quiet_bin ho hf hx hy he)
  case h_12 op t x ho =>
    simp only [Option.map_eq_some_iff] at hc
    obtain ⟨x', hx, rfl⟩ := hc
    exact qu (quiet_un ho hf hx he)
  case h_13 s t x ho =>
    simp only [Option.bind_eq_some_iff] at hc
    obtain ⟨x', hx, hc⟩ := hc
    unfold compConv at hc
    split at hc
    · rename_i ks k hs1 ht1
      simp only [Option.some.injEq] at hc; subst hc
      exact qu (quiet_cvi ho hs1 ht1 hf hx he)
    · rename_i hs1 ht1
      simp only [Option.some.injEq] at hc; subst hc
      exact qu (quiet_cvs ho hs1 ht1 hf hx he)
    · rename_i e hs1 ht1
      split at hc <;> simp only [Option.some.injEq, reduceCtorEq] at hc
      rename_i h8 hsz
      subst hc
      exact ac rfl (acts_s2b ho hs1 ht1 h8 hs hf hx he)
    · rename_i e hs1 ht1
      split at hc <;> simp only [Option.some.injEq, reduceCtorEq] at hc
      rename_i h8
      subst hc
      exact qu (quiet_b2s ho hs1 h8 ht1 hs hf hx he)
    · rename_i e' e hs1 ht1
      split at hc <;> (try (simp only [reduceCtorEq] at hc; done))
      rename_i h8
      split at hc <;> simp only [Option.some.injEq, reduceCtorEq] at hc
      rename_i heq
      subst hc
      subst heq
      exact ac rfl (acts_b2b ho hs1 ht1 h8 hs hf hx he)
    · simp at hc
  case h_14 t x ho =>
    split at hc
    · simp at hc
    · simp at hc
    · rename_i hd1 hd2
      simp only [Option.map_eq_some_iff] at hc
      obtain ⟨x', hx, rfl⟩ := hc
      cases hd : P.underlying t with
      | none => exact absurd hd hd2
      | some d => exact qu (quiet_mki ho hd (fun ms e => hd1 ms (by rw [hd, e])) hf hx he)
  case h_15 fn xs ys ho =>
    simp only [Option.bind_eq_some_iff, Option.map_eq_some_iff] at hc
    obtain ⟨x', hx, y', hy, rfl⟩ := hc
    exact qu (quiet_mkf ho hf hx hy he)
  case h_16 t ho =>
    simp only [Option.some.injEq] at hc; subst hc
    exact ac rfl (acts_mkmap ho hs he)
  case h_17 t l c ho =>
    split at hc
    · rename_i e hu
      simp only [Option.bind_eq_some_iff] at hc
      obtain ⟨z, hz, i, hi, hc⟩ := hc
      split at hc
      · rename_i hb
        simp only [Option.bind_eq_some_iff, Option.map_eq_some_iff] at hc
        obtain ⟨l', hl, c', hc1, rfl⟩ := hc
        exact ac rfl (acts_mksl ho hu hz hi hb hs hf hl hc1 he)
      · simp at hc
    · simp at hc
  case h_18 t x lo hi ho =>
    split at hc
    · rename_i hu
      simp only [Option.bind_eq_some_iff, Option.map_eq_some_iff] at hc
      obtain ⟨x', hx, lo', hlo, hi', hhi, rfl⟩ := hc
      exact qu (quiet_ssl ho hu hf hx hlo hhi he)
    · rename_i e hu
      simp only [Option.bind_eq_some_iff] at hc
      obtain ⟨z, hz, hc⟩ := hc
      split at hc
      · rename_i hzp
        simp only [Option.bind_eq_some_iff, Option.map_eq_some_iff] at hc
        obtain ⟨x', hx, lo', hlo, hi', hhi, rfl⟩ := hc
        exact qu (quiet_lsl ho hu hz hzp hs hf hx hlo hhi he)
      · simp at hc
    · simp at hc
  case h_19 s x f ho =>
    simp only [Option.bind_eq_some_iff] at hc
    obtain ⟨d, hd, hc⟩ := hc
    split at hc
    · rename_i hn
      simp only [Option.map_eq_some_iff] at hc
      obtain ⟨x', hx, rfl⟩ := hc
      exact qu (quiet_fa ho hd hn hf hx he)
    · simp at hc
  case h_20 s x f ho =>
    simp only [Option.bind_eq_some_iff, Option.map_eq_some_iff] at hc
    obtain ⟨d, hd, u, hu, x', hx, rfl⟩ := hc
    exact qu (quiet_fld ho hd hu hf hx he)
  case h_21 t x i ho =>
    simp only [Option.bind_eq_some_iff] at hc
    obtain ⟨x', hx, i', hi, hc⟩ := hc
    split at hc
    · rename_i e hu
      simp only [Option.bind_eq_some_iff] at hc
      obtain ⟨z, hz, hc⟩ := hc
      split at hc <;> simp only [Option.some.injEq, reduceCtorEq] at hc
      subst hc
      exact qu (quiet_ia ho hu hz hs hf hx hi he)
    · rename_i n e hu
      simp only [Option.map_eq_some_iff] at hc
      obtain ⟨z, hz, rfl⟩ := hc
      exact qu (quiet_aa ho hu hz hf hx hi he)
    · simp at hc
  case h_22 t x i ho =>
    split at hc
    · rename_i hu
      simp only [Option.bind_eq_some_iff, Option.map_eq_some_iff] at hc
      obtain ⟨x', hx, i', hi, rfl⟩ := hc
      exact qu (quiet_sx ho hu hf hx hi he)
    · simp at hc
  case h_23 x s t ok ho =>
    split at hc
    · simp at hc
    · simp at hc
    · rename_i hd1 hd2
      simp only [Option.bind_eq_some_iff, Option.map_eq_some_iff] at hc
      obtain ⟨z, hz, x', hx, rfl⟩ := hc
      cases hd : P.underlying t with
      | none => exact absurd hd hd2
      | some d => exact qu (quiet_tas ho hd (fun ms e => hd1 ms (by rw [hd, e])) hz hf hx he)
  case h_24 x i ho =>
    simp only [Option.map_eq_some_iff] at hc
    obtain ⟨x', hx, rfl⟩ := hc
    exact qu (quiet_ext ho hf hx he)
  case h_25 c ho =>
    unfold compB at hc
    split at hc
    · rename_i hcal
      split at hc
      · rename_i t x ht ha
        split at hc
        · rename_i hu
          simp only [Option.map_eq_some_iff] at hc
          obtain ⟨x', hx, rfl⟩ := hc
          exact qu (quiet_slen ho hcal ht ha hu hf hx he)
        · rename_i e hu
          simp only [Option.map_eq_some_iff] at hc
          obtain ⟨x', hx, rfl⟩ := hc
          exact qu (quiet_llen ho hcal ht ha hu hf hx he)
        · simp at hc
      · simp at hc
    · rename_i hcal
      split at hc
      · rename_i t u x y ht hu ha
        split at hc
        · rename_i e ud hte hud
          split at hc
          · rename_i i hi
            split at hc
            · rename_i hcond
              simp only [Option.bind_eq_some_iff, Option.map_eq_some_iff] at hc
              obtain ⟨x', hx, y', hy, rfl⟩ := hc
              exact ac rfl (acts_app ho hcal ht hu ha hte hud hcond.1 hi hcond.2.1 hcond.2.2.1 hcond.2.2.2.1 hcond.2.2.2.2 hs hf hx hy he)
            · simp at hc
          · simp at hc
        · simp at hc
      · simp at hc
    · rename_i hcal
      simp only [Option.map_eq_some_iff] at hc
      obtain ⟨xs, hxs, rfl⟩ := hc
      exact qu (quiet_mm (isMax := true) ho hcal hxs hf he)
    · rename_i hcal
      simp only [Option.map_eq_some_iff] at hc
      obtain ⟨xs, hxs, rfl⟩ := hc
      exact qu (quiet_mm (isMax := false) ho hcal hxs hf he)
    · simp at hc
  case h_26 => simp at hc
theorem plain_of {i : Option Ins} {ins : Ins} (h : onlyPlain i = some ins) : i = some ins ∧ ins.plain = true := by
  unfold onlyPlain at h
  simp only [Option.bind_eq_some_iff] at h
  obtain ⟨j, hj, h⟩ := h
  split at h <;> simp at h
  subst h
  exact ⟨hj, by assumption⟩
theorem op_ok {o : Oper} {ins : Ins} {v : V} {σ' : St} (hc : compOp P nt o = some ins) (hs : Sim φ I σ w) (hf : EnvR φ I w nt env a) (he : evI env σ ins = some (v, σ')) :
    Acts P φ I σ w a o v σ' ∧ (ins.quiet = true → σ' = σ ∧ Quiet P φ I w a o v) := by
  unfold compOp at hc
  split at hc
  · split at hc
    · split at hc <;> simp at hc
      obtain ⟨_, _, rfl⟩ := hc
      simp [evI] at he
    · simp only [Option.bind_eq_some_iff, Option.map_eq_some_iff] at hc
      obtain ⟨_, _, _, _, rfl⟩ := hc
      simp [evI] at he
    · simp at hc; subst hc; simp [evI] at he
    · exact op_okP (plain_of hc).1 hs hf he
  · split at hc
    · simp only [Option.bind_eq_some_iff, Option.map_eq_some_iff] at hc
      obtain ⟨_, _, _, _, rfl⟩ := hc
      simp [evI] at he
    · simp at hc
  · simp only [Option.map_eq_some_iff] at hc
    obtain ⟨_, _, rfl⟩ := hc
    simp [evI] at he
  · exact op_okP (plain_of hc).1 hs hf he
end
end Go.Proofs.YtmjbnfldehbmcaaDoor.Ab
