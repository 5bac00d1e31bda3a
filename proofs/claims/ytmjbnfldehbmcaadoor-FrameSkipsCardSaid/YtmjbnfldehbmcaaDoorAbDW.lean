/-
The walk over the program's texts, told with what its values say: a part of it. No further condition.
-/
import Derived.Test.YtmjbnfldehbmcaaDoorAbDR
import Derived.Test.YtmjbnfldehbmcaaDoorAbDS
namespace Go.Proofs.YtmjbnfldehbmcaaDoor
open Go.Proofs.YtmjbnfldehbmcaaDoor.Ab
set_option linter.unusedVariables false
open Lib (decDigits)
/-- Slices of bytes that nobody writes, in a row that nobody writes. -/
structure Bds (v : V) (us : List V) (bs : List (List UInt8)) : Prop where
  rd : ∀ σ, Rd σ 1 v (us.map ([·]))
  row : v.row = none
  len : us.length = bs.length
  el : ∀ (i : Nat) u b, us[i]? = some u → bs[i]? = some b → (∀ σ, Bs σ u b) ∧ u.row = none
theorem Bds.lenV {v : V} {us : List V} {bs : List (List UInt8)} (h : Bds v us bs) (σ : St) : lenV v = some (.int .i64 bs.length) := by
  have := (h.rd σ).len
  simpa [h.len] using this
theorem Bds.at {v : V} {us : List V} {bs : List (List UInt8)} (h : Bds v us bs) {i : Nat} (hi : i < bs.length) :
    ∃ u b, bs[i]? = some b ∧ (∀ σ, Bs σ u b) ∧ u.row = none ∧ (∀ σ kk, iaV σ 1 v (.int kk i) = some (elA v i)) ∧ (∀ σ, ldV σ (elA v i) = some u) := by
  have hu : us[i]? = some (us[i]'(by rw [h.len]; exact hi)) := List.getElem?_eq_getElem _
  have hb : bs[i]? = some bs[i] := List.getElem?_eq_getElem hi
  obtain ⟨h1, h2⟩ := h.el i _ _ hu hb
  refine ⟨_, _, hb, h1, h2, fun σ kk => (h.rd σ).at (by simpa [h.len] using hi), fun σ => ?_⟩
  rw [(h.rd σ).el (i := i) (e := [us[i]'(by rw [h.len]; exact hi)]) (by rw [List.getElem?_map, hu]; rfl)]
  rfl
theorem light_c (σ : St) (v : V) (us : List V) (bs : List (List UInt8)) (h : Bds v us bs) :
    CCalls Tryd.prog 7 [v] σ (fun o σ' => (∃ r, o = .ret (.bool r) ∧ (r = true → bs.length ≤ 200 ∧ ∀ b ∈ bs, b.length ≤ 6000)) ∧ σ' = σ) := by
  refine w_fn ok7 (by simp [c7]) fun Q hn hr hpq => ?_
  simp only [c7] at *
  have hq : ∀ f' r, f'.ds = [] → f'.env 2 = .bool r → (r = true → bs.length ≤ 200 ∧ ∀ b ∈ bs, b.length ≤ 6000) → Q .ret f' σ := fun f r h1 h2 h3 => hr f _ ⟨h1, .bool r, by simp [retV, resL, resV, one, h2], ⟨r, rfl, h3⟩, rfl⟩
  clear hn hr hpq
  have hlen := h.lenV σ
  refine w_seq ?_
  refine w_regk [0] fun K KP hk hkp => ?_
  simp
  apply hk; clear hk hkp K KP
  refine w_seq ?_
  refine w_seq ?_
  refine w_regk [0, 7] fun K KP hk hkp => ?_
  simp [hlen]
  apply hk; clear hk hkp K KP
  by_cases hc : (200 : Int) < bs.length
  · refine w_yes (vT hc) ?_
    refine w_seq ?_
    refine w_regk [2] fun K KP hk hkp => ?_
    simp
    exact hk _ _ _ (w_ret (hq _ false rfl (by simp) (by simp)))
  refine w_no (vF hc) ?_
  refine w_skip ?_
  refine w_seq ?_
  refine w_regk [0, 3] fun K KP hk hkp => ?_
  simp
  apply hk; clear hk hkp K KP
  refine w_seq ?_
  refine w_seq ?_
  refine w_regk [0, 3, 4] fun K KP hk hkp => ?_
  simp
  apply hk; clear hk hkp K KP
  refine w_block fun Q0 hn0 he0 hx0 hr0 hp0 => ?_
  refine w_loopk [0, 3, 4] (fun n vs σ' => σ' = σ ∧ ∃ i m : Nat, i + n = bs.length ∧ vs = [v, .int .i64 m, .int .i64 i] ∧ m ≤ 6000 * i ∧ ∀ j b, j < i → bs[j]? = some b → b.length ≤ 6000) bs.length ⟨rfl, 0, 0, by simp, by simp, by simp, by simp⟩ ?_
  rintro n vs σ' ⟨e, i, m, hi, rfl, hm, hall⟩ Qz z1 z2 z3 z4
  subst e
  refine w_seq ?_
  refine w_seq ?_
  refine w_regk [0, 3, 4, 11] fun K KP hk hkp => ?_
  simp [hlen]
  apply hk; clear hk hkp K KP
  by_cases hib : i < bs.length
  rotate_left
  · refine w_no (vF hib) ?_
    refine w_exit (z2 _ _ _ (he0 _ _ ?_))
    refine w_seq ?_
    refine w_regk [2] fun K KP hk hkp => ?_
    simp
    refine hk _ _ _ (w_ret (hq _ true rfl (by simp) fun _ => ⟨by omega, fun b hb => ?_⟩))
    obtain ⟨j, hj⟩ := List.mem_iff_getElem?.1 hb
    exact hall j b (by have := (List.getElem?_eq_some_iff.1 hj).1; omega) hj
  refine w_yes (vT hib) ?_
  refine w_skip ?_
  obtain ⟨u, b, hb, hu, hur, ha, hl⟩ := h.at hib
  have hbl := (hu σ').len
  have ha' := fun σ => ha σ .i64
  refine w_seq ?_
  refine w_block fun Q1 hn1 he1 hx1 hr1 hp1 => ?_
  refine w_seq ?_
  refine w_seq ?_
  refine w_regk [0, 3, 4, 19] fun K KP hk hkp => ?_
  simp [ha', hl, hbl]
  apply hk; clear hk hkp K KP
  by_cases hb6 : (6000 : Int) < b.length
  · refine w_yes (vT hb6) ?_
    refine w_seq ?_
    refine w_regk [2] fun K KP hk hkp => ?_
    simp
    exact hk _ _ _ (w_ret (hr1 _ _ (z3 _ _ (hr0 _ _ (hq _ false rfl (by simp) (by simp))))))
  refine w_no (vF hb6) ?_
  refine w_skip ?_
  refine w_seq ?_
  refine w_regk [0, 3, 4] fun K KP hk hkp => ?_
  have hw : IntKind.i64.wrap ((m : Int) + b.length) = ((m + b.length : Nat) : Int) := by rw [IntWalk.i64_in _ (by omega)]; omega
  simp [ha', hl, hbl, hw]
  apply hk; clear hk hkp K KP
  refine w_seq ?_
  refine w_regk [0, 3, 4, 28] fun K KP hk hkp => ?_
  simp
  apply hk; clear hk hkp K KP
  by_cases h2 : (20000 : Int) < ((m + b.length : Nat) : Int)
  · refine w_yes (by simp at h2 ⊢; omega) ?_
    refine w_seq ?_
    refine w_regk [2] fun K KP hk hkp => ?_
    simp
    exact hk _ _ _ (w_ret (hr1 _ _ (z3 _ _ (hr0 _ _ (hq _ false rfl (by simp) (by simp))))))
  refine w_no (by simp at h2 ⊢; omega) ?_
  refine w_skip (w_end (hn1 _ _ ?_))
  refine w_keep [0, 3, 4] ?_
  refine w_reg fun K KP hk hkp => ?_
  have h64 : IntKind.i64.wrap ((i : Int) + 1) = ((i + 1 : Nat) : Int) := by rw [IntWalk.i64_in _ (by omega)]; omega
  simp [h64]
  refine hk _ _ (w_end (z1 (n - 1) _ _ rfl (by omega) ⟨rfl, i + 1, m + b.length, by omega, by simp, by omega, fun j c hj hc => ?_⟩))
  rcases Nat.lt_or_eq_of_le (Nat.lt_succ_iff.1 hj) with h | h
  · exact hall j c h hc
  · subst h; rw [hb] at hc; simp at hc; subst hc; omega
theorem mem_take {α : Type} {l : List α} {i : Nat} {x : α} (h : l[i]? = some x) : l.take (i + 1) = l.take i ++ [x] := by
  rw [List.take_add_one, h]; rfl
def allW (bs : List (List UInt8)) : List UInt8 := bs.flatMap wr
theorem wr_len (b : List UInt8) (h : b.length ≤ 6000) : (wr b).length ≤ 6030 := by
  have : (decDigits b.length).length ≤ 10 := dec_len 9 b.length (by omega)
  simp [wr, hdr]; omega
theorem allW_len : ∀ (bs : List (List UInt8)), (∀ b ∈ bs, b.length ≤ 6000) → (allW bs).length ≤ 6030 * bs.length
  | [], _ => by simp [allW]
  | b :: bs, h => by
    have h1 := wr_len b (h b (by simp))
    have h2 := allW_len bs fun c hc => h c (by simp [hc])
    simp only [allW, List.flatMap_cons, List.length_append, List.length_cons] at h2 ⊢
    omega
theorem fed_all : ∀ (bs : List (List UInt8)), (∀ b ∈ bs, b.length ≤ 6000) → feedS r0 (allW bs) = (r0, bs.map fun b => (1, b))
  | [], _ => by simp [allW, feedS]
  | b :: bs, h => by
    have h1 : feedS r0 (wr b) = (r0, [(1, b)]) := written_fed b (by have := h b (by simp); omega)
    have h2 := fed_all bs fun c hc => h c (by simp [hc])
    unfold allW at h2 ⊢
    rw [List.flatMap_cons, feedS_app, h1, h2]
    simp
end Go.Proofs.YtmjbnfldehbmcaaDoor
