/-
The walk over the program's texts, told with what its values say: a part of it. No further condition.
-/
import Derived.Test.YtmkgmjdbgjiehaaDoorAbSbC
import Derived.Test.YtmkgmjdbgjiehaaDoorAbPt
namespace Go.Proofs.YtmkgmjdbgjiehaaDoor
open Go.Proofs.YtmkgmjdbgjiehaaDoor.Ab
set_option linter.unusedVariables false
set_option linter.unusedSimpArgs false
attribute [local simp] Gr.refl Gr.new Gr.set Gr.kill Nat.add_assoc r_cks chk wantG
variable {E : En Tryd.prog} {B : Int}
theorem iszero_ev (hT : E.T = T) (hB : B = 4294967296) {σ : St} {v : V} {l : List Int} (hv : Nm σ v l) (hl : l.length < 2 ^ 40) (dl : Dg B l) : ev E 61 [v] σ = some (.ret (.bool (decide (vl B l = 0))), σ) := by
  have h2 : (2 : Int) ≤ B := by omega
  have ht := trim_ev hT hv hl
  have hlen := (trim_nm hv).len
  refine ev_same (fd := f61) (o := .ret (.bool (decide (vl B l = 0)))) (by rw [hT]; rfl) (by simp [f61]) rfl ?_ (by simp)
  have hz : ((tr l).length = 0) ↔ vl B l = 0 := by
    rw [tr_cn h2 dl]
    constructor
    · intro h
      by_cases hp : 0 < vl B l
      · exact absurd (List.length_eq_zero_iff.1 h) (cn_nil h2 hp)
      · have := vl_nonneg (show 0 ≤ B by omega) dl; omega
    · intro h; rw [h, cn_zero (Int.le_refl _)]; rfl
  obtain ⟨n, hn⟩ : ∃ n, n = (tr l).length := ⟨_, rfl⟩
  have hlt : (l.take n).length = n := by rw [hn, List.length_take]; have := tr_length l; omega
  rw [← hn] at ht hlen hz
  by_cases h0 : n = 0
  · have h0' := hz.1 h0
    subst h0
    simp at hlen
    simp [f61, d61, ht, hlen, h0']
  · have h0' : ¬ vl B l = 0 := fun h => h0 (hz.2 h)
    simp [f61, d61, ht, hlen, h0', h0]
def intE (B v : Int) : List V := [.bool (decide (v < 0)), magV B v.natAbs]
theorem numV_int (B : Int) (n : Nat) : numV B n = intE B n := by simp [numV, intE]
theorem bsign_ev (hT : E.T = T) (hB : B = 4294967296) {σ : St} (v : Int) (hl : (cn B v.natAbs).length < 2 ^ 40) : ev E 38 [.agg (intE B v)] σ = some (.ret (.int .i64 (if v = 0 then 0 else if v < 0 then -1 else 1)), σ) := by
  have h2 : (2 : Int) ≤ B := by omega
  have hz := fun σ' => iszero_ev hT hB (σ := σ') (magV_nm hB (v := (v.natAbs : Int)) (by omega)) hl (cn_Dg h2 _)
  rw [vl_cn h2 (by omega)] at hz
  have hsc : (magV B (v.natAbs : Int)).scal = true := magV_scal
  refine ev_pure (fd := f38) (o := .ret (.int .i64 (if v = 0 then 0 else if v < 0 then -1 else 1))) (σ' := σ.new (.row 2 [intE B v])) (by rw [hT]; rfl) (by simp [f38]) rfl ?_ (fun k hk => by simp [show k ≠ σ.n by omega]) rfl (by simp)
  obtain ⟨m, hm⟩ : ∃ m, m = v.natAbs := ⟨_, rfl⟩
  unfold intE
  rw [← hm] at hz hsc ⊢
  by_cases h0 : v = 0
  · have hm0 : (m : Int) = 0 := by omega
    simp only [decide_eq_true hm0] at hz
    simp [f38, d38, hz, hsc, h0]
  · by_cases h1 : v < 0
    · have hm0 : ¬ m = 0 := by omega
      simp [f38, d38, hz, hsc, h0, h1, hm0]
    · have hm0 : ¬ m = 0 := by omega
      simp [f38, d38, hz, hsc, h0, h1, hm0]
theorem btext_ev (hB : B = 4294967296) {σ : St} (n : Nat) (hl : (cn B (n : Int)).length < 2 ^ 26) : ev ET 23 [.agg (numV B n)] σ = some (.ret (.str (textF n)), σ) := by
  have h2 : (2 : Int) ≤ B := by omega
  have ht := fun σ' => text_ev hB (σ := σ') (magV_nm hB (v := (n : Int)) (by omega)) magV_old hl (cn_Dg h2 _)
  rw [vl_cn h2 (by omega)] at ht
  have hs := fun σ' => bsign_ev (E := ET) rfl hB (σ := σ') n (by simpa using (show (cn B (n : Int)).length < 2 ^ 40 by omega))
  have hsc : (magV B (n : Int)).scal = true := magV_scal
  refine ev_pure (fd := f23) (o := .ret (.str (textF n))) (σ' := σ.new (.row 2 [numV B n])) rfl (by simp [f23]) rfl ?_ (fun k hk => by simp [show k ≠ σ.n by omega]) rfl (by simp)
  have hs' : ∀ σ', ∃ x : Int, ev ET 38 [.agg (numV B n)] σ' = some (.ret (.int .i64 x), σ') ∧ ¬ x < 0 := fun σ' => ⟨_, by rw [numV_int]; exact hs σ', by split <;> (try split) <;> omega⟩
  obtain ⟨x, hx, hx0⟩ := hs' (σ.new (.row 2 [numV B n]))
  unfold numV at hx ⊢
  simp [f23, d23, hx, hx0, ht, hsc]
theorem u64v {x : Int} (h : 0 ≤ x) (h2 : x < 18446744073709551616) : IntKind.u64.wrap x = x := by rw [wrap_u64]; omega
theorem bof_ev (hT : E.T = T) (hB : B = 4294967296) {σ : St} (n : Nat) (hn : n < 2 ^ 62) : ev E 96 [.int .i64 n] σ = some (.ret (.agg (numV B n)), σ) := by
  have h2 : (2 : Int) ≤ B := by omega
  obtain ⟨s1, hs1⟩ : ∃ s1, s1 = σ.new (.row 2 [[.bool false, .nils]]) := ⟨_, rfl⟩
  have g1 : Gr σ s1 := by rw [hs1]; simp
  obtain ⟨u, τ, a1, a2⟩ := of_ev hT hB (σ := s1) (x := n) (by omega) (by omega)
  have hlen : (cn B (n : Int)).length < 2 ^ 40 := by
    have : (cn B (n : Int)).length ≤ 2 := cn_length h2 (by subst hB; simp; omega)
    omega
  have hb := bnorm_ev hT hB a2.rd a2.old hlen (cn_Dg h2 _) false
  rw [vl_cn h2 (by omega)] at hb
  have hc : τ.H σ.n = some (.row 2 [[.bool false, .nils]]) := by rw [a2.gr.H _ (by rw [hs1]; simp), hs1]; simp
  have hw : IntKind.u64.wrap (n : Int) = n := u64v (by omega) (by omega)
  have hneg : ¬ (n : Int) < 0 := by omega
  have hsc : (magV B (n : Int)).scal = true := magV_scal
  have hns : s1.n = σ.n + 1 := by rw [hs1]; rfl
  refine ev_pure (fd := f96) (o := .ret (.agg (numV B n))) (σ' := τ.set σ.n (.row 2 [numV B n])) (by rw [hT]; rfl) (by simp [f96]) rfl ?_ (fun k hk => ?_) ?_ ?_
  · simp [f96, d96, ← hs1, hw, hneg, a1, hb, hc, numV, hsc]
  · simp [show k ≠ σ.n by omega, a2.gr.H k (by omega), hs1]
  · simp [a2.gr.W, hs1]
  · simp [numV, magV_frz]
theorem join_lo {x y : Int} (hx : 0 ≤ x ∧ x < 4294967296) (hy : 0 ≤ y ∧ y < 4294967296) : IntKind.u64.wrap ↑((y % 2 ^ IntKind.u64.bits).toNat ||| (x * 4294967296 % 2 ^ IntKind.u64.bits).toNat) = x * 4294967296 + y := by
  rw [Nat.or_comm]; exact join_n hx hy
def smallV (n : Nat) : V := if n < 2 ^ 63 then .tup [.int .i64 n, .bool true] else .tup [.int .i64 0, .bool false]
theorem bsmall_ev (hT : E.T = T) (hB : B = 4294967296) {σ : St} (n : Nat) (hl : (cn B (n : Int)).length < 2 ^ 40) : ev E 78 [.agg (numV B n)] σ = some (.ret (smallV n), σ) := by
  have h2 : (2 : Int) ≤ B := by omega
  have hsc : (magV B (n : Int)).scal = true := magV_scal
  obtain ⟨s1, hs1⟩ : ∃ s1, s1 = σ.new (.row 2 [numV B n]) := ⟨_, rfl⟩
  have g1 : Gr σ s1 := by rw [hs1]; simp
  obtain ⟨u, τ, a1, a2⟩ := norm_ev hT (magV_nm (σ := s1) hB (v := (n : Int)) (by omega)) (by omega)
  rw [cn_tr h2] at a2
  have hc : τ.H σ.n = some (.row 2 [numV B n]) := by rw [a2.gr.H _ (by rw [hs1]; simp), hs1]; simp
  have hc1 : s1.H σ.n = some (.row 2 [numV B n]) := by rw [hs1]; simp
  have hval := vl_cn (B := B) h2 (show (0 : Int) ≤ (n : Int) by omega)
  have hdg := cn_Dg (B := B) h2 (n : Int)
  refine ev_pure (fd := f78) (o := .ret (smallV n)) (σ' := τ) (by rw [hT]; rfl) (by simp [f78]) rfl ?_ (fun k hk => ?_) ?_ ?_
  · have hlen := a2.rd.len
    have hat := fun i h => a2.rd.at (k := .i64) (i := i) h
    have hld := fun i h => a2.rd.ld (i := i) h
    obtain ⟨L, hL⟩ : ∃ L, L = cn B (n : Int) := ⟨_, rfl⟩
    rw [← hL] at hlen hat hld hval hdg
    have hbld : numV B n = [.bool false, magV B n] := rfl
    have w0 : IntKind.i64.wrap 1 = 1 := rfl
    have w1 : IntKind.i64.wrap 2 = 2 := rfl
    have m0 : binV .mul (.int .i64 32) (.int .i64 0) = some (.int .i64 0) := rfl
    have m1 : binV .mul (.int .i64 32) (.int .i64 1) = some (.int .i64 32) := rfl
    have s0 : ∀ x : Int, IntKind.u64.wrap x = x → binV .shl (.int .u64 x) (.int .i64 0) = some (.int .u64 x) := fun x h => by
      rw [binV_shl, if_neg (by omega)]; simp [h]
    have o0 : ∀ x : Int, 0 ≤ x ∧ x < 4294967296 → binV .or (.int .u64 0) (.int .u64 x) = some (.int .u64 x) := fun x h => by
      have := join_n (x := 0) (y := x) (by omega) h
      rw [binV_or]; simp only [intBin, BitVec.toNat_or, BitVec.toNat_ofInt]; rw [show (0 : Int) * 4294967296 = 0 by omega] at this; simp only [Int.natCast_pow, Int.cast_ofNat_Int] ; rw [this, show 0 + x = x by omega]
    rw [hbld] at hc hc1 hs1 ⊢
    match L, hL, hlen, hat, hld, hval, hdg with
    | [], hL, hlen, hat, hld, hval, hdg =>
      have h0 : n = 0 := by simp [vl] at hval; omega
      have hsm : smallV n = .tup [.int .i64 0, .bool true] := by rw [h0]; rfl
      simp at hlen
      rw [hsm]
      have wz : IntKind.i64.wrap 0 = 0 := rfl
      simp [f78, d78, b78_0, r_loop, hsc, ← hs1, hc1, hc, a1, hlen, wz]
    | [x], hL, hlen, hat, hld, hval, hdg =>
      have hx : x = n := by simpa [vl] using hval
      have hxd := hdg x (by simp)
      have hl0 := hld 0 (by simp)
      have ha0 := hat 0 (by simp)
      have hr0 : rd [x] 0 = x := rfl
      simp at hlen ha0 hl0
      rw [hr0] at hl0
      have hsm : smallV n = .tup [.int .i64 x, .bool true] := by unfold smallV; rw [if_pos (by omega), hx]
      rw [hsm]
      have v1 : IntKind.u64.wrap x = x := u64v (by omega) (by omega)
      have v5 : IntKind.i64.wrap x = x := by rw [IntWalk.i64_in _ (by omega)]
      have v6 : x ≤ 9223372036854775807 := by omega
      simp [f78, d78, b78_0, r_loop, hsc, ← hs1, hc1, hc, a1, hlen, ha0, hl0, v1, m0, s0 x v1, o0 x (by omega), v5, v6, w0, -binV_or, -binV_shl, -binV_mul]
    | [x, y], hL, hlen, hat, hld, hval, hdg =>
      have hx : x + B * y = n := by simpa [vl] using hval
      have hxd := hdg x (by simp)
      have hyd := hdg y (by simp)
      have hl0 := hld 0 (by simp)
      have ha0 := hat 0 (by simp)
      have hl1 := hld 1 (by simp)
      have ha1 := hat 1 (by simp)
      have hr0 : rd [x, y] 0 = x := rfl
      have hr1 : rd [x, y] 1 = y := rfl
      simp at hlen ha0 hl0 ha1 hl1
      rw [hr0] at hl0
      rw [hr1] at hl1
      have v1 : IntKind.u64.wrap x = x := u64v (by omega) (by omega)
      have v2 : IntKind.u64.wrap y = y := u64v (by omega) (by omega)
      have s32 : binV .shl (.int .u64 y) (.int .i64 32) = some (.int .u64 (y * 4294967296)) := by
        rw [binV_shl, if_neg (by omega)]
        have := shl32 (x := y) (by omega)
        simpa using this
      have o1 : binV .or (.int .u64 x) (.int .u64 (y * 4294967296)) = some (.int .u64 n) := by
        rw [binV_or]
        have := join_lo (x := y) (y := x) (by omega) (by omega)
        simp only [intBin, BitVec.toNat_or, BitVec.toNat_ofInt, Int.natCast_pow, Int.cast_ofNat_Int]
        rw [this, show y * 4294967296 + x = (n : Int) by subst hB; omega]
      by_cases hn : n < 2 ^ 63
      · have hsm : smallV n = .tup [.int .i64 n, .bool true] := by unfold smallV; rw [if_pos hn]
        have v5 : IntKind.i64.wrap (n : Int) = n := by rw [IntWalk.i64_in _ (by omega)]
        have v6 : (n : Int) ≤ 9223372036854775807 := by omega
        rw [hsm]
        simp [f78, d78, b78_0, r_loop, hsc, ← hs1, hc1, hc, a1, hlen, ha0, hl0, ha1, hl1, v1, v2, m0, m1, s0 x v1, o0 x (by omega), s32, o1, v5, v6, w0, w1, -binV_or, -binV_shl, -binV_mul]
      · have hsm : smallV n = .tup [.int .i64 0, .bool false] := by unfold smallV; rw [if_neg hn]
        have v6 : ¬ (n : Int) ≤ 9223372036854775807 := by omega
        rw [hsm]
        simp [f78, d78, b78_0, r_loop, hsc, ← hs1, hc1, hc, a1, hlen, ha0, hl0, ha1, hl1, v1, v2, m0, m1, s0 x v1, o0 x (by omega), s32, o1, v6, w0, w1, -binV_or, -binV_shl, -binV_mul]
    | x :: y :: z :: t, hL, hlen, hat, hld, hval, hdg =>
      have hbig : ¬ n < 2 ^ 63 := by
        intro h
        have : (cn B (n : Int)).length ≤ 2 := cn_length h2 (by subst hB; simp; omega)
        rw [← hL] at this
        simp at this
      have hsm : smallV n = .tup [.int .i64 0, .bool false] := by unfold smallV; rw [if_neg hbig]
      obtain ⟨N, hN⟩ : ∃ N, N = (x :: y :: z :: t).length := ⟨_, rfl⟩
      rw [← hN] at hlen
      have hN2 : (2 : Int) < N := by rw [hN]; simp; omega
      rw [hsm]
      simp [f78, d78, hsc, ← hs1, hc1, hc, a1, hlen, hN2]
  · rw [a2.gr.H k (by rw [hs1]; simp; omega), hs1]; simp [show k ≠ σ.n by omega]
  · rw [a2.gr.W, hs1]; rfl
  · unfold smallV; split <;> simp
end Go.Proofs.YtmkgmjdbgjiehaaDoor
namespace Go.Proofs.YtmkgmjdbgjiehaaDoor
open Go.Proofs.YtmkgmjdbgjiehaaDoor.Ab
set_option linter.unusedVariables false
set_option linter.unusedSimpArgs false
attribute [local simp] Gr.refl Gr.new Gr.set Gr.kill Nat.add_assoc r_cks chk wantG
variable {B : Int}
theorem bcmp_ev (hB : B = 4294967296) {σ : St} (m n : Nat) (hm : (cn B (m : Int)).length < 2 ^ 30) (hn : (cn B (n : Int)).length < 2 ^ 30) :
    ∃ x : Int, ev ET 21 [.agg (numV B m), .agg (numV B n)] σ = some (.ret (.int .i64 x), σ) ∧ (x = 0 ↔ m = n) := by
  have h2 : (2 : Int) ≤ B := by omega
  have hs := fun σ' (k : Nat) (h : (cn B (k : Int)).length < 2 ^ 40) => bsign_ev (E := ET) rfl hB (σ := σ') k (by simpa using h)
  have hsg : ∀ k : Nat, (if (k : Int) = 0 then (0 : Int) else if (k : Int) < 0 then -1 else 1) = if k = 0 then 0 else 1 := fun k => by
    by_cases h : k = 0 <;> simp [h]
  simp only [← numV_int, hsg] at hs
  have hc := fun σ' => cmp_ev hB (σ := σ') (magV_nm hB (v := (m : Int)) (by omega)) magV_old magV_scal (magV_nm hB (v := (n : Int)) (by omega)) magV_old magV_scal (cn_Dg h2 _) (cn_Dg h2 _) (by omega) (by omega)
  rw [vl_cn h2 (by omega), vl_cn h2 (by omega)] at hc
  have s1 : (magV B (m : Int)).scal = true := magV_scal
  have s2 : (magV B (n : Int)).scal = true := magV_scal
  have key : ∃ x : Int, run ET false f21.res [.d f21.body] ⟨envOf [.agg (numV B m), .agg (numV B n)], []⟩ σ = some (.ret (.int .i64 x), (σ.new (.row 2 [numV B m])).new (.row 2 [numV B n])) ∧ (x = 0 ↔ m = n) := by
    have a1 := fun σ' => hs σ' m (by omega)
    have a2 := fun σ' => hs σ' n (by omega)
    unfold numV at a1 a2 ⊢
    have w0 : IntKind.i64.wrap 0 = 0 := rfl
    have wc : ∀ a b : Int, IntKind.i64.wrap (cmpI a b) = cmpI a b := fun a b => by
      rw [IntWalk.i64_in]; unfold cmpI; split <;> (try split) <;> omega
    have hcz : ∀ a b : Int, cmpI a b = 0 ↔ a = b := fun a b => by unfold cmpI; split <;> (try split) <;> omega
    obtain ⟨c, hcc⟩ : ∃ c, c = cmpI (m : Int) n := ⟨_, rfl⟩
    have wc' := wc m n
    have hcz' := hcz m n
    rw [← hcc] at wc' hcz'
    simp only [← hcc] at hc
    by_cases m0 : m = 0
    · by_cases n0 : n = 0
      · simp only [if_pos m0] at a1
        simp only [if_pos n0] at a2
        refine ⟨0, ?_, by omega⟩
        simp [f21, d21, s1, s2, a1, a2, hc, w0]
      · simp only [if_pos m0] at a1
        simp only [if_neg n0] at a2
        refine ⟨-1, ?_, by omega⟩
        simp [f21, d21, s1, s2, a1, a2, hc, w0]
    · by_cases n0 : n = 0
      · simp only [if_neg m0] at a1
        simp only [if_pos n0] at a2
        refine ⟨1, ?_, by omega⟩
        simp [f21, d21, s1, s2, a1, a2, hc, w0]
      · simp only [if_neg m0] at a1
        simp only [if_neg n0] at a2
        refine ⟨c, ?_, by omega⟩
        simp [f21, d21, s1, s2, a1, a2, hc, wc']
  obtain ⟨x, k1, k2⟩ := key
  exact ⟨x, ev_pure (fd := f21) (o := .ret (.int .i64 x)) rfl (by simp [f21]) rfl k1 (fun k hk => by simp [show k ≠ σ.n by omega, show k ≠ σ.n + 1 by omega]) rfl (by simp), k2⟩
end Go.Proofs.YtmkgmjdbgjiehaaDoor
namespace Go.Proofs.YtmkgmjdbgjiehaaDoor.Ab
set_option linter.unusedVariables false
@[simp] theorem noRnd_nil : noRnd [] = true := by unfold noRnd; rfl
@[simp] theorem noRnd_d (d : D) (s : List SE) : noRnd (.d d :: s) = noRnd s := by cases s <;> rfl
@[simp] theorem noRnd_r (l : List RI) (s : List SE) : noRnd (.r l :: s) = noRnd s := by cases s <;> rfl
@[simp] theorem noRnd_p (p : Plan) (s : List SE) : noRnd (.p p :: s) = noRnd s := by cases s <;> rfl
@[simp] theorem noRnd_ar (r : RI) (l : List RI) (p : Plan) (s : List SE) : noRnd (.ar r l p :: s) = noRnd s := by cases s <;> rfl
@[simp] theorem noRnd_ck (l : List RI) (s : List SE) : noRnd (.ck l :: s) = noRnd s := by cases s <;> rfl
@[simp] theorem noRnd_blk (n : Nat) (s : List SE) : noRnd (.blk n :: s) = noRnd s := by cases s <;> rfl
@[simp] theorem noRnd_lp (ts : List Nat) (b : D) (s : List SE) : noRnd (.lp ts b :: s) = noRnd s := by cases s <;> rfl
section
variable {P : Program} (E : En P) (dd : Bool) (rs : List RC) (s : List SE) (f : Fr) (σ : St) (d : Option Nat)
noncomputable def goDf (v : V) (as0 : List V) : Option (CO × St) := match v with
  | .func fn first cap => if noRnd s = true then run E dd rs s ((⟨f.env, .call fn cap (first ++ as0) :: f.ds⟩ : Fr).put d (.tup [])) σ else none
  | _ => none
@[simp] theorem x_defer (dr : Bool) (g : Opd) (as0 : List Opd) : X1 E dd rs s f σ dr ⟨d, none, .defer g as0⟩ = goDf E dd rs s f σ d (g.ev f.env) (evs f.env as0) := by
  unfold X1 stRI goDf
  simp only [wantG]
  cases noRnd s <;> cases g.ev f.env <;> rfl
@[simp] theorem goDf_f (fn : Fn) (first cap as0 : List V) (hn : noRnd s = true) : goDf E dd rs s f σ d (.func fn first cap) as0 = run E dd rs s ((⟨f.env, .call fn cap (first ++ as0) :: f.ds⟩ : Fr).put d (.tup [])) σ := by unfold goDf; simp only [if_pos hn]
end
open Classical in
noncomputable def goK (c : Prop) (x : Option (CO × St)) : Option (CO × St) := if c then x else none
@[simp] theorem goK_t (x : Option (CO × St)) : goK True x = x := by unfold goK; exact if_pos trivial
@[simp] theorem goK_f (x : Option (CO × St)) : goK False x = none := by unfold goK; exact if_neg id
theorem r_ckk {P : Program} (E : En P) (dd : Bool) (rs : List RC) (s : List SE) (f : Fr) (σ : St) (q : RI) (qs : List RI) : run E dd rs (.ck (q :: qs) :: s) f σ = goK (chk q f σ) (run E dd rs (.ck qs :: s) f σ) := by
  rw [r_cks]; rfl
def Fr.dd (f : Fr) : List AD := f.ds
@[simp] theorem dd_put (f : Fr) (d : Option Nat) (v : V) : (f.put d v).dd = f.dd := by cases d <;> rfl
@[simp] theorem dd_mk (env : Env) (ds : List AD) : (Fr.mk env ds).dd = ds := by cases ds <;> rfl
@[simp] theorem pan_nil2 {P : Program} (E : En P) (dd : Bool) (rs : List RC) (s : List SE) (f : Fr) (σ : St) (v : V) (dr : Bool) (h : f.dd = []) (hn : noRnd s = true) : panF E (run E) dd dr rs f v s σ = some (ct rs (.panic v, σ)) := pan_nil E dd rs s f σ v dr h hn
section
variable {P : Program} {E : En P} {rs : List RC} {env : Env} {σ σ' : St} {k : FuncId} {cap args : List V} {v u : V} {dr : Bool} {f : Fr} {s : List SE} {fd : FD} {m m' : Md}
theorem dF_run (h : E.T k = some fd) (hl : (args ++ cap).length ≤ fd.nt) (hr : recHead fd.body = none) {o : CO} (e : run E true fd.res [.d fd.body] ⟨envOf (args ++ cap), []⟩ σ = some (o, σ')) : dF E (run E) k (args ++ cap) m σ = some (o, m, σ') := by
  unfold dF
  rw [h]
  simp only [if_pos hl, hr, e, Option.map_some]
theorem dF_rec (h : E.T k = some fd) (hl : (args ++ cap).length ≤ fd.nt) {d : Nat} {l : List RI} {c : D} (hr : recHead fd.body = some (d, l, c)) {o : CO} (e : run E true fd.res [.r l, .d c] ((⟨envOf (args ++ cap), []⟩ : Fr).put (some d) (recV m)) σ = some (o, σ')) : dF E (run E) k (args ++ cap) m σ = some (o, recM m, σ') := by
  unfold dF
  rw [h]
  simp only [if_pos hl, hr, e, Option.map_some]
theorem fin_dret (h : dF E (run E) k (args ++ cap) .ret σ = some (.ret u, .ret, σ')) : finD E (run E) false rs env [.call (.func k) cap args] .ret σ = (retV (rsOf rs) env σ').map fun v => ct rs (.ret v, σ') := by
  show finF E (run E) rs env [.call (.func k) cap args] .ret σ = _
  unfold finF
  rw [h]; rfl
theorem pan_dpan (hn : noRnd s = true) (hf : f.ds = [.call (.func k) cap args]) (h : dF E (run E) k (args ++ cap) (.pan v) σ = some (.ret u, .pan v, σ')) : panF E (run E) false dr rs f v s σ = some (ct rs (.panic v, σ')) := by
  unfold panF
  rw [if_pos hn, hf]
  have : ∀ rs env, finD E (run E) false rs env [.call (.func k) cap args] (.pan v) σ = some (ct rs (.panic v, σ')) := fun rs env => by
    show finF E (run E) rs env [.call (.func k) cap args] (.pan v) σ = _
    unfold finF
    rw [h]; rfl
  rw [this, this, ct_any]
  cases dr <;> rfl
theorem pan_drec (hn : noRnd s = true) (hf : f.ds = [.call (.func k) cap args]) (h : dF E (run E) k (args ++ cap) (.pan v) σ = some (.ret u, .rcv v, σ')) : panF E (run E) false false rs f v s σ = (retV (rsOf rs) f.env σ').map fun v => ct rs (.ret v, σ') := by
  unfold panF
  rw [if_pos hn, hf]
  show finF E (run E) rs f.env [.call (.func k) cap args] (.pan v) σ = _
  unfold finF
  rw [h]; rfl
end
end Go.Proofs.YtmkgmjdbgjiehaaDoor.Ab
namespace Go.Proofs.YtmkgmjdbgjiehaaDoor
open Go.Proofs.YtmkgmjdbgjiehaaDoor.Ab
set_option linter.unusedVariables false
set_option linter.unusedSimpArgs false
def pR (L : List TK) (i : Nat) (d : Int) : Blk := .row 3 [[.islc 4 (L.map tkE), .int .i64 i, .int .i64 d]]
def failV (a b e : Nat) : V := .iface 62 (.agg [.int .i64 a, .int .i64 b, .int .i64 e])
def ix (L r : List TK) : Nat := L.length - r.length
structure Gd (L : List TK) : Prop where
  len : L.length < 2 ^ 40
  num : ∀ t ∈ L, t.kind = 3 → t.txt.all digD = true ∧ t.txt.length < 2 ^ 26
structure Ps (σ : St) (p : Nat) (L r : List TK) (d : Int) : Prop where
  lt : p < σ.n
  H : σ.H p = some (pR L (ix L r) d)
  suf : r <:+ L
  gd : Gd L
structure Tn (σ σ' : St) (p : Nat) : Prop where
  n : σ.n ≤ σ'.n
  H : ∀ l, l < σ.n → l ≠ p → σ'.H l = σ.H l
  W : σ'.W = σ.W
section
variable {σ σ' τ : St} {p : Nat} {L r : List TK} {d : Int}
theorem Tn.refl (σ : St) (p : Nat) : Tn σ σ p := ⟨Nat.le_refl _, fun _ _ _ => rfl, rfl⟩
theorem Tn.new (h : Tn σ σ' p) (b : Blk) : Tn σ (σ'.new b) p := ⟨by have := h.n; simp; omega, fun l hl hn => by have := h.n; simp [show l ≠ σ'.n by omega, h.H l hl hn], h.W⟩
theorem Tn.set (h : Tn σ σ' p) {l : Nat} (hl : σ.n ≤ l) (b : Blk) : Tn σ (σ'.set l b) p := ⟨h.n, fun k hk hn => by simp [show k ≠ l by omega, h.H k hk hn], h.W⟩
theorem Tn.put (h : Tn σ σ' p) (b : Blk) : Tn σ (σ'.set p b) p := ⟨h.n, fun k hk hn => by simp [hn, h.H k hk hn], h.W⟩
theorem Tn.trans (h : Tn σ σ' p) (k : Tn σ' τ p) : Tn σ τ p := ⟨Nat.le_trans h.n k.n, fun l hl hn => (k.H l (Nat.lt_of_lt_of_le hl h.n) hn).trans (h.H l hl hn), k.W.trans h.W⟩
theorem gr_tn (h : Gr σ σ') (p : Nat) : Tn σ σ' p := ⟨h.n, fun l hl _ => h.H l hl, h.W⟩
theorem Ps.gr (h : Ps σ p L r d) (g : Gr σ σ') : Ps σ' p L r d := ⟨Nat.lt_of_lt_of_le h.lt g.n, by rw [g.H p h.lt, h.H], h.suf, h.gd⟩
theorem Ps.put (h : Ps σ p L r d) {r' : List TK} (d' : Int) (hs : r' <:+ L) : Ps (σ.set p (pR L (ix L r') d')) p L r' d' := ⟨h.lt, by simp, hs, h.gd⟩
theorem Ps.same (h : Ps σ p L r d) : σ.set p (pR L (ix L r) d) = σ := by
  refine St.ext' (fun l => ?_) rfl rfl
  simp only [set_H]; split
  · rename_i e; rw [e, h.H]
  · rfl
theorem Ps.at {t : TK} (h : Ps σ p L (t :: r) d) : L[ix L (t :: r)]? = some t := by
  obtain ⟨x, hx⟩ := h.suf
  rw [← hx, ix, List.length_append, Nat.add_sub_cancel, List.getElem?_append_right (Nat.le_refl _), Nat.sub_self]; rfl
theorem ix_cons {t : TK} (hs : (t :: r) <:+ L) : ix L r = ix L (t :: r) + 1 := by
  have := hs.length_le; simp [ix] at *; omega
theorem suf_tail {t : TK} (hs : (t :: r) <:+ L) : r <:+ L := (List.suffix_cons t r).trans hs
theorem ix_le : ix L r ≤ L.length := by unfold ix; omega
end
section
variable {E : En Tryd.prog} {k : FuncId} {fd : FD} {vs : List V} {σ σ' : St} {o o' : CO} {p : Nat} {L r r' : List TK} {d d' : Int}
theorem frzB_pR (H : Nat → Option Blk) (n : Nat → Bool) (i : Nat) (d : Int) : frzB H n (pR L i d) = pR L i d := by simp [frzB, pR]
theorem ev_ps (h : E.T k = some fd) (hl : vs.length ≤ fd.nt) (hz : fd.fz = .all) (hr : run E false fd.res [.d fd.body] ⟨envOf vs, []⟩ σ = some (o, σ')) (hp : p < σ.n) {i : Nat} (hp' : σ'.H p = some (pR L i d)) (ht : Tn σ σ' p)
    (ho : frzO σ'.H (fun l => decide (l < σ.n)) o = o') : ev E k vs σ = some (o', σ.set p (pR L i d)) :=
  ev_set h hl hz hr hp (by rw [hp']; simp [frzB_pR]) ht.H ht.W (fun e => by rw [← e, hp']) ho
theorem cut_ps (hp : p < σ.n) {i : Nat} (hp' : σ'.H p = some (pR L i d)) (ht : Tn σ σ' p) (ho : frzO σ'.H (fun l => decide (l < σ.n)) o = o') : cutR .all σ (o, σ') = (o', σ.set p (pR L i d)) :=
  cut_set hp (by rw [hp']; simp [frzB_pR]) ht.H ht.W (fun e => by rw [← e, hp']) ho
theorem frz_fail (H : Nat → Option Blk) (n : Nat → Bool) (a b e : Nat) : frzO H n (.panic (failV a b e)) = .panic (failV a b e) := by
  rfl
end
variable {E : En Tryd.prog} {σ : St} {p : Nat} {L r : List TK} {d : Int}
attribute [local simp] Gr.refl Gr.new Gr.set Gr.kill Nat.add_assoc r_cks chk wantG
theorem ia_tk {σ : St} {L : List TK} {i : Nat} {t : TK} (ha : L[i]? = some t) (k : IntKind) : iaV σ 4 (.islc 4 (L.map tkE)) (.int k i) = some (.iptr (tkE t) 0) := by simp [iaV, ha]
theorem frz_tk (H : Nat → Option Blk) (n : Nat → Bool) (t : TK) : frzO H n (.ret (.agg (tkE t))) = .ret (.agg (tkE t)) := by simp [tkE]
theorem tkE_eq (t : TK) : tkE t = [.int .i64 t.kind, .str t.txt, .int .i64 t.fr, .int .i64 t.to] := rfl
def z4 : List V := [.int .i64 0, .str [], .int .i64 0, .int .i64 0]
theorem now_ev (hT : E.T = T) {t : TK} (h : Ps σ p L (t :: r) d) : ev E 32 [.ptr p 0 0] σ = some (.ret (.agg (tkE t)), σ) := by
  have hp := h.H
  have ha := h.at
  have hn := h.lt
  refine ev_pure (fd := f32) (o := .ret (.agg (tkE t))) (σ' := (σ.new (.row 4 [z4])).set σ.n (.row 4 [tkE t])) (by rw [hT]; rfl) (by simp [f32]) rfl ?_ (fun k hk => by simp [show k ≠ σ.n by omega]) rfl (frz_tk _ _ _)
  obtain ⟨i, hi⟩ : ∃ i, i = ix L (t :: r) := ⟨_, rfl⟩
  rw [← hi] at hp ha
  simp only [pR] at hp
  have hne : ¬ p = σ.n := by omega
  have hia := fun σ' => ia_tk (σ := σ') ha .i64
  rw [tkE_eq] at hia ⊢
  simp [f32, d32, hp, hne, hia, z4]
theorem is_ev (hT : E.T = T) {t : TK} (h : Ps σ p L (t :: r) d) (s : List UInt8) : ev E 49 [.ptr p 0 0, .str s] σ = some (.ret (.bool (isT s (t :: r))), σ) := by
  have hn := now_ev hT h
  refine ev_pure (fd := f49) (o := .ret (.bool (isT s (t :: r)))) (σ' := (σ.new (.row 4 [z4])).set σ.n (.row 4 [tkE t])) (by rw [hT]; rfl) (by simp [f49]) rfl ?_ (fun k hk => by simp [show k ≠ σ.n by omega]) rfl (by simp)
  rw [tkE_eq] at hn ⊢
  unfold isT
  by_cases h2 : t.kind = 2
  · have h2' : (t.kind : Int) = 2 := by omega
    by_cases hs : t.txt = s
    · simp [f49, d49, hn, h2, hs, z4]
    · simp [f49, d49, hn, h2, hs, z4]
  · have h2' : ¬ (t.kind : Int) = 2 := by omega
    by_cases h4 : t.kind = 4
    · have h4' : (t.kind : Int) = 4 := by omega
      by_cases hs : t.txt = s
      · simp [f49, d49, hn, h4, hs, z4]
      · simp [f49, d49, hn, h4, hs, z4]
    · have h4' : ¬ (t.kind : Int) = 4 := by omega
      simp [f49, d49, hn, h2, h4, h2', h4', z4]
theorem take_ev (hT : E.T = T) {t : TK} (h : Ps σ p L (t :: r) d) (s : List UInt8) : ev E 27 [.ptr p 0 0, .str s] σ = some (.ret (.bool (isT s (t :: r))), σ.set p (pR L (ix L (if isT s (t :: r) = true then r else t :: r)) d)) := by
  have hi := is_ev hT h s
  have hp := h.H
  have hx := ix_cons h.suf
  have hil := ix_le (L := L) (r := t :: r)
  have hL := h.gd.len
  cases hs : isT s (t :: r) with
  | false =>
    rw [hs] at hi
    simp only [Bool.false_eq_true, if_false]
    rw [h.same]
    refine ev_same (fd := f27) (o := .ret (.bool false)) (by rw [hT]; rfl) (by simp [f27]) rfl ?_ (by simp)
    simp [f27, d27, hi]
  | true =>
    rw [hs] at hi
    simp only [if_true]
    refine ev_ps (fd := f27) (o := .ret (.bool true)) (σ' := σ.set p (pR L (ix L r) d)) (by rw [hT]; rfl) (by simp [f27]) rfl ?_ h.lt (by simp) ((Tn.refl _ _).put _) (by simp)
    have hw : IntKind.i64.wrap ((ix L (t :: r) : Int) + 1) = ((ix L r : Nat) : Int) := by rw [IntWalk.i64_in _ (by omega)]; omega
    obtain ⟨i, hi'⟩ : ∃ i, i = ix L (t :: r) := ⟨_, rfl⟩
    obtain ⟨j, hj⟩ : ∃ j, j = ix L r := ⟨_, rfl⟩
    rw [← hi'] at hp hw
    rw [← hj] at hw ⊢
    simp only [pR] at hp ⊢
    simp [f27, d27, hi, hp, hw]
end Go.Proofs.YtmkgmjdbgjiehaaDoor
namespace Go.Proofs.YtmkgmjdbgjiehaaDoor
open Go.Proofs.YtmkgmjdbgjiehaaDoor.Ab
set_option linter.unusedVariables false
set_option linter.unusedSimpArgs false
attribute [local simp] Gr.refl Gr.new Gr.set Gr.kill Nat.add_assoc r_cks chk wantG
variable {E : En Tryd.prog} {σ : St} {p : Nat} {L r : List TK} {d : Int} {B : Int}
theorem fail_ev (hT : E.T = T) {t : TK} (h : Ps σ p L (t :: r) d) (e : Nat) : ev E 33 [.ptr p 0 0, .int .i64 e] σ = some (.panic (failV t.fr t.to e), σ) := by
  have hn := now_ev hT h
  rw [tkE_eq] at hn
  refine ev_same (fd := f33) (o := .panic (failV t.fr t.to e)) (by rw [hT]; rfl) (by simp [f33]) rfl ?_ (frz_fail _ _ _ _ _)
  simp [f33, d33, hn, failV]
theorem miss_ev (hT : E.T = T) {t : TK} (h : Ps σ p L (t :: r) d) : ev E 51 [.ptr p 0 0] σ = some (.panic (failV t.fr t.to (if t.kind = 0 then 11 else 21)), σ) := by
  have hn := now_ev hT h
  rw [tkE_eq] at hn
  refine ev_same (fd := f51) (o := .panic (failV t.fr t.to (if t.kind = 0 then 11 else 21))) (by rw [hT]; rfl) (by simp [f51]) rfl ?_ (frz_fail _ _ _ _ _)
  have h1 := fail_ev hT h 11
  have h2 := fail_ev hT h 21
  simp at h1 h2
  by_cases hk : t.kind = 0
  · simp [f51, d51, hn, hk, h1]
  · simp [f51, d51, hn, hk, h2]
def Out {α : Type} (σ : St) (p : Nat) (L : List TK) (d : Int) (enc : α → V) : Rs α → Option (CO × St)
  | .off => none
  | .ok a r => some (.ret (enc a), σ.set p (pR L (ix L r) d))
  | .bad a b e r => some (.panic (failV a b e), σ.set p (pR L (ix L r) (if e = 13 then d + 1 else d)))
theorem out_miss {α : Type} {enc : α → V} {t : TK} (h : Ps σ p L (t :: r) d) : Out σ p L d enc (missT (t :: r)) = some (.panic (failV t.fr t.to (if t.kind = 0 then 11 else 21)), σ) := by
  have e : ¬ (if t.kind = 0 then 11 else 21) = 13 := by split <;> omega
  show some (CO.panic (failV t.fr t.to (if t.kind = 0 then 11 else 21)), σ.set p (pR L (ix L (t :: r)) (if (if t.kind = 0 then 11 else 21) = 13 then d + 1 else d))) = _
  rw [if_neg e, h.same]
theorem takeT_eq (s : List UInt8) (t : TK) (r : List TK) : takeT s (t :: r) = if isT s (t :: r) = true then some r else none := rfl
theorem wantT_eq (s : List UInt8) (t : TK) (r : List TK) : wantT s (t :: r) = if isT s (t :: r) = true then .ok () r else missT (t :: r) := by
  unfold wantT; rw [takeT_eq]; by_cases h : isT s (t :: r) = true <;> simp [h]
theorem want_ev (hT : E.T = T) {t : TK} (h : Ps σ p L (t :: r) d) (s : List UInt8) : ev E 29 [.ptr p 0 0, .str s] σ = Out σ p L d (fun _ => .agg (tkE t)) (wantT s (t :: r)) := by
  rw [wantT_eq]
  obtain ⟨s1, hs1⟩ : ∃ s1, s1 = ((σ.new (.row 4 [z4])).new (.row 4 [z4])).set (σ.n + 1) (.row 4 [tkE t]) := ⟨_, rfl⟩
  have g1 : Gr σ s1 := by rw [hs1]; exact ((Gr.refl σ).new _ |>.new _).set (by simp) _
  have hlt := h.lt
  have h1 := h.gr g1
  have hn := now_ev hT (h.gr (show Gr σ (σ.new (.row 4 [z4])) by simp))
  have ht := take_ev hT h1 s
  have hne : ¬ σ.n = p := by omega
  have hne1 : ¬ σ.n + 1 = p := by omega
  have c1 : s1.H σ.n = some (.row 4 [z4]) := by rw [hs1]; simp
  have c2 : s1.H (σ.n + 1) = some (.row 4 [tkE t]) := by rw [hs1]; simp
  cases hs : isT s (t :: r) with
  | true =>
    rw [hs] at ht
    simp only [if_true] at ht ⊢
    refine ev_ps (fd := f29) (o := .ret (.agg (tkE t))) (σ' := (s1.set p (pR L (ix L r) d)).set σ.n (.row 4 [tkE t])) (by rw [hT]; rfl) (by simp [f29]) rfl ?_ h.lt (by simp [show ¬ p = σ.n by omega]) (((gr_tn g1 p).put _).set (Nat.le_refl _) _) (frz_tk _ _ _)
    rw [tkE_eq] at hn c2 hs1 ⊢
    unfold z4 at hn hs1 c1
    simp [f29, d29, hn, ← hs1, ht, hne, hne1, c1, c2]
  | false =>
    rw [hs] at ht
    simp only [Bool.false_eq_true, if_false] at ht ⊢
    rw [h1.same] at ht
    have hm := miss_ev hT h1
    rw [out_miss h]
    refine ev_pure (fd := f29) (o := .panic (failV t.fr t.to (if t.kind = 0 then 11 else 21))) (σ' := s1) (by rw [hT]; rfl) (by simp [f29]) rfl ?_ g1.H g1.W (frz_fail _ _ _ _ _)
    rw [tkE_eq] at hn c2 hs1
    unfold z4 at hn hs1 c1
    simp [f29, d29, hn, ← hs1, ht, hm]
theorem next_ev (hT : E.T = T) {t : TK} (h : Ps σ p L (t :: r) d) (h0 : t.kind ≠ 0) : ev E 69 [.ptr p 0 0] σ = some (.ret (.agg (tkE t)), σ.set p (pR L (ix L r) d)) := by
  have hlt := h.lt
  have hp := h.H
  have hx := ix_cons h.suf
  have hil := ix_le (L := L) (r := t :: r)
  have hL := h.gd.len
  have hne : ¬ σ.n = p := by omega
  have hne1 : ¬ σ.n + 1 = p := by omega
  have hne2 : ¬ p = σ.n := by omega
  have hne3 : ¬ p = σ.n + 1 := by omega
  have hk : ¬ (t.kind : Int) = 0 := by omega
  have hk0 : ¬ t.kind = 0 := h0
  have hn := fun σ' (g : Gr σ σ') => now_ev hT (h.gr g)
  refine ev_ps (fd := f69) (o := .ret (.agg (tkE t))) (σ' := ((((σ.new (.row 4 [z4])).new (.row 4 [z4])).set (σ.n + 1) (.row 4 [tkE t])).set p (pR L (ix L r) d)).set σ.n (.row 4 [tkE t])) (by rw [hT]; rfl) (by simp [f69]) rfl ?_ h.lt (by simp [hne2]) ((gr_tn (((Gr.refl σ).new _).new _ |>.set (by simp) _) p).put _ |>.set (Nat.le_refl _) _) (frz_tk _ _ _)
  have hw : IntKind.i64.wrap ((ix L (t :: r) : Int) + 1) = ((ix L r : Nat) : Int) := by rw [IntWalk.i64_in _ (by omega)]; omega
  obtain ⟨i, hi'⟩ : ∃ i, i = ix L (t :: r) := ⟨_, rfl⟩
  obtain ⟨j, hj⟩ : ∃ j, j = ix L r := ⟨_, rfl⟩
  rw [← hi'] at hp hw
  rw [← hj] at hw ⊢
  rw [tkE_eq] at hn ⊢
  simp only [pR] at hp ⊢
  simp [f69, d69, hn, hk, hk0, hp, hw, hne, hne1, hne2, hne3, z4]
theorem name_ev (hT : E.T = T) {t : TK} (h : Ps σ p L (t :: r) d) : ev E 50 [.ptr p 0 0] σ = Out σ p L d (fun t => .agg (tkE t)) (nameT (t :: r)) := by
  have hlt := h.lt
  have hne : ¬ σ.n = p := by omega
  have hne2 : ¬ p = σ.n := by omega
  have hn := fun σ' (g : Gr σ σ') => now_ev hT (h.gr g)
  by_cases hk : t.kind = 1
  · have hx := fun σ' (g : Gr σ σ') => next_ev hT (h.gr g) (by omega)
    have : nameT (t :: r) = .ok t r := by simp [nameT, hk]
    rw [this]
    refine ev_ps (fd := f50) (o := .ret (.agg (tkE t))) (σ' := ((σ.new (.row 4 [z4])).set p (pR L (ix L r) d)).set σ.n (.row 4 [tkE t])) (by rw [hT]; rfl) (by simp [f50]) rfl ?_ h.lt (by simp [hne2]) ((gr_tn ((Gr.refl σ).new _) p).put _ |>.set (Nat.le_refl _) _) (frz_tk _ _ _)
    have hk' : (t.kind : Int) = 1 := by omega
    rw [tkE_eq] at hn hx ⊢
    simp [f50, d50, hn, hk', hx, hne, hne2, z4]
  · have hx := fun σ' (g : Gr σ σ') => miss_ev hT (h.gr g)
    have : nameT (t :: r) = missT (t :: r) := by simp [nameT, hk]
    rw [this, out_miss h]
    refine ev_pure (fd := f50) (o := .panic (failV t.fr t.to (if t.kind = 0 then 11 else 21))) (σ' := (σ.new (.row 4 [z4]))) (by rw [hT]; rfl) (by simp [f50]) rfl ?_ (fun k hk => by simp [show k ≠ σ.n by omega]) rfl (frz_fail _ _ _ _ _)
    have hk' : ¬ (t.kind : Int) = 1 := by omega
    rw [tkE_eq] at hn
    simp [f50, d50, hn, hk', hx, hne, hne2, z4]
end Go.Proofs.YtmkgmjdbgjiehaaDoor
namespace Go.Proofs.YtmkgmjdbgjiehaaDoor
open Go.Proofs.YtmkgmjdbgjiehaaDoor.Ab
set_option linter.unusedVariables false
set_option linter.unusedSimpArgs false
attribute [local simp] Gr.refl Gr.new Gr.set Gr.kill Nat.add_assoc r_cks chk wantG
variable {E : En Tryd.prog} {σ : St} {p : Nat} {L r : List TK} {d : Nat} {B : Int}
theorem deeper_ev (hT : E.T = T) {t : TK} (h : Ps σ p L (t :: r) d) (hd : d < 2 ^ 60) : ev E 53 [.ptr p 0 0] σ = if 60 < d + 1 then some (.panic (failV t.fr t.to 13), σ.set p (pR L (ix L (t :: r)) (d + 1 : Nat))) else some (.ret (.tup []), σ.set p (pR L (ix L (t :: r)) (d + 1 : Nat))) := by
  have hp := h.H
  have h2 := h.put ((d + 1 : Nat) : Int) h.suf
  have hf := fail_ev hT h2 13
  have hw : IntKind.i64.wrap ((d : Int) + 1) = ((d + 1 : Nat) : Int) := by rw [IntWalk.i64_in _ (by omega)]; omega
  obtain ⟨i, hi⟩ : ∃ i, i = ix L (t :: r) := ⟨_, rfl⟩
  obtain ⟨e, he⟩ : ∃ e, e = d + 1 := ⟨_, rfl⟩
  rw [← hi] at hp hf ⊢
  rw [← he] at hf hw ⊢
  have hs : (σ.set p (pR L i (e : Nat))).H p = some (pR L i (e : Nat)) := by simp
  by_cases h60 : 60 < e
  · rw [if_pos h60]
    have h60' : (60 : Int) < e := by omega
    refine ev_ps (fd := f53) (o := .panic (failV t.fr t.to 13)) (by rw [hT]; rfl) (by simp [f53]) rfl ?_ h.lt hs ((Tn.refl _ _).put _) (frz_fail _ _ _ _ _)
    simp only [pR] at hp hf hs ⊢
    simp at hf
    simp [f53, d53, hp, hw, h60', hf]
  · rw [if_neg h60]
    have h60' : ¬ (60 : Int) < e := by omega
    refine ev_ps (fd := f53) (o := .ret (.tup [])) (by rw [hT]; rfl) (by simp [f53]) rfl ?_ h.lt hs ((Tn.refl _ _).put _) (by simp)
    simp only [pR] at hp hf hs ⊢
    simp [f53, d53, hp, hw, h60']
theorem toT_at (hs : r <:+ L) (hr : r.length < L.length) : ∃ t i, i + 1 = ix L r ∧ L[i]? = some t ∧ toT L r = t.to := by
  have h1 : L.length - r.length - 1 < L.length := by omega
  refine ⟨L[L.length - r.length - 1], L.length - r.length - 1, by unfold ix; omega, List.getElem?_eq_getElem h1, ?_⟩
  unfold toT
  rw [List.getElem?_eq_getElem h1]
theorem to_ev (hT : E.T = T) {e : Int} (h : Ps σ p L r e) (hr : r.length < L.length) (a : Nat) : ev E 56 [.ptr p 0 0, .int .i64 a] σ = some (.ret (.agg [.int .i64 a, .int .i64 (toT L r)]), σ) := by
  have hp := h.H
  have hlt := h.lt
  have hL := h.gd.len
  obtain ⟨t, i, hi, ht, hto⟩ := toT_at h.suf hr
  have hil : i < L.length := (List.getElem?_eq_some_iff.1 ht).1
  have hw : IntKind.i64.wrap ((ix L r : Int) - 1) = (i : Int) := by rw [IntWalk.i64_in _ (by omega)]; omega
  have hia := fun σ' => ia_tk (σ := σ') ht .i64
  rw [hto]
  obtain ⟨j, hj⟩ : ∃ j, j = ix L r := ⟨_, rfl⟩
  rw [← hj] at hp hw
  refine ev_pure (fd := f56) (o := .ret (.agg [.int .i64 a, .int .i64 t.to])) (σ' := (σ.new (.row 2 [[.int .i64 0, .int .i64 0]])).set σ.n (.row 2 [[.int .i64 a, .int .i64 t.to]])) (by rw [hT]; rfl) (by simp [f56]) rfl ?_ (fun k hk => by simp [show k ≠ σ.n by omega]) rfl (by simp)
  have hne : ¬ p = σ.n := by omega
  rw [tkE_eq] at hia
  simp only [pR] at hp
  simp [f56, d56, hp, hw, hne, hia]
theorem frz_kept {n : Nat} {v : V} (hs : v.scal = true) (hv : v = .nils ∨ (∃ z es, v = .islc z es) ∨ ∃ l o m, v = .slc l o m ∧ l < n) (H : Nat → Option Blk) (m : Nat) : frzC H (fun l => decide (l < n)) (m + 1) v = v := by
  rcases hv with rfl | ⟨z, es, rfl⟩ | ⟨l, o, k, rfl, hl⟩
  · rfl
  · rfl
  · exact frz_old H _ m (by simpa using hl)
def z7 : List V := [.int .i64 0, .str [], .bool false, .nils, .nils, .int .i64 0, .int .i64 0]
def Sls (σ : St) (v : V) : Prop := v = .nils ∨ (∃ z es, v = .islc z es) ∨ ∃ l o m, v = .slc l o m ∧ l < σ.n
theorem Sls.scal {v : V} (h : Sls σ v) : v.scal = true := by rcases h with rfl | ⟨z, es, rfl⟩ | ⟨l, o, k, rfl, hl⟩ <;> rfl
theorem made_ev (hT : E.T = T) {e : Int} (h : Ps σ p L r e) (hr : r.length < L.length) (k a : Nat) {v : V} (hv : Sls σ v) : ev E 55 [.ptr p 0 0, .int .i64 k, .int .i64 a, v] σ = some (.ret (.agg [.int .i64 k, .str [], .bool false, .nils, v, .int .i64 a, .int .i64 (toT L r)]), σ) := by
  have ht := fun σ' (g : Gr σ σ') => to_ev hT (h.gr g) hr a
  have hsc := hv.scal
  have hf := frz_kept (n := σ.n) hsc hv
  refine ev_pure (fd := f55) (o := .ret (.agg [.int .i64 k, .str [], .bool false, .nils, v, .int .i64 a, .int .i64 (toT L r)])) (σ' := (σ.new (.row 7 [z7])).set σ.n (.row 7 [[.int .i64 k, .str [], .bool false, .nils, v, .int .i64 a, .int .i64 (toT L r)]])) (by rw [hT]; rfl) (by simp [f55]) rfl ?_ (fun k hk => by simp [show k ≠ σ.n by omega]) rfl (by simp [hf])
  simp [f55, d55, ht, hsc, cells_scal hsc, z7]
theorem comparison_ev (hT : E.T = T) (s : List UInt8) : ev E 81 [.str s] σ = some (.ret (.int .i64 (signK 2 s)), σ) := by
  refine ev_same (fd := f81) (o := .ret (.int .i64 (signK 2 s))) (by rw [hT]; rfl) (by simp [f81]) rfl ?_ (by simp)
  unfold signK
  by_cases h1 : s = [61]
  · subst h1; simp [f81, d81]
  by_cases h2 : s = [33, 61]
  · subst h2; simp [f81, d81]
  by_cases h3 : s = [60]
  · subst h3; simp [f81, d81]
  by_cases h4 : s = [60, 61]
  · subst h4; simp [f81, d81]
  by_cases h5 : s = [62]
  · subst h5; simp [f81, d81]
  by_cases h6 : s = [62, 61]
  · subst h6; simp [f81, d81]
  simp [f81, d81, h1, h2, h3, h4, h5, h6]
theorem level_ev (hT : E.T = T) {n : Nat} (hn : n < 5) (t : TK) : ev E 72 [.int .i64 n, .agg (tkE t)] σ = some (.ret (.int .i64 (levelT n t)), σ) := by
  have hc := fun σ' s => comparison_ev (σ := σ') hT s
  refine ev_pure (fd := f72) (o := .ret (.int .i64 (levelT n t))) (σ' := σ.new (.row 4 [tkE t])) (by rw [hT]; rfl) (by simp [f72]) rfl ?_ (fun k hk => by simp [show k ≠ σ.n by omega]) rfl (by simp)
  rw [tkE_eq]
  unfold levelT
  obtain ⟨k, s, a⟩ := t
  simp only
  by_cases hk : k = 4 ∨ k = 2
  · rw [if_pos hk]
    have hk1 : k = 4 ∨ k = 2 := by omega
    have : n = 0 ∨ n = 1 ∨ n = 2 ∨ n = 3 ∨ n = 4 := by omega
    rcases this with rfl | rfl | rfl | rfl | rfl
    · by_cases h1 : s = [111, 114]
      · rcases hk1 with rfl | rfl <;> simp [f72, d72, h1, signK]
      · rcases hk1 with rfl | rfl <;> simp [f72, d72, h1, signK]
    · by_cases h1 : s = [97, 110, 100]
      · rcases hk1 with rfl | rfl <;> simp [f72, d72, h1, signK]
      · rcases hk1 with rfl | rfl <;> simp [f72, d72, h1, signK]
    · rcases hk1 with rfl | rfl <;> simp [f72, d72, hc]
    · by_cases h1 : s = [43]
      · rcases hk1 with rfl | rfl <;> simp [f72, d72, h1, signK]
      by_cases h2 : s = [45]
      · rcases hk1 with rfl | rfl <;> simp [f72, d72, h1, h2, signK]
      · rcases hk1 with rfl | rfl <;> simp [f72, d72, h1, h2, signK]
    · by_cases h1 : s = [42]
      · rcases hk1 with rfl | rfl <;> simp [f72, d72, h1, signK]
      by_cases h2 : s = [47]
      · rcases hk1 with rfl | rfl <;> simp [f72, d72, h1, h2, signK]
      by_cases h3 : s = [37]
      · rcases hk1 with rfl | rfl <;> simp [f72, d72, h1, h2, h3, signK]
      · rcases hk1 with rfl | rfl <;> simp [f72, d72, h1, h2, h3, signK]
  · rw [if_neg hk]
    have k1 : ¬ k = 4 := fun h => hk (.inl h)
    have k2 : ¬ k = 2 := fun h => hk (.inr h)
    have k3 : ¬ (k : Int) = 4 := by omega
    have k4 : ¬ (k : Int) = 2 := by omega
    simp [f72, d72, k1, k2, k3, k4]
end Go.Proofs.YtmkgmjdbgjiehaaDoor
