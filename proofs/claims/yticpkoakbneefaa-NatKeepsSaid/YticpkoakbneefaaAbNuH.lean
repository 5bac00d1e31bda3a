/-
The walk over the program's texts, told with what its values say: a part of it. No further condition.
-/
import Derived.Test.YticpkoakbneefaaAbNuD
namespace Go.Proofs.Yticpkoakbneefaa
open Go.Proofs.Yticpkoakbneefaa.Ab
set_option linter.unusedVariables false
set_option linter.unusedSimpArgs false
attribute [local simp] Gr.refl Gr.new Gr.set Gr.kill Nat.add_assoc r_cks chk wantG
variable {E : En Try.prog} {B : Int}
/-- What was there reads on. -/
theorem Nm.old_ne {σ0 : St} {v : V} {l : Nat} (ho : v.old σ0) (hl : σ0.n ≤ l) : ∀ k, v.row = some k → k ≠ l := fun k hk => by
  cases v <;> simp [V.row] at hk
  subst hk
  have := ho _ _ _ rfl
  omega
def MulQ (B : Int) (σ0 : St) (l : Nat) (a b : List Int) (f' : Fr) (σ' : St) : Prop := ∃ X : List Int, X.length = a.length + b.length ∧ Dg B X ∧ vl B X = vl B a * vl B b ∧ Gr σ0 σ' ∧ σ'.H l = some (.row 1 (X.map nE)) ∧ l < σ'.n ∧ f'.ds = [] ∧ f'.env 5 = .slc l 0 (a.length + b.length)
theorem mul_loop (hT : E.T = T) (hB : B = 4294967296) {σ0 : St} {va vb : V} {a b : List Int} (ha : Nm σ0 va a) (hao : va.old σ0) (hb : Nm σ0 vb b) (hbo : vb.old σ0) (hal : a.length + b.length < 2 ^ 30) (da : Dg B a) (db : Dg B b) {l : Nat} (hl0 : σ0.n ≤ l) {dd : Bool} {rs : List RC} {st : List SE} {B0 : D} (hB0 : B0 = b6_0) :
    ∀ (m i : Nat) (row : List Int) (f : Fr) (σ : St), i + m = a.length → row.length = a.length + b.length → Dg B row → vl B row = vl B (a.take i) * vl B b → Gr σ0 σ → σ.H l = some (.row 1 (row.map nE)) → l < σ.n →
      f.ds = [] → f.env 1 = vb → f.env 5 = .slc l 0 (a.length + b.length) → f.env 26 = va → f.env 27 = .int .i64 a.length → f.env 28 = .int .i64 i →
      Lands E dd rs st (MulQ B σ0 l a b) (run E dd rs (.d (.loop [1, 5, 26, 27, 28] B0) :: .blk 0 :: st) f σ)
  | 0, i, row, f, σ, hi, hr, dr, hv, hg, hH, hln, hd, e1, e5, e26, e27, e28 => by
    rw [r_loopU hB0]
    have h : ¬ i < a.length := by omega
    simp [b6_0, hd, e1, e5, e26, e27, e28, h]
    exact .here ⟨row, hr, dr, by rw [hv, List.take_of_length_le (by omega)], hg, hH, hln, by simp, by simp⟩
  | m + 1, i, row, f, σ, hi, hr, dr, hv, hg, hH, hln, hd, e1, e5, e26, e27, e28 => by
    have h : i < a.length := by omega
    have hx := da.place (show 0 < B by omega) (i : Int)
    have e : vl B row + rd a i * (B ^ i * vl B b) = vl B (a.take (i + 1)) * vl B b := by rw [hv, vl_take_succ]; grind
    have hT1 : vl B row + rd a i * (B ^ i * vl B b) < B ^ row.length := by
      rw [e, hr]
      have h1 := vl_lt (show 0 < B by omega) (da.take (i + 1))
      rw [List.length_take, Nat.min_eq_left (by omega)] at h1
      have h2 := vl_lt (show 0 < B by omega) db
      have h3 := vl_nonneg (show 0 ≤ B by omega) db
      have h4 := pow_pos' (show 0 < B by omega) (i + 1)
      have h5 := Int.mul_le_mul_of_nonneg_right (show vl B (a.take (i + 1)) ≤ B ^ (i + 1) by omega) h3
      have h6 := Int.mul_lt_mul_of_pos_left h2 h4
      have h7 := pow_le (show 1 ≤ B by omega) (show i + 1 + b.length ≤ a.length + b.length by omega)
      rw [Int.pow_add _ (i + 1)] at h7
      omega
    have ha' := ha.gr hg hao
    have hb' := hb.gr hg hbo
    have hbr := Nm.old_ne hbo hl0
    obtain ⟨r, τ, k1, k2, k3, k4, k5⟩ := addto_ev hT hB (N := a.length + b.length) (s := i) hH hb' hbr hx dr db hr hal (by omega) hT1
    have i0 := ha'.at (k := .i64) h
    have l0 := ha'.ld h
    have hw : IntKind.i64.wrap ((i : Int) + 1) = ((i + 1 : Nat) : Int) := by rw [IntWalk.i64_in _ (by omega)]; omega
    have ih := fun f => mul_loop hT hB ha hao hb hbo hal da db hl0 (dd := dd) (rs := rs) (st := st) hB0 m (i + 1) r f τ (by omega) (by omega) k3 (by rw [k5, e]) (k2.gr hg hl0) k2.row (by rw [k2.n]; exact hln)
    obtain ⟨k, hk⟩ : ∃ k, k = i + 1 := ⟨_, rfl⟩
    rw [← hk] at hw
    simp only [← hk] at ih
    rw [r_loopU hB0]
    simp [b6_0, hd, e1, e5, e26, e27, e28, h, i0, l0, k1, hw]
    exact ih _ (by simp) (by simp) (by simp) (by simp) (by simp) (by simp)
theorem New.nils (σ : St) : New σ σ .nils [] := ⟨rfl, Gr.refl _, fun k hk => by simp [V.row] at hk, rfl⟩
theorem mul_ev (hT : E.T = T) (hB : B = 4294967296) {σ : St} {va vb : V} {a b : List Int} (ha : Nm σ va a) (hao : va.old σ) (hb : Nm σ vb b) (hbo : vb.old σ) (hal : a.length < 2 ^ 28) (hbl : b.length < 2 ^ 28) (da : Dg B a) (db : Dg B b) :
    ∃ u τ, ev E 6 [va, vb] σ = some (.ret u, τ) ∧ New σ τ u (cn B (vl B a * vl B b)) := by
  suffices h : ∃ u τ, run E false f6.res [.d f6.body] ⟨envOf [va, vb], []⟩ σ = some (.ret u, τ) ∧ New σ τ u (cn B (vl B a * vl B b)) by
    obtain ⟨u, τ, h, k⟩ := h
    exact ⟨u, τ, ev_raw (fd := f6) (by rw [hT]; rfl) (by simp [f6]) rfl h, k⟩
  have t1 := trim_ev hT ha (by omega)
  have t2 := trim_ev hT hb (by omega)
  have n1 := trim_nm ha
  have n2 := trim_nm hb
  have l1 := tr_length a
  have l2 := tr_length b
  have d1 := tr_Dg da
  have d2 := tr_Dg db
  have o1 : (cutV va 0 (tr a).length).old σ := V.old_cut hao 0 _
  have o2 : (cutV vb 0 (tr b).length).old σ := V.old_cut hbo 0 _
  rw [← tr_vl a, ← tr_vl b]
  obtain ⟨x, hx⟩ : ∃ x, x = tr a := ⟨_, rfl⟩
  obtain ⟨y, hy⟩ : ∃ y, y = tr b := ⟨_, rfl⟩
  rw [← hx] at t1 n1 l1 d1 o1 ⊢
  rw [← hy] at t2 n2 l2 d2 o2 ⊢
  obtain ⟨ux, hux⟩ : ∃ u, u = cutV va 0 x.length := ⟨_, rfl⟩
  obtain ⟨uy, huy⟩ : ∃ u, u = cutV vb 0 y.length := ⟨_, rfl⟩
  rw [← hux] at t1 n1 o1
  rw [← huy] at t2 n2 o2
  by_cases hx0 : x.length = 0
  · have hz : cn B (vl B x * vl B y) = [] := by rw [vl_empty hx0, Int.zero_mul]; exact cn_zero (Int.le_refl _)
    rw [hz]
    exact ⟨.nils, σ, by simp [f6, d6, t1, t2, n1.len, n2.len, hx0], New.nils σ⟩
  by_cases hy0 : y.length = 0
  · have hz : cn B (vl B x * vl B y) = [] := by rw [vl_empty hy0, Int.mul_zero]; exact cn_zero (Int.le_refl _)
    rw [hz]
    exact ⟨.nils, σ, by simp [f6, d6, t1, t2, n1.len, n2.len, hx0, hy0], New.nils σ⟩
  obtain ⟨n, hn⟩ : ∃ n, n = x.length + y.length := ⟨_, rfl⟩
  have hw : IntKind.i64.wrap ((x.length : Int) + y.length) = (n : Int) := by rw [IntWalk.i64_in _ (by omega)]; omega
  obtain ⟨s1, hs1⟩ : ∃ s1, s1 = σ.new (.row 1 (List.replicate n [.int .u32 0])) := ⟨_, rfl⟩
  have g1 : Gr σ s1 := by rw [hs1]; exact (Gr.refl σ).new _
  have hrb : (4 : Int) * n ≤ reach := by simp [reach]; omega
  have hrb2 : (n : Int) ≤ reach := by simp [reach]; omega
  have hmk : mkslV σ 4 [.int .u32 0] (.int .i64 n) (.int .i64 n) = some (.slc σ.n 0 n, s1) := by
    rw [mkslV_int, hs1, if_pos ⟨by omega, by omega, hrb, hrb2⟩]; simp
  have hH : s1.H σ.n = some (.row 1 ((List.replicate (x.length + y.length) (0 : Int)).map nE)) := by rw [hs1]; simp [hn, nE]
  have ha' := n1.gr g1 o1
  simp [f6, d6, t1, t2, n1.len, n2.len, hx0, hy0, hw, hmk, -mkslV_int]
  refine Lands.to (C := fun r => ∃ u τ, r = some (CO.ret u, τ) ∧ New σ τ u (cn B (vl B x * vl B y))) (mul_loop hT hB n1 o1 n2 o2 (by omega) d1 d2 (Nat.le_refl σ.n) rfl x.length 0 _ _ s1 (by omega) (by simp) (.zeros (by omega) _) (by rw [vl_zeros]; simp [vl]) g1 hH (by rw [hs1]; simp) (by simp) (by simp) (by simp [hn]) (by simp) (by simp [ha'.len]) (by simp)) ?_
  rintro f' σ' ⟨X, h1, h2, h3, h5, h6, h7, h8, h9⟩
  have hnew := New.row (N := x.length + y.length) h6 h1.symm h5 (Nat.le_refl _) h7
  have htr := trim_ev hT hnew.rd (by omega)
  have hfin := hnew.trim
  have hcn : tr X = cn B (vl B x * vl B y) := by rw [tr_cn (B := B) (by omega) h2, h3]
  rw [hcn] at htr hfin
  exact ⟨_, σ', by simp [h8, h9, htr], hfin⟩
end Go.Proofs.Yticpkoakbneefaa
namespace Go.Proofs.Yticpkoakbneefaa
open Go.Proofs.Yticpkoakbneefaa.Ab
set_option linter.unusedVariables false
set_option linter.unusedSimpArgs false
def limbOf : List V → Option Int
  | [.int .u32 n] => some n
  | _ => none
theorem limb_map : ∀ (l : List Int), (l.map nE).mapM limbOf = some l
  | [] => rfl
  | x :: l => by rw [List.map_cons, List.mapM_cons]; simp [nE, limbOf, limb_map l]
theorem limb_of : ∀ {es : List (List V)} {l : List Int}, es.mapM limbOf = some l → es = l.map nE
  | [], l, h => by simp at h; subst h; rfl
  | e :: es, l, h => by
    rw [List.mapM_cons] at h
    simp only [Option.bind_eq_bind, Option.bind_eq_some_iff, Option.pure_def, Option.some.injEq] at h
    obtain ⟨x, hx, xs, hxs, rfl⟩ := h
    rw [List.map_cons, ← limb_of hxs]
    congr 1
    unfold limbOf at hx
    split at hx <;> simp at hx
    subst hx; rfl
/-- What the box of an iterator holds. -/
def boxL (σ : St) (c : V) : Option (List Int) := (ldV σ c).bind fun v => (cont σ 1 v).bind fun es => es.mapM limbOf
theorem boxL_of {σ : St} {c v : V} {l : List Int} (h : ldV σ c = some v) (hv : Nm σ v l) : boxL σ c = some l := by
  have hc : cont σ 1 v = some (l.map nE) := hv
  unfold boxL
  rw [h]
  simp only [Option.bind_some, hc]
  exact limb_map l
theorem boxL_inv {σ : St} {c : V} {l : List Int} (h : boxL σ c = some l) : ∃ v, ldV σ c = some v ∧ Nm σ v l := by
  unfold boxL at h
  obtain ⟨v, h1, h⟩ := Option.bind_eq_some_iff.1 h
  obtain ⟨es, h2, h3⟩ := Option.bind_eq_some_iff.1 h
  exact ⟨v, h1, by unfold Nm Rd; rw [h2, limb_of h3]⟩
/-- The limbs from a place down. -/
def lx (l : List Int) : Nat → List (List V)
  | 0 => []
  | n + 1 => [.int .i64 n, .int .u32 (rd l n)] :: lx l n
theorem lx_len (l : List Int) : ∀ n, (lx l n).length = n
  | 0 => rfl
  | n + 1 => by simp [lx, lx_len l n]
theorem iter26 (c : V) (l : List Int) (hl : l.length < 2 ^ 40) : Iter Try.prog 26 [c] (fun σ => boxL σ c = some l) (lx l l.length) := by
  intro Y y J X σ hJ hX hY h0
  refine ccallsY_of (T_ok 26 _ rfl).1 (by simp [f26]) ?_
  simp only [f26, d26, b26_0, D.er]
  obtain ⟨v, hc, hv⟩ := boxL_inv (hJ 0 σ h0)
  have hw0 : IntKind.i64.wrap ((l.length : Int) - 1) = (l.length : Int) - 1 := IntWalk.i64_in _ (by omega)
  refine cw_seq (cw_reg ?_)
  simp [rwp, rwp1, wantG, hc, hv.len, hw0]
  refine cw_block (cw_loop (fun n f σ => ∃ m : Nat, m + n = l.length ∧ f.ds = [] ∧ f.env 0 = .func (.yield y) [] [] ∧ f.env 1 = c ∧ f.env 3 = .int .i64 ((n : Int) - 1) ∧ (lx l l.length).drop m = lx l n ∧ J m σ) l.length ⟨0, by omega, rfl, by simp, by simp, by simp, by simp, h0⟩ ?_)
  rintro n f σ ⟨m, hmn, hd, e0, e1, e3, hm, hj⟩
  obtain ⟨v, hc, hv⟩ := boxL_inv (hJ m σ hj)
  cases n with
  | zero =>
    refine cw_seq (cw_seq (cw_reg ?_))
    simp [rwp, rwp1, wantG, e3]
    refine cw_cond (t := false) (by simp) (cw_exit ?_)
    simp [Post, DLv, hd]
    obtain rfl : m = l.length := by omega
    rw [lx_len]; exact .inl hj
  | succ n =>
    refine cw_seq (cw_seq (cw_reg ?_))
    have h1 : (((n + 1 : Nat) : Int) - 1) = (n : Int) := by omega
    rw [h1] at e3
    simp [rwp, rwp1, wantG, e3]
    refine cw_cond (t := true) (by simp) (cw_skip ?_)
    have hx : (lx l l.length)[m]? = some [.int .i64 n, .int .u32 (rd l n)] := by
      have := congrArg (·[0]?) hm
      simpa [lx] using this
    have hnx : (lx l l.length).drop (m + 1) = lx l n := by rw [← List.drop_drop, hm]; rfl
    have hyl := hY m _ σ hx hj
    refine cw_seq (cw_block (cw_seq (cw_reg ?_)))
    simp [rwp, rwp1, wantG, e0, e1, e3, hc, hv.at (show n < l.length by omega), hv.ld (show n < l.length by omega)]
    refine Y.mono _ _ _ _ _ ?_ hyl
    have w1 : IntKind.i64.wrap ((n : Int) - 1) = (n : Int) - 1 := IntWalk.i64_in _ (by omega)
    rintro o σ' (⟨rfl, hj'⟩ | ⟨rfl, hj'⟩)
    · simp
      refine cw_cond (t := false) (by simp) (cw_skip ?_)
      refine cw_reg ?_
      simp [rwp, rwp1, wantG, e0, e1, e3, hd, w1]
      exact ⟨n, by omega, m + 1, by omega, by simp, hnx, hj'⟩
    · simp
      refine cw_cond (t := true) (by simp) (cw_ret ?_)
      simp [Post, DLv, hd]
      exact .inr hj'
def It26 (σ : St) (c : V) : Option (V × List (List V)) := (boxL σ c).bind fun l => if l.length < 2 ^ 40 then some (.islc 1 (l.map nE), lx l l.length) else none
/-- All that is known: the telling, and the iterator of limbs. -/
def ET : En Try.prog := ⟨T, fun gf cap σ => if gf = 26 then (match cap with | [c] => It26 σ c | _ => none) else none, fun _ _ _ => none, fun _ _ _ _ => none⟩
theorem It26_inv {σ : St} {c : V} {ky : V} {xs : List (List V)} (h : It26 σ c = some (ky, xs)) : ∃ l, boxL σ c = some l ∧ l.length < 2 ^ 40 ∧ ky = .islc 1 (l.map nE) ∧ xs = lx l l.length := by
  unfold It26 at h
  obtain ⟨b, h1, h2⟩ := Option.bind_eq_some_iff.1 h
  split at h2
  · rename_i hl
    simp only [Option.some.injEq, Prod.mk.injEq] at h2
    exact ⟨b, h1, hl, h2.1.symm, h2.2.symm⟩
  · simp at h2
theorem map_nE_inj {a b : List Int} (h : a.map nE = b.map nE) : a = b := by
  have h1 := limb_map a
  rw [h, limb_map b] at h1
  exact (Option.some.inj h1).symm
theorem ET_ok : ET.Ok := ⟨T_ok, fun gf cap σ ky xs h => by
    simp only [ET] at h
    split at h
    · rename_i hg
      subst hg
      split at h
      · rename_i c
        obtain ⟨l, h1, h2, rfl, rfl⟩ := It26_inv h
        refine ⟨(T_ok 26 _ rfl).2, ?_⟩
        have inv : ∀ σ, ET.It 26 [c] σ = some (.islc 1 (l.map nE), lx l l.length) → boxL σ c = some l := fun σ this => by
          simp only [ET, if_true] at this
          obtain ⟨b', h3, _, h4, _⟩ := It26_inv this
          injection h4 with h5 h6; rw [map_nE_inj h6]; exact h3
        intro Y y J X σ' hJ hX hY h0
        exact iter26 c l h2 Y y J X σ' (fun i σ hj => inv σ (hJ i σ hj)) (fun σ hx => inv σ (hX σ hx)) hY h0
      · simp at h
    · simp at h, fun _ _ _ _ h => by simp [ET] at h, fun _ _ _ _ _ h => by simp [ET] at h⟩
theorem limbs_ev {σ : St} {v : V} (hv : v.scal = true) : ev ET 24 [v] σ = some (.ret (.func (.func 26) [] [.ptr σ.n 0 0]), σ.new (.row 1 [[v]])) := by
  refine ev_raw (fd := f24) rfl (by simp [f24]) rfl ?_
  simp [f24, d24, boxV_v σ v hv]
theorem it_box {σ : St} {p : Nat} {v : V} {l : List Int} (h : σ.H p = some (.row 1 [[v]])) (hv : Nm σ v l) (hl : l.length < 2 ^ 40) : ET.It 26 [.ptr p 0 0] σ = some (.islc 1 (l.map nE), lx l l.length) := by
  simp only [ET, if_true]
  unfold It26
  rw [boxL_of (v := v) (by simp [h]) hv]
  simp [hl]
end Go.Proofs.Yticpkoakbneefaa
namespace Go.Proofs.Yticpkoakbneefaa
open Go.Proofs.Yticpkoakbneefaa.Ab
set_option linter.unusedVariables false
set_option linter.unusedSimpArgs false
attribute [local simp] Gr.refl Gr.new Gr.set Gr.kill Nat.add_assoc r_cks chk wantG
variable {B : Int}
theorem join_n {x y : Int} (hx : 0 ≤ x ∧ x < 4294967296) (hy : 0 ≤ y ∧ y < 4294967296) : IntKind.u64.wrap ↑((x * 4294967296 % 2 ^ IntKind.u64.bits).toNat ||| (y % 2 ^ IntKind.u64.bits).toNat) = x * 4294967296 + y := by
  have e : (2 : Int) ^ IntKind.u64.bits = 18446744073709551616 := by simp [IntKind.bits]
  rw [e, Int.emod_eq_of_lt (by omega) (by omega), Int.emod_eq_of_lt (by omega) (by omega)]
  have h3 : (x * 4294967296).toNat = 2 ^ 32 * x.toNat := by omega
  rw [h3, ← Nat.two_pow_add_eq_or_of_lt (show y.toNat < 2 ^ 32 by omega), wrap_u64]
  omega
theorem shl32 {x : Int} (hx : 0 ≤ x ∧ x < 4294967296) : IntKind.u64.wrap (x * 2 ^ min 32 IntKind.u64.bits) = x * 4294967296 := by
  rw [show min 32 IntKind.u64.bits = 32 from by simp [IntKind.bits], wrap_u64]
  omega
structure ShI (σ0 σ : St) (e : Env) (m p N : Nat) (va : V) (d rest : Int) (Q : List Int) (lq : Nat) : Prop where
  gr : Gr σ0 σ
  q : σ0.n ≤ p ∧ p ≠ m ∧ σ0.n ≤ m
  hm : σ.H m = some (.lp .busy)
  hp : σ.H p = some (.row 1 [[va]])
  hq : σ.H lq = some (.row 1 (Q.map nE)) ∧ Q.length = N ∧ lq ≠ m ∧ lq ≠ p ∧ σ0.n ≤ lq ∧ lq < σ.n
  rs : ∃ r3 r6 r7, e 3 = .ptr r3 0 0 ∧ e 6 = .ptr r6 0 0 ∧ e 7 = .ptr r7 0 0 ∧ σ.H r3 = some (.row 1 [[.int .u32 d]]) ∧ σ.H r6 = some (.row 1 [[.slc lq 0 N]]) ∧ σ.H r7 = some (.row 1 [[.int .u64 rest]]) ∧
    r3 ≠ lq ∧ r6 ≠ lq ∧ r7 ≠ lq ∧ r3 ≠ r7 ∧ r6 ≠ r7 ∧ r7 ≠ m ∧ r7 ≠ p ∧ r6 ≠ m ∧ σ0.n ≤ r7
def ShQ (σ0 : St) (e : Env) (m p : Nat) (va : V) (l : List Int) (d : Int) (lq : Nat) (B : Int) (f' : Fr) (σ' : St) : Prop := f'.ds = [.coll] ∧ f'.env = e ∧ ∃ σ2 rest Q, ShI σ0 σ2 e m p l.length va d rest Q lq ∧ Dg B Q ∧ (0 ≤ rest ∧ rest < d) ∧ vl B Q * d + rest = vl B l ∧ σ' = σ2.kill m
theorem short_loop (hB : B = 4294967296) {σ0 : St} {va : V} {l : List Int} (ha : Nm σ0 va l) (hao : va.old σ0) (dl : Dg B l) (hl : l.length < 2 ^ 30) {d : Int} (hd : 0 < d ∧ d < B) {e : Env} {m p lq : Nat} {A B1 : D} (hA : A = b16_0) (hB1 : B1 = b16_1) {st : List SE} :
    ∀ (n k : Nat) (qs : List Int) (rest : Int) (f : Fr) (σ : St), n + k = l.length → qs.length = k → Dg B qs → 0 ≤ rest ∧ rest < d → vl B qs * d + rest = vl B (l.drop n) → ShI σ0 σ e m p l.length va d rest (List.replicate n 0 ++ qs) lq →
      Lands ET false [.t 4, .t 5] st (ShQ σ0 e m p va l d lq B) (run ET false [.t 4, .t 5] (.rnd e [] m [16, 17] A B1 26 [.ptr p 0 0] (.islc 1 (l.map nE)) (lx l l.length) k :: .blk 0 :: st) f σ)
  | 0, k, qs, rest, f, σ, hn, hqs, dq, hr, hv, hI => by
    have g1 : Nm (σ.set m (.lp .ready)) va l := ha.gr (hI.gr.set hI.q.2.2 _) hao
    rw [rnd_end hI.hm (it_box (v := va) (by simp [hI.q.2.1, hI.hp]) g1 (by omega)) (by rw [List.getElem?_eq_none]; rw [lx_len]; omega)]
    simp
    refine .here ⟨rfl, rfl, σ, rest, qs, by simpa using hI, dq, hr, by simpa using hv, rfl⟩
  | n + 1, k, qs, rest, f, σ, hn, hqs, dq, hr, hv, hI => by
    obtain ⟨r3, r6, r7, a3, a6, a7, c3, c6, c7, n1, n2, n3, n4, n5, n6, n7, n8, n9⟩ := hI.rs
    obtain ⟨q1, q2, q3, q4, q5, q6⟩ := hI.hq
    have g1 : Nm (σ.set m (.lp .ready)) va l := ha.gr (hI.gr.set hI.q.2.2 _) hao
    have hdrop : ∀ n k, n + k = l.length → (lx l l.length)[k]? = (lx l n)[0]? := by
      intro n k h
      have : ∀ N, n ≤ N → N ≤ l.length → (lx l N)[N - n]? = (lx l n)[0]? := by
        intro N h1 _
        induction N with
        | zero => obtain rfl : n = 0 := by omega
                  rfl
        | succ N ih =>
          rcases Nat.lt_or_ge N n with h2 | h2
          · obtain rfl : n = N + 1 := by omega
            simp
          · rw [show N + 1 - n = (N - n) + 1 by omega]
            simp only [lx, List.getElem?_cons_succ]
            exact ih h2 (by omega)
      have := this l.length (by omega) (Nat.le_refl _)
      rwa [show l.length - n = k by omega] at this
    have hat : (lx l l.length)[k]? = some [.int .i64 n, .int .u32 (rd l n)] := by rw [hdrop (n + 1) k hn]; rfl
    rw [rnd_at (e' := (setPs e [16, 17] [.int .i64 n, .int .u32 (rd l n)]).put (some 8) (.int .i64 n) |>.put (some 9) (.int .u32 (rd l n))) hB1 hI.hm (it_box (v := va) (by simp [hI.q.2.1, hI.hp]) g1 (by omega)) hat rfl (by rw [hA]; rfl)]
    have e31 : ∀ (t : Nat), ((setPs e [16, 17] [.int .i64 n, .int .u32 (rd l n)]).put (some 8) (.int .i64 n) |>.put (some 9) (.int .u32 (rd l n))) t = if t = 9 then .int .u32 (rd l n) else if t = 8 then .int .i64 n else (if t = 17 then .int .u32 (rd l n) else if t = 16 then .int .i64 n else e t) := fun t => rfl
    generalize ((setPs e [16, 17] [.int .i64 n, .int .u32 (rd l n)]).put (some 8) (.int .i64 n) |>.put (some 9) (.int .u32 (rd l n))) = e' at e31
    have hx := dl.place (show 0 < B by omega) (n : Int)
    have e2 := vl_drop (B := B) (l := l) (i := n) (by omega)
    obtain ⟨x, hxx⟩ : ∃ x, x = rd l n := ⟨_, rfl⟩
    simp only [← hxx] at hx e2 e31
    have w1 : IntKind.u64.wrap (rest * 2 ^ min 32 IntKind.u64.bits) = rest * 4294967296 := shl32 (by omega)
    have w2 : IntKind.u64.wrap x = x := u64id (by omega) (by omega)
    have w3 := join_n (x := rest) (y := x) (by omega) (by omega)
    obtain ⟨hi, hhi⟩ : ∃ h, h = rest * 4294967296 := ⟨_, rfl⟩
    rw [← hhi] at w1 w3
    obtain ⟨t, ht⟩ : ∃ t, t = hi + x := ⟨_, rfl⟩
    rw [← ht] at w3
    have hlt : t < d * 4294967296 := by omega
    have hq0 : 0 ≤ t / d := Int.ediv_nonneg (by omega) (by omega)
    have hq1 : t / d < 4294967296 := Int.ediv_lt_of_lt_mul hd.1 (by omega)
    have hm' := Int.emod_add_mul_ediv t d
    have hm0 := Int.emod_nonneg t (show d ≠ 0 by omega)
    have hm1 := Int.emod_lt_of_pos t hd.1
    have w4 : IntKind.u64.wrap d = d := u64id (by omega) (by omega)
    have w5 : Int.tdiv t d = t / d := tdiv10 (by omega)
    have w6 : Int.tmod t d = t % d := tmod10 (by omega)
    have w7 : IntKind.u64.wrap (t / d) = t / d := u64id hq0 (by omega)
    have w8 : IntKind.u32.wrap (t / d) = t / d := by rw [wrap_u32]; omega
    have hd0 : ¬ d = 0 := by omega
    have i1 : iaV σ 1 (.slc lq 0 l.length) (.int .i64 n) = some (.ptr lq n 0) := row_at q1 q2.symm (by omega)
    have s1 := row_st q1 (i := n) (by omega) (t / d)
    have hset : (List.replicate (n + 1) 0 ++ qs).set n (t / d) = List.replicate n 0 ++ (t / d) :: qs := by
      rw [List.replicate_succ', List.append_assoc, List.set_append_right _ _ (by simp)]
      simp
    rw [hset] at s1
    have hv' : vl B (t / d :: qs) * d + t % d = vl B (l.drop n) := by
      rw [vl_cons, e2, ← hv]
      generalize t / d = q at *
      generalize t % d = mm at *
      generalize vl B qs = vq at *
      rw [hB]
      have : mm + d * q = rest * 4294967296 + x := by omega
      grind
    obtain ⟨qd, hqd⟩ : ∃ q, q = t / d := ⟨_, rfl⟩
    obtain ⟨md, hmd⟩ : ∃ q, q = t % d := ⟨_, rfl⟩
    rw [← hqd] at w5 w7 w8 s1 hv' hq0 hq1
    rw [← hmd] at w6 hv' hm0 hm1
    obtain ⟨R, hR⟩ : ∃ R, R = List.replicate n 0 ++ qd :: qs := ⟨_, rfl⟩
    rw [← hR] at s1
    have dq' : Dg B (qd :: qs) := by
      intro y hy
      rcases List.mem_cons.1 hy with rfl | hy
      · exact ⟨hq0, by omega⟩
      · exact dq y hy
    have hRl : R.length = l.length := by rw [hR]; simp; omega
    have s2 : stV (σ.set lq (.row 1 (R.map nE))) 1 (.ptr r7 0 0) (.int .u64 md) = some ((σ.set lq (.row 1 (R.map nE))).set r7 (.row 1 [[.int .u64 md]])) := by
      rw [stV_ptr]; simp [n3, c7, setAt]
    have ih := fun f => short_loop hB ha hao dl hl hd hA hB1 (st := st) n (k + 1) (qd :: qs) md f ((σ.set lq (.row 1 (R.map nE))).set r7 (.row 1 [[.int .u64 md]])) (by omega) (by simp [hqs]) dq' ⟨hm0, hm1⟩ hv'
      ⟨(hI.gr.set q5 _).set n9 _, hI.q, by simp [Ne.symm n6, Ne.symm q3, hI.hm], by simp [Ne.symm n7, Ne.symm q4, hI.hp], ⟨by rw [← hR]; simp [Ne.symm n3], by rw [← hR]; exact hRl, q3, q4, q5, by simpa using q6⟩, r3, r6, r7, a3, a6, a7, by simp [n1, n4, c3], by simp [n2, n5, c6], by simp, n1, n2, n3, n4, n5, n6, n7, n8, n9⟩
    simp [b16_1, e31, a3, a6, a7, c3, c6, c7, w1, w2, w3, w4, w5, w6, w7, w8, hd0, i1, s1, s2, n1, n2, n3, n4, n5, -stV_ptr]
    exact ih _
theorem short_ev (hB : B = 4294967296) {σ : St} {va : V} {l : List Int} (ha : Nm σ va l) (hao : va.old σ) (hsc : va.scal = true) (dl : Dg B l) (hl : l.length < 2 ^ 30) {d : Int} (hd : 0 < d ∧ d < B) :
    ∃ u τ, ev ET 16 [va, .int .u32 d] σ = some (.ret (.tup [u, .int .u32 (vl B l % d)]), τ) ∧ New σ τ u (cn B (vl B l / d)) := by
  suffices h : ∃ u τ, run ET false f16.res [.d f16.body] ⟨envOf [va, .int .u32 d], []⟩ σ = some (.ret (.tup [u, .int .u32 (vl B l % d)]), τ) ∧ New σ τ u (cn B (vl B l / d)) by
    obtain ⟨u, τ, h, k⟩ := h
    exact ⟨u, τ, ev_raw (fd := f16) rfl (by simp [f16]) rfl h, k⟩
  have hbx := boxV_v σ (.int .u32 d) rfl
  obtain ⟨s1, hs1⟩ : ∃ s1, s1 = (σ.new (.row 1 [[.int .u32 d]])).new (.row 1 (List.replicate l.length [.int .u32 0])) := ⟨_, rfl⟩
  have hrb : (4 : Int) * l.length ≤ reach := by simp [reach]; omega
  have hrb2 : (l.length : Int) ≤ reach := by simp [reach]; omega
  have hmk : mkslV (σ.new (.row 1 [[.int .u32 d]])) 4 [.int .u32 0] (.int .i64 l.length) (.int .i64 l.length) = some (.slc (σ.n + 1) 0 l.length, s1) := by
    rw [mkslV_int, hs1, if_pos ⟨by omega, by omega, hrb, hrb2⟩]; simp
  obtain ⟨s2, hs2⟩ : ∃ s2, s2 = (((s1.new (.row 1 [[.nils]])).set (σ.n + 2) (.row 1 [[.slc (σ.n + 1) 0 l.length]])).new (.row 1 [[.int .u64 0]])).set (σ.n + 3) (.row 1 [[.int .u64 0]]) := ⟨_, rfl⟩
  have m1 : s1.n = σ.n + 2 := by rw [hs1]; simp
  have m2 : s2.n = σ.n + 4 := by rw [hs2]; simp [m1]
  have g1 : Gr σ s1 := by rw [hs1]; exact ((Gr.refl σ).new _).new _
  have g2 : Gr σ s2 := by rw [hs2]; exact ((((g1.new _).set (by omega) _).new _).set (by omega) _)
  obtain ⟨s3, hs3⟩ : ∃ s3, s3 = s2.new (.row 1 [[va]]) := ⟨_, rfl⟩
  have m3 : s3.n = σ.n + 5 := by rw [hs3]; simp [m2]
  have g3 : Gr σ s3 := by rw [hs3]; exact g2.new _
  have hit := limbs_ev (σ := s2) hsc
  rw [← hs3] at hit
  have hla := ha.len
  show ∃ u τ, _ ∧ New σ τ u _
  simp [f16, d16, hbx, hla, hmk, -mkslV_int, m1, ← hs2, hit]
  rw [rng_in (.t 15) rfl rfl (it_box (p := s2.n) (v := va) (l := l) (by rw [hs3]; simp) (ha.gr g3 hao) (by omega))]
  have c3 : s3.H σ.n = some (.row 1 [[.int .u32 d]]) := by rw [hs3, hs2, hs1]; simp
  have cq : s3.H (σ.n + 1) = some (.row 1 ((List.replicate l.length (0 : Int) ++ []).map nE)) := by rw [hs3, hs2, hs1]; simp [nE]
  have c6 : s3.H (σ.n + 2) = some (.row 1 [[.slc (σ.n + 1) 0 l.length]]) := by rw [hs3, hs2, hs1]; simp
  have c7 : s3.H (σ.n + 3) = some (.row 1 [[.int .u64 0]]) := by rw [hs3, hs2, hs1]; simp
  have cp : s3.H s2.n = some (.row 1 [[va]]) := by rw [hs3]; simp
  refine Lands.to (C := fun r => ∃ u τ, r = some (CO.ret (.tup [u, .int .u32 (vl B l % d)]), τ) ∧ New σ τ u (cn B (vl B l / d))) (short_loop hB ha hao dl hl hd (e := lk [3, 6, 7, 15] [.ptr σ.n 0 0, .ptr (σ.n + 2) 0 0, .ptr (σ.n + 3) 0 0, .func (.func 26) [] [.ptr s2.n 0 0]]) (m := s3.n) (p := s2.n) (lq := σ.n + 1) (A := b16_0) (B1 := b16_1) rfl rfl l.length 0 [] 0 _ _ (by omega) rfl .nil (by omega) (by simp [vl])
    ⟨g3.new _, by omega, by simp, by simp [show s2.n ≠ s3.n by omega, cp], ⟨by simp [show σ.n + 1 ≠ s3.n by omega, cq], by simp, by omega, by omega, by omega, by simp; omega⟩, σ.n, σ.n + 2, σ.n + 3, by simp, by simp, by simp, by simp [show σ.n ≠ s3.n by omega, c3], by simp [show σ.n + 2 ≠ s3.n by omega, c6], by simp [show σ.n + 3 ≠ s3.n by omega, c7], by omega, by omega, by omega, by omega, by omega, by omega, by omega, by omega, by omega⟩) ?_
  rintro f' σ' ⟨q1, q2, σ2, rest, Q, hI, dQ, hr, hv, rfl⟩
  obtain ⟨r3, r6, r7, a3, a6, a7, b3, b6, b7, n1, n2, n3, n4, n5, n6, n7, n8, n9⟩ := hI.rs
  obtain ⟨p1, p2, p3, p4, p5, p6⟩ := hI.hq
  simp at a3 a6 a7
  subst a3; subst a6; subst a7
  obtain ⟨s5, hs5⟩ : ∃ s5, s5 = σ2.kill s3.n := ⟨_, rfl⟩
  have g5 : Gr σ s5 := by rw [hs5]; exact hI.gr.kill (by omega)
  have y6 : s5.H (σ.n + 2) = some (.row 1 [[.slc (σ.n + 1) 0 l.length]]) := by rw [hs5]; simp [n8, b6]
  have y7 : s5.H (σ.n + 3) = some (.row 1 [[.int .u64 rest]]) := by rw [hs5]; simp [n6, b7]
  have yq : s5.H (σ.n + 1) = some (.row 1 (Q.map nE)) := by rw [hs5]; simp [p3, p1]
  have hnew := New.row (N := l.length) yq p2.symm g5 (by omega) (by rw [hs5]; simpa using p6)
  have htr := trim_ev (E := ET) rfl hnew.rd (by omega)
  have hfin := hnew.trim
  have hq : vl B l / d = vl B Q := by
    rw [← hv, Int.mul_comm, Int.add_comm, Int.add_mul_ediv_left _ _ (by omega), Int.ediv_eq_zero_of_lt hr.1 hr.2]; omega
  have hrr : vl B l % d = rest := by
    rw [← hv, Int.mul_comm, Int.add_comm, Int.add_mul_emod_self_left, Int.emod_eq_of_lt hr.1 hr.2]
  have hcn : tr Q = cn B (vl B l / d) := by rw [tr_cn (B := B) (by omega) dQ, hq]
  rw [hcn] at htr hfin
  rw [hrr]
  have w1 : IntKind.u32.wrap rest = rest := by rw [wrap_u32]; omega
  rw [← hs5]
  refine ⟨_, s5, ?_, hfin⟩
  simp [q1, q2, y6, y7, w1, htr, fin_coll]
end Go.Proofs.Yticpkoakbneefaa
namespace Go.Proofs.Yticpkoakbneefaa
open Go.Proofs.Yticpkoakbneefaa.Ab
set_option linter.unusedVariables false
set_option linter.unusedSimpArgs false
attribute [local simp] Gr.refl Gr.new Gr.set Gr.kill Nat.add_assoc r_cks chk wantG
variable {B : Int}
theorem top_le (hB : 2 ≤ B) {y : List Int} (dy : Dg B y) (ty : tr y = y) {k : Nat} (hk : k < y.length) : B ^ k ≤ vl B y := by
  rcases Int.lt_or_le (vl B y) (B ^ k) with h | h
  · have := cn_length hB h
    rw [cn_self hB dy ty] at this
    omega
  · exact h
theorem len_lt (hB : 2 ≤ B) {x y : List Int} (dx : Dg B x) (dy : Dg B y) (ty : tr y = y) (h : x.length < y.length) : vl B x < vl B y :=
  Int.lt_of_lt_of_le (vl_lt (by omega) dx) (top_le hB dy ty h)
theorem top_lt (hB : 2 ≤ B) {x y : List Int} (dx : Dg B x) (dy : Dg B y) {n : Nat} (hx : n < x.length) (hy : n < y.length) (hd : x.drop (n + 1) = y.drop (n + 1)) (h : rd x n < rd y n) : vl B x < vl B y := by
  have h1 := vl_split (B := B) n x
  have h2 := vl_split (B := B) n y
  rw [vl_drop hx] at h1
  rw [vl_drop hy, ← hd] at h2
  have h3 := vl_lt (show 0 < B by omega) (dx.take n)
  rw [List.length_take, Nat.min_eq_left (by omega)] at h3
  have h4 := vl_nonneg (show 0 ≤ B by omega) (dy.take n)
  have h5 := pow_pos' (show 0 < B by omega) n
  have h6 := Int.mul_le_mul_of_nonneg_left (show rd x n + 1 ≤ rd y n by omega) (Int.le_of_lt h5)
  rw [Int.mul_add] at h1 h2
  rw [Int.mul_add, Int.mul_one] at h6
  omega
def cmpI (x y : Int) : Int := if x < y then -1 else if y < x then 1 else 0
def cmpX : D := .kb [4] (.seq (.reg [⟨none, none, .st 1 (.t 4) (.c (.int .i64 0))⟩]) .ret)
structure CmI (σ0 σ : St) (e : Env) (m p : Nat) (va vb : V) : Prop where
  gr : Gr σ0 σ
  q : σ0.n ≤ p ∧ p ≠ m ∧ σ0.n ≤ m
  hm : σ.H m = some (.lp .busy)
  hp : σ.H p = some (.row 1 [[va]])
  rs : ∃ r3 r4, e 3 = .ptr r3 0 0 ∧ e 4 = .ptr r4 0 0 ∧ σ.H r3 = some (.row 1 [[vb]]) ∧ σ.H r4 = some (.row 1 [[.int .i64 0]]) ∧ r3 ≠ r4 ∧ r3 ≠ m ∧ r4 ≠ m ∧ r4 ≠ p ∧ σ0.n ≤ r4
theorem lx_at (l : List Int) {n k : Nat} (h : n + 1 + k = l.length) : (lx l l.length)[k]? = some [.int .i64 n, .int .u32 (rd l n)] := by
  have : ∀ N, n < N → N ≤ l.length → (lx l N)[N - (n + 1)]? = some [.int .i64 n, .int .u32 (rd l n)] := by
    intro N h1 _
    induction N with
    | zero => omega
    | succ N ih =>
      rcases Nat.lt_or_ge n N with h2 | h2
      · rw [show N + 1 - (n + 1) = (N - (n + 1)) + 1 by omega]
        simp only [lx, List.getElem?_cons_succ]
        exact ih h2 (by omega)
      · obtain rfl : n = N := by omega
        simp [lx]
  have := this l.length (by omega) (Nat.le_refl _)
  rwa [show l.length - (n + 1) = k by omega] at this
theorem cmp_loop (hB : B = 4294967296) {σ0 : St} {va vb : V} {x y : List Int} (ha : Nm σ0 va x) (hao : va.old σ0) (hb : Nm σ0 vb y) (hbo : vb.old σ0) (dx : Dg B x) (dy : Dg B y) (hl : x.length < 2 ^ 30) (hxy : x.length = y.length) {e : Env} {m p : Nat} {A B1 : D} (hA : A = b15_0) (hB1 : B1 = b15_1) :
    ∀ (n k : Nat) (f : Fr) (σ : St), n + k = x.length → x.drop n = y.drop n → CmI σ0 σ e m p va vb →
      ∃ τ, run ET false [.c 4 none] (.rnd e [] m [25, 26] A B1 26 [.ptr p 0 0] (.islc 1 (x.map nE)) (lx x x.length) k :: .blk 1 :: [.d cmpX]) f σ = some (.ret (.int .i64 (cmpI (vl B x) (vl B y))), τ) ∧ Gr σ0 τ
  | 0, k, f, σ, hn, hdr, hI => by
    obtain ⟨r3, r4, a3, a4, c3, c4, n1, n2, n3, n4, n5⟩ := hI.rs
    have g1 : Nm (σ.set m (.lp .ready)) va x := ha.gr (hI.gr.set hI.q.2.2 _) hao
    rw [rnd_end hI.hm (it_box (v := va) (by simp [hI.q.2.1, hI.hp]) g1 (by omega)) (by rw [List.getElem?_eq_none]; rw [lx_len]; omega)]
    have he : x = y := by simpa using hdr
    have hc : cmpI (vl B x) (vl B y) = 0 := by rw [he]; simp [cmpI]
    rw [hc]
    show ∃ τ, _ ∧ Gr σ0 τ
    refine ⟨_, by simp [cmpX, a4, c4, n3, fin_coll]; rfl, (hI.gr.kill hI.q.2.2).set n5 _⟩
  | n + 1, k, f, σ, hn, hdr, hI => by
    obtain ⟨r3, r4, a3, a4, c3, c4, n1, n2, n3, n4, n5⟩ := hI.rs
    have g1 : Nm (σ.set m (.lp .ready)) va x := ha.gr (hI.gr.set hI.q.2.2 _) hao
    have hat := lx_at x (n := n) (k := k) (by omega)
    rw [rnd_at (e' := (setPs e [25, 26] [.int .i64 n, .int .u32 (rd x n)]).put (some 5) (.int .i64 n) |>.put (some 6) (.int .u32 (rd x n))) hB1 hI.hm (it_box (v := va) (by simp [hI.q.2.1, hI.hp]) g1 (by omega)) hat rfl (by rw [hA]; rfl)]
    have e31 : ∀ (t : Nat), ((setPs e [25, 26] [.int .i64 n, .int .u32 (rd x n)]).put (some 5) (.int .i64 n) |>.put (some 6) (.int .u32 (rd x n))) t = if t = 6 then .int .u32 (rd x n) else if t = 5 then .int .i64 n else (if t = 26 then .int .u32 (rd x n) else if t = 25 then .int .i64 n else e t) := fun t => rfl
    generalize ((setPs e [25, 26] [.int .i64 n, .int .u32 (rd x n)]).put (some 5) (.int .i64 n) |>.put (some 6) (.int .u32 (rd x n))) = e' at e31
    have hb' := hb.gr hI.gr hbo
    have i1 := hb'.at (k := .i64) (i := n) (by omega)
    have l1 := hb'.ld (i := n) (by omega)
    have hret : ∀ c : Int, Gr σ0 ((σ.set r4 (.row 1 [[.int .i64 c]])).kill m) := fun c => (hI.gr.set n5 _).kill hI.q.2.2
    have hIt : ∀ c : Int, ET.It 26 [.ptr p 0 0] ((σ.set r4 (.row 1 [[.int .i64 c]])).set m (.lp (.done none))) = some (.islc 1 (x.map nE), lx x x.length) := fun c => it_box (v := va) (by simp [hI.q.2.1, Ne.symm n4, hI.hp]) (ha.gr ((hI.gr.set n5 _).set hI.q.2.2 _) hao) (by omega)
    have hmm : ∀ c : Int, (σ.set r4 (.row 1 [[.int .i64 c]])).H m = some (.lp .busy) := fun c => by simp [Ne.symm n3, hI.hm]
    have hst : ∀ c : Int, stV σ 1 (.ptr r4 0 0) (.int .i64 c) = some (σ.set r4 (.row 1 [[.int .i64 c]])) := fun c => by rw [stV_ptr]; simp [c4, setAt]
    have hrt : ∀ (c : Int) (fr : Fr) (s : List SE), run ET false [.c 4 none] (.d .ret :: .rnd e [] m [25, 26] A B1 26 [.ptr p 0 0] (.islc 1 (x.map nE)) (lx x x.length) (k + 1) :: s) fr (σ.set r4 (.row 1 [[.int .i64 c]])) = run ET false [.c 4 none] (.d .ret :: s) ⟨e, [.coll]⟩ ((σ.set r4 (.row 1 [[.int .i64 c]])).kill m) := fun c fr s => r_ret_rnd (E := ET) (h := hmm c) (hI := hIt c) ..
    have hdr' : x.drop (n + 1) = y.drop (n + 1) := hdr
    by_cases h1 : rd x n < rd y n
    · have hlt := top_lt (B := B) (by omega) dx dy (by omega) (by omega) hdr' h1
      have hc : cmpI (vl B x) (vl B y) = -1 := by simp [cmpI, hlt]
      rw [hc]
      show ∃ τ, _ ∧ Gr σ0 τ
      refine ⟨_, by simp [b15_1, e31, a3, a4, c3, i1, l1, h1, hst, hrt, n3, fin_coll, -stV_ptr]; rfl, hret _⟩
    · by_cases h2 : rd y n < rd x n
      · have hlt := top_lt (B := B) (by omega) dy dx (by omega) (by omega) hdr'.symm h2
        have hc : cmpI (vl B x) (vl B y) = 1 := by simp [cmpI, hlt, show ¬ vl B x < vl B y by omega]
        rw [hc]
        show ∃ τ, _ ∧ Gr σ0 τ
        refine ⟨_, by simp [b15_1, e31, a3, a4, c3, i1, l1, h1, h2, hst, hrt, n3, fin_coll, -stV_ptr]; rfl, hret _⟩
      · have heq : rd x n = rd y n := by omega
        have hdn : x.drop n = y.drop n := by
          rw [List.drop_eq_getElem_cons (show n < x.length by omega), List.drop_eq_getElem_cons (show n < y.length by omega), hdr']
          have e1 : rd x n = x[n]'(by omega) := by rw [rd_nat, List.getElem?_eq_getElem (by omega)]; rfl
          have e2 : rd y n = y[n]'(by omega) := by rw [rd_nat, List.getElem?_eq_getElem (by omega)]; rfl
          rw [← e1, ← e2, heq]
        have ih := fun f => cmp_loop hB ha hao hb hbo dx dy hl hxy hA hB1 n (k + 1) f σ (by omega) hdn hI
        simp [b15_1, e31, a3, a4, c3, i1, l1, h1, h2, -stV_ptr]
        exact ih _
theorem cmp_ev (hB : B = 4294967296) {σ : St} {va vb : V} {a b : List Int} (ha : Nm σ va a) (hao : va.old σ) (hsa : va.scal = true) (hb : Nm σ vb b) (hbo : vb.old σ) (hsb : vb.scal = true) (da : Dg B a) (db : Dg B b) (hal : a.length < 2 ^ 30) (hbl : b.length < 2 ^ 30) :
    ev ET 15 [va, vb] σ = some (.ret (.int .i64 (cmpI (vl B a) (vl B b))), σ) := by
  suffices h : ∃ τ, run ET false f15.res [.d f15.body] ⟨envOf [va, vb], []⟩ σ = some (.ret (.int .i64 (cmpI (vl B a) (vl B b))), τ) ∧ Gr σ τ by
    obtain ⟨τ, h, g⟩ := h
    exact ev_pure (fd := f15) rfl (by simp [f15]) rfl h g.H g.W (by simp)
  have n1 := trim_nm ha
  have n2 := trim_nm hb
  have l1 := tr_length a
  have l2 := tr_length b
  have d1 := tr_Dg da
  have d2 := tr_Dg db
  have y1 := tr_tr a
  have y2 := tr_tr b
  have o1 : (cutV va 0 (tr a).length).old σ := V.old_cut hao 0 _
  have o2 : (cutV vb 0 (tr b).length).old σ := V.old_cut hbo 0 _
  have t1 : ∀ σ', Gr σ σ' → ev ET 13 [va] σ' = some (.ret (cutV va 0 (tr a).length), σ') := fun σ' g => trim_ev rfl (ha.gr g hao) (by omega)
  have t2 : ∀ σ', Gr σ σ' → ev ET 13 [vb] σ' = some (.ret (cutV vb 0 (tr b).length), σ') := fun σ' g => trim_ev rfl (hb.gr g hbo) (by omega)
  rw [← tr_vl a, ← tr_vl b]
  obtain ⟨x, hx⟩ : ∃ x, x = tr a := ⟨_, rfl⟩
  obtain ⟨y, hy⟩ : ∃ y, y = tr b := ⟨_, rfl⟩
  rw [← hx] at n1 l1 d1 o1 y1 ⊢
  rw [← hy] at n2 l2 d2 o2 y2 ⊢
  simp only [← hx] at t1
  simp only [← hy] at t2
  obtain ⟨ux, hux⟩ : ∃ u, u = cutV va 0 x.length := ⟨_, rfl⟩
  obtain ⟨uy, huy⟩ : ∃ u, u = cutV vb 0 y.length := ⟨_, rfl⟩
  rw [← hux] at n1 o1
  rw [← huy] at n2 o2
  simp only [← hux] at t1
  simp only [← huy] at t2
  have hsx : ux.scal = true := Rd.scal n1
  have hsy : uy.scal = true := Rd.scal n2
  have hcy : uy.cells = [uy] := cells_scal hsy
  have hbx := boxV_v σ vb hsb
  obtain ⟨s1, hs1⟩ : ∃ s1, s1 = (σ.new (.row 1 [[vb]])).new (.row 1 [[.int .i64 0]]) := ⟨_, rfl⟩
  obtain ⟨s2, hs2⟩ : ∃ s2, s2 = s1.set σ.n (.row 1 [[uy]]) := ⟨_, rfl⟩
  have m1 : s1.n = σ.n + 2 := by rw [hs1]; simp
  have m2 : s2.n = σ.n + 2 := by rw [hs2]; simp [m1]
  have g1 : Gr σ s1 := by rw [hs1]; exact ((Gr.refl σ).new _).new _
  have g2 : Gr σ s2 := by rw [hs2]; exact g1.set (Nat.le_refl _) _
  have c0 : s1.H σ.n = some (.row 1 [[vb]]) := by rw [hs1]; simp
  have c3 : s2.H σ.n = some (.row 1 [[uy]]) := by rw [hs2]; simp
  have c4 : s2.H (σ.n + 1) = some (.row 1 [[.int .i64 0]]) := by rw [hs2, hs1]; simp
  have hs : stV s1 1 (.ptr σ.n 0 0) uy = some s2 := by rw [stV_ptr]; simp [c0, hcy, hsy, setAt, hs2]
  have t1' := t1 s1 g1
  have t2' := t2 s1 g1
  have lx1 := n1.len
  have ly1 := n2.len
  show ∃ τ, _ ∧ Gr σ τ
  by_cases h1 : x.length < y.length
  · have hc : cmpI (vl B x) (vl B y) = -1 := by simp [cmpI, len_lt (B := B) (by omega) d1 d2 y2 h1]
    rw [hc]
    exact ⟨_, by simp [f15, d15, hbx, ← hs1, c0, t1', t2', hs, c3, c4, lx1, ly1, h1, -stV_ptr]; simp [c4]; rfl, g2.set (by omega) _⟩
  · by_cases h2 : y.length < x.length
    · have hlt := len_lt (B := B) (by omega) d2 d1 y1 h2
      have hc : cmpI (vl B x) (vl B y) = 1 := by simp [cmpI, hlt, show ¬ vl B x < vl B y by omega]
      rw [hc]
      exact ⟨_, by simp [f15, d15, hbx, ← hs1, c0, t1', t2', hs, c3, c4, lx1, ly1, h1, h2, -stV_ptr]; simp [c4]; rfl, g2.set (by omega) _⟩
    · have hit := limbs_ev (σ := s2) hsx
      obtain ⟨s3, hs3⟩ : ∃ s3, s3 = s2.new (.row 1 [[ux]]) := ⟨_, rfl⟩
      have m3 : s3.n = σ.n + 3 := by rw [hs3]; simp [m2]
      have g3 : Gr σ s3 := by rw [hs3]; exact g2.new _
      have e3 : s3.H σ.n = some (.row 1 [[uy]]) := by rw [hs3]; simp [show σ.n ≠ s2.n by omega, c3]
      have e4 : s3.H (σ.n + 1) = some (.row 1 [[.int .i64 0]]) := by rw [hs3]; simp [show σ.n + 1 ≠ s2.n by omega, c4]
      rw [← hs3] at hit
      simp [f15, d15, hbx, ← hs1, c0, t1', t2', hs, c3, c4, lx1, ly1, h1, h2, hit, -stV_ptr]
      rw [rng_in (.t 24) rfl rfl (it_box (p := s2.n) (v := ux) (l := x) (by rw [hs3]; simp) (n1.gr g3 o1) (by omega))]
      exact cmp_loop hB n1 o1 n2 o2 d1 d2 (by omega) (by omega) rfl rfl x.length 0 _ _ (by omega) (by rw [List.drop_length, List.drop_eq_nil_of_le (by omega)])
        ⟨g3.new _, by omega, by simp, by simp [show s2.n ≠ s3.n by omega, hs3], σ.n, σ.n + 1, by simp, by simp, by simp [show σ.n ≠ s3.n by omega, e3], by simp [show σ.n + 1 ≠ s3.n by omega, e4], by omega, by omega, by omega, by omega, by omega⟩
end Go.Proofs.Yticpkoakbneefaa
