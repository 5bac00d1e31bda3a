/-
The walk over the program's texts, told with what its values say: a part of it. No further condition.
-/
import Derived.Test.YtmkgmjdbgjiehaaDoorAbSnG
namespace Go.Proofs.YtmkgmjdbgjiehaaDoor
open Go.Proofs.YtmkgmjdbgjiehaaDoor.Ab
set_option linter.unusedVariables false
set_option linter.unusedSimpArgs false
attribute [local simp] Gr.refl Gr.new Gr.set Gr.kill Nat.add_assoc r_cks chk wantG
variable {B : Int}
theorem top_le (hB : 2 ≤ B) {y : List Int} (dy : Dg B y) (ty : tr y = y) {k : Nat} (hk : k < y.length) : B ^ k ≤ vl B y := by
  rcases Int.lt_or_le (vl B y) (B ^ k) with h | h
  · have := cn_length hB h
    rw [cn_self hB dy ty] at this
    omega
  · exact h
theorem len_lt (hB : 2 ≤ B) {x y : List Int} (dx : Dg B x) (dy : Dg B y) (ty : tr y = y) (h : x.length < y.length) : vl B x < vl B y :=
  Int.lt_of_lt_of_le (vl_lt (by omega) dx) (top_le hB dy ty h)
theorem top_lt (hB : 2 ≤ B) {x y : List Int} (dx : Dg B x) (dy : Dg B y) {n : Nat} (hx : n < x.length) (hy : n < y.length) (hd : x.drop (n + 1) = y.drop (n + 1)) (h : rd x n < rd y n) : vl B x < vl B y := by
  have h1 := vl_split (B := B) n x
  have h2 := vl_split (B := B) n y
  rw [vl_drop hx] at h1
  rw [vl_drop hy, ← hd] at h2
  have h3 := vl_lt (show 0 < B by omega) (dx.take n)
  rw [List.length_take, Nat.min_eq_left (by omega)] at h3
  have h4 := vl_nonneg (show 0 ≤ B by omega) (dy.take n)
  have h5 := pow_pos' (show 0 < B by omega) n
  have h6 := Int.mul_le_mul_of_nonneg_left (show rd x n + 1 ≤ rd y n by omega) (Int.le_of_lt h5)
  rw [Int.mul_add] at h1 h2
  rw [Int.mul_add, Int.mul_one] at h6
  omega
def cmpI (x y : Int) : Int := if x < y then -1 else if y < x then 1 else 0
def cmpX : D := .kb [4] (.seq (.reg [⟨none, none, .st 1 (.t 4) (.c (.int .i64 0))⟩]) .ret)
structure CmI (σ0 σ : St) (e : Env) (m p : Nat) (va vb : V) : Prop where
  gr : Gr σ0 σ
  q : σ0.n ≤ p ∧ p ≠ m ∧ σ0.n ≤ m
  hm : σ.H m = some (.lp .busy)
  hp : σ.H p = some (.row 1 [[va]])
  rs : ∃ r3 r4, e 3 = .ptr r3 0 0 ∧ e 4 = .ptr r4 0 0 ∧ σ.H r3 = some (.row 1 [[vb]]) ∧ σ.H r4 = some (.row 1 [[.int .i64 0]]) ∧ r3 ≠ r4 ∧ r3 ≠ m ∧ r4 ≠ m ∧ r4 ≠ p ∧ σ0.n ≤ r4
theorem lx_at (l : List Int) {n k : Nat} (h : n + 1 + k = l.length) : (lx l l.length)[k]? = some [.int .i64 n, .int .u32 (rd l n)] := by
  have : ∀ N, n < N → N ≤ l.length → (lx l N)[N - (n + 1)]? = some [.int .i64 n, .int .u32 (rd l n)] := by
    intro N h1 _
    induction N with
    | zero => omega
    | succ N ih =>
      rcases Nat.lt_or_ge n N with h2 | h2
      · rw [show N + 1 - (n + 1) = (N - (n + 1)) + 1 by omega]
        simp only [lx, List.getElem?_cons_succ]
        exact ih h2 (by omega)
      · obtain rfl : n = N := by omega
        simp [lx]
  have := this l.length (by omega) (Nat.le_refl _)
  rwa [show l.length - (n + 1) = k by omega] at this
theorem cmp_loop (hB : B = 4294967296) {σ0 : St} {va vb : V} {x y : List Int} (ha : Nm σ0 va x) (hao : va.old σ0) (hb : Nm σ0 vb y) (hbo : vb.old σ0) (dx : Dg B x) (dy : Dg B y) (hl : x.length < 2 ^ 30) (hxy : x.length = y.length) {e : Env} {m p : Nat} {A B1 : D} (hA : A = b39_0) (hB1 : B1 = b39_1) :
    ∀ (n k : Nat) (f : Fr) (σ : St), n + k = x.length → x.drop n = y.drop n → CmI σ0 σ e m p va vb →
      ∃ τ, run ET false [.c 4 none] (.rnd e [] m [25, 26] A B1 76 [.ptr p 0 0] (.islc 1 (x.map nE)) (lx x x.length) k :: .blk 1 :: [.d cmpX]) f σ = some (.ret (.int .i64 (cmpI (vl B x) (vl B y))), τ) ∧ Gr σ0 τ
  | 0, k, f, σ, hn, hdr, hI => by
    obtain ⟨r3, r4, a3, a4, c3, c4, n1, n2, n3, n4, n5⟩ := hI.rs
    have g1 : Nm (σ.set m (.lp .ready)) va x := ha.gr (hI.gr.set hI.q.2.2 _) hao
    rw [rnd_end hI.hm (it_box (v := va) (by simp [hI.q.2.1, hI.hp]) g1 (by omega)) (by rw [List.getElem?_eq_none]; rw [lx_len]; omega)]
    have he : x = y := by simpa using hdr
    have hc : cmpI (vl B x) (vl B y) = 0 := by rw [he]; simp [cmpI]
    rw [hc]
    show ∃ τ, _ ∧ Gr σ0 τ
    refine ⟨_, by simp [cmpX, a4, c4, n3, fin_coll]; rfl, (hI.gr.kill hI.q.2.2).set n5 _⟩
  | n + 1, k, f, σ, hn, hdr, hI => by
    obtain ⟨r3, r4, a3, a4, c3, c4, n1, n2, n3, n4, n5⟩ := hI.rs
    have g1 : Nm (σ.set m (.lp .ready)) va x := ha.gr (hI.gr.set hI.q.2.2 _) hao
    have hat := lx_at x (n := n) (k := k) (by omega)
    rw [rnd_at (e' := (setPs e [25, 26] [.int .i64 n, .int .u32 (rd x n)]).put (some 5) (.int .i64 n) |>.put (some 6) (.int .u32 (rd x n))) hB1 hI.hm (it_box (v := va) (by simp [hI.q.2.1, hI.hp]) g1 (by omega)) hat rfl (by rw [hA]; rfl)]
    have e31 : ∀ (t : Nat), ((setPs e [25, 26] [.int .i64 n, .int .u32 (rd x n)]).put (some 5) (.int .i64 n) |>.put (some 6) (.int .u32 (rd x n))) t = if t = 6 then .int .u32 (rd x n) else if t = 5 then .int .i64 n else (if t = 26 then .int .u32 (rd x n) else if t = 25 then .int .i64 n else e t) := fun t => rfl
    generalize ((setPs e [25, 26] [.int .i64 n, .int .u32 (rd x n)]).put (some 5) (.int .i64 n) |>.put (some 6) (.int .u32 (rd x n))) = e' at e31
    have hb' := hb.gr hI.gr hbo
    have i1 := hb'.at (k := .i64) (i := n) (by omega)
    have l1 := hb'.ld (i := n) (by omega)
    have hret : ∀ c : Int, Gr σ0 ((σ.set r4 (.row 1 [[.int .i64 c]])).kill m) := fun c => (hI.gr.set n5 _).kill hI.q.2.2
    have hIt : ∀ c : Int, ET.It 76 [.ptr p 0 0] ((σ.set r4 (.row 1 [[.int .i64 c]])).set m (.lp (.done none))) = some (.islc 1 (x.map nE), lx x x.length) := fun c => it_box (v := va) (by simp [hI.q.2.1, Ne.symm n4, hI.hp]) (ha.gr ((hI.gr.set n5 _).set hI.q.2.2 _) hao) (by omega)
    have hmm : ∀ c : Int, (σ.set r4 (.row 1 [[.int .i64 c]])).H m = some (.lp .busy) := fun c => by simp [Ne.symm n3, hI.hm]
    have hst : ∀ c : Int, stV σ 1 (.ptr r4 0 0) (.int .i64 c) = some (σ.set r4 (.row 1 [[.int .i64 c]])) := fun c => by rw [stV_ptr]; simp [c4, setAt]
    have hrt : ∀ (c : Int) (fr : Fr) (s : List SE), run ET false [.c 4 none] (.d .ret :: .rnd e [] m [25, 26] A B1 76 [.ptr p 0 0] (.islc 1 (x.map nE)) (lx x x.length) (k + 1) :: s) fr (σ.set r4 (.row 1 [[.int .i64 c]])) = run ET false [.c 4 none] (.d .ret :: s) ⟨e, [.coll]⟩ ((σ.set r4 (.row 1 [[.int .i64 c]])).kill m) := fun c fr s => r_ret_rnd (E := ET) (h := hmm c) (hI := hIt c) ..
    have hdr' : x.drop (n + 1) = y.drop (n + 1) := hdr
    by_cases h1 : rd x n < rd y n
    · have hlt := top_lt (B := B) (by omega) dx dy (by omega) (by omega) hdr' h1
      have hc : cmpI (vl B x) (vl B y) = -1 := by simp [cmpI, hlt]
      rw [hc]
      show ∃ τ, _ ∧ Gr σ0 τ
      refine ⟨_, by simp [b39_1, e31, a3, a4, c3, i1, l1, h1, hst, hrt, n3, fin_coll, -stV_ptr]; rfl, hret _⟩
    · by_cases h2 : rd y n < rd x n
      · have hlt := top_lt (B := B) (by omega) dy dx (by omega) (by omega) hdr'.symm h2
        have hc : cmpI (vl B x) (vl B y) = 1 := by simp [cmpI, hlt, show ¬ vl B x < vl B y by omega]
        rw [hc]
        show ∃ τ, _ ∧ Gr σ0 τ
        refine ⟨_, by simp [b39_1, e31, a3, a4, c3, i1, l1, h1, h2, hst, hrt, n3, fin_coll, -stV_ptr]; rfl, hret _⟩
      · have heq : rd x n = rd y n := by omega
        have hdn : x.drop n = y.drop n := by
          rw [List.drop_eq_getElem_cons (show n < x.length by omega), List.drop_eq_getElem_cons (show n < y.length by omega), hdr']
          have e1 : rd x n = x[n]'(by omega) := by rw [rd_nat, List.getElem?_eq_getElem (by omega)]; rfl
          have e2 : rd y n = y[n]'(by omega) := by rw [rd_nat, List.getElem?_eq_getElem (by omega)]; rfl
          rw [← e1, ← e2, heq]
        have ih := fun f => cmp_loop hB ha hao hb hbo dx dy hl hxy hA hB1 n (k + 1) f σ (by omega) hdn hI
        simp [b39_1, e31, a3, a4, c3, i1, l1, h1, h2, -stV_ptr]
        exact ih _
theorem cmp_ev (hB : B = 4294967296) {σ : St} {va vb : V} {a b : List Int} (ha : Nm σ va a) (hao : va.old σ) (hsa : va.scal = true) (hb : Nm σ vb b) (hbo : vb.old σ) (hsb : vb.scal = true) (da : Dg B a) (db : Dg B b) (hal : a.length < 2 ^ 30) (hbl : b.length < 2 ^ 30) :
    ev ET 39 [va, vb] σ = some (.ret (.int .i64 (cmpI (vl B a) (vl B b))), σ) := by
  suffices h : ∃ τ, run ET false f39.res [.d f39.body] ⟨envOf [va, vb], []⟩ σ = some (.ret (.int .i64 (cmpI (vl B a) (vl B b))), τ) ∧ Gr σ τ by
    obtain ⟨τ, h, g⟩ := h
    exact ev_pure (fd := f39) rfl (by simp [f39]) rfl h g.H g.W (by simp)
  have n1 := trim_nm ha
  have n2 := trim_nm hb
  have l1 := tr_length a
  have l2 := tr_length b
  have d1 := tr_Dg da
  have d2 := tr_Dg db
  have y1 := tr_tr a
  have y2 := tr_tr b
  have o1 : (cutV va 0 (tr a).length).old σ := V.old_cut hao 0 _
  have o2 : (cutV vb 0 (tr b).length).old σ := V.old_cut hbo 0 _
  have t1 : ∀ σ', Gr σ σ' → ev ET 62 [va] σ' = some (.ret (cutV va 0 (tr a).length), σ') := fun σ' g => trim_ev rfl (ha.gr g hao) (by omega)
  have t2 : ∀ σ', Gr σ σ' → ev ET 62 [vb] σ' = some (.ret (cutV vb 0 (tr b).length), σ') := fun σ' g => trim_ev rfl (hb.gr g hbo) (by omega)
  rw [← tr_vl a, ← tr_vl b]
  obtain ⟨x, hx⟩ : ∃ x, x = tr a := ⟨_, rfl⟩
  obtain ⟨y, hy⟩ : ∃ y, y = tr b := ⟨_, rfl⟩
  rw [← hx] at n1 l1 d1 o1 y1 ⊢
  rw [← hy] at n2 l2 d2 o2 y2 ⊢
  simp only [← hx] at t1
  simp only [← hy] at t2
  obtain ⟨ux, hux⟩ : ∃ u, u = cutV va 0 x.length := ⟨_, rfl⟩
  obtain ⟨uy, huy⟩ : ∃ u, u = cutV vb 0 y.length := ⟨_, rfl⟩
  rw [← hux] at n1 o1
  rw [← huy] at n2 o2
  simp only [← hux] at t1
  simp only [← huy] at t2
  have hsx : ux.scal = true := Rd.scal n1
  have hsy : uy.scal = true := Rd.scal n2
  have hcy : uy.cells = [uy] := cells_scal hsy
  have hbx := boxV_v σ vb hsb
  obtain ⟨s1, hs1⟩ : ∃ s1, s1 = (σ.new (.row 1 [[vb]])).new (.row 1 [[.int .i64 0]]) := ⟨_, rfl⟩
  obtain ⟨s2, hs2⟩ : ∃ s2, s2 = s1.set σ.n (.row 1 [[uy]]) := ⟨_, rfl⟩
  have m1 : s1.n = σ.n + 2 := by rw [hs1]; simp
  have m2 : s2.n = σ.n + 2 := by rw [hs2]; simp [m1]
  have g1 : Gr σ s1 := by rw [hs1]; exact ((Gr.refl σ).new _).new _
  have g2 : Gr σ s2 := by rw [hs2]; exact g1.set (Nat.le_refl _) _
  have c0 : s1.H σ.n = some (.row 1 [[vb]]) := by rw [hs1]; simp
  have c3 : s2.H σ.n = some (.row 1 [[uy]]) := by rw [hs2]; simp
  have c4 : s2.H (σ.n + 1) = some (.row 1 [[.int .i64 0]]) := by rw [hs2, hs1]; simp
  have hs : stV s1 1 (.ptr σ.n 0 0) uy = some s2 := by rw [stV_ptr]; simp [c0, hcy, hsy, setAt, hs2]
  have t1' := t1 s1 g1
  have t2' := t2 s1 g1
  have lx1 := n1.len
  have ly1 := n2.len
  show ∃ τ, _ ∧ Gr σ τ
  by_cases h1 : x.length < y.length
  · have hc : cmpI (vl B x) (vl B y) = -1 := by simp [cmpI, len_lt (B := B) (by omega) d1 d2 y2 h1]
    rw [hc]
    exact ⟨_, by simp [f39, d39, hbx, ← hs1, c0, t1', t2', hs, c3, c4, lx1, ly1, h1, -stV_ptr]; simp [c4]; rfl, g2.set (by omega) _⟩
  · by_cases h2 : y.length < x.length
    · have hlt := len_lt (B := B) (by omega) d2 d1 y1 h2
      have hc : cmpI (vl B x) (vl B y) = 1 := by simp [cmpI, hlt, show ¬ vl B x < vl B y by omega]
      rw [hc]
      exact ⟨_, by simp [f39, d39, hbx, ← hs1, c0, t1', t2', hs, c3, c4, lx1, ly1, h1, h2, -stV_ptr]; simp [c4]; rfl, g2.set (by omega) _⟩
    · have hit := limbs_ev (σ := s2) hsx
      obtain ⟨s3, hs3⟩ : ∃ s3, s3 = s2.new (.row 1 [[ux]]) := ⟨_, rfl⟩
      have m3 : s3.n = σ.n + 3 := by rw [hs3]; simp [m2]
      have g3 : Gr σ s3 := by rw [hs3]; exact g2.new _
      have e3 : s3.H σ.n = some (.row 1 [[uy]]) := by rw [hs3]; simp [show σ.n ≠ s2.n by omega, c3]
      have e4 : s3.H (σ.n + 1) = some (.row 1 [[.int .i64 0]]) := by rw [hs3]; simp [show σ.n + 1 ≠ s2.n by omega, c4]
      rw [← hs3] at hit
      simp [f39, d39, hbx, ← hs1, c0, t1', t2', hs, c3, c4, lx1, ly1, h1, h2, hit, -stV_ptr]
      rw [rng_in (.t 24) rfl rfl (it_box (p := s2.n) (v := ux) (l := x) (by rw [hs3]; simp) (n1.gr g3 o1) (by omega))]
      exact cmp_loop hB n1 o1 n2 o2 d1 d2 (by omega) (by omega) rfl rfl x.length 0 _ _ (by omega) (by rw [List.drop_length, List.drop_eq_nil_of_le (by omega)])
        ⟨g3.new _, by omega, by simp, by simp [show s2.n ≠ s3.n by omega, hs3], σ.n, σ.n + 1, by simp, by simp, by simp [show σ.n ≠ s3.n by omega, e3], by simp [show σ.n + 1 ≠ s3.n by omega, e4], by omega, by omega, by omega, by omega, by omega⟩
end Go.Proofs.YtmkgmjdbgjiehaaDoor
namespace Go.Proofs.YtmkgmjdbgjiehaaDoor
open Go.Proofs.YtmkgmjdbgjiehaaDoor.Ab
set_option linter.unusedVariables false
set_option linter.unusedSimpArgs false
attribute [local simp] Gr.refl Gr.new Gr.set Gr.kill Nat.add_assoc r_cks chk wantG
variable {E : En Tryd.prog} {B : Int}
theorem of_ev (hT : E.T = T) (hB : B = 4294967296) {σ : St} {x : Int} (h0 : 0 ≤ x) (h1 : x < 18446744073709551616) : ∃ u τ, ev E 101 [.int .u64 x] σ = some (.ret u, τ) ∧ New σ τ u (cn B x) := by
  suffices h : ∃ u τ, run E false f101.res [.d f101.body] ⟨envOf [.int .u64 x], []⟩ σ = some (.ret u, τ) ∧ New σ τ u (cn B x) by
    obtain ⟨u, τ, h, k⟩ := h
    exact ⟨u, τ, ev_raw (fd := f101) (by rw [hT]; rfl) (by simp [f101]) rfl h, k⟩
  have w1 : IntKind.u32.wrap x = x % B := by rw [wrap_u32, hB]
  have w2 : x.fdiv (2 ^ min 32 IntKind.u64.bits) = x / B := by rw [fd32 x h0, hB]
  have w3 : IntKind.u32.wrap (x / B) = x / B := by rw [wrap_u32, hB]; omega
  obtain ⟨lo, hlo⟩ : ∃ y, y = x % B := ⟨_, rfl⟩
  obtain ⟨hi, hhi⟩ : ∃ y, y = x / B := ⟨_, rfl⟩
  rw [← hlo] at w1; rw [← hhi] at w2 w3
  have d : Dg B [lo, hi] := by
    intro y hy
    simp only [List.mem_cons, List.not_mem_nil, or_false] at hy
    subst hB
    rcases hy with rfl | rfl <;> omega
  have hv : vl B [lo, hi] = x := by simp [vl]; subst hB; omega
  obtain ⟨s1, hs1⟩ : ∃ s1, s1 = σ.new (.row 1 [[.int .u32 lo], [.int .u32 hi]]) := ⟨_, rfl⟩
  have hH : s1.H σ.n = some (.row 1 ([lo, hi].map nE)) := by rw [hs1]; simp [nE]
  have hnew := New.row (N := 2) hH rfl (show Gr σ s1 by rw [hs1]; exact (Gr.refl σ).new _) (Nat.le_refl _) (by rw [hs1]; simp)
  obtain ⟨u, τ, k1, k2⟩ := norm_ev hT hnew.rd (by simp)
  rw [tr_cn (B := B) (by omega) d, hv] at k2
  refine ⟨u, τ, ?_, k2.base hnew.gr⟩
  simp [f101, d101, w1, w2, w3, ← hs1, k1]
end Go.Proofs.YtmkgmjdbgjiehaaDoor
namespace Go.Proofs.YtmkgmjdbgjiehaaDoor
open Go.Proofs.YtmkgmjdbgjiehaaDoor.Ab
set_option linter.unusedVariables false
set_option linter.unusedSimpArgs false
attribute [local simp] Gr.refl Gr.new Gr.set Gr.kill Nat.add_assoc r_cks chk wantG
variable {B : Int}
def dgt (d : Int) : UInt8 := UInt8.ofNat (48 + d.toNat)
def dgs (v : Int) : List UInt8 := (cn 10 v).map dgt
def TxQ (σ0 : St) (s : List UInt8) (f' : Fr) (σ' : St) : Prop := ∃ v, Own σ0 σ' 1 v (s.map byteE) ∧ f'.ds = [] ∧ f'.env 4 = v
theorem text_loop (hB : B = 4294967296) {σ0 : St} {n M : Nat} (hn : n < 2 ^ 28) (hM : M < 2 ^ 31) {dd : Bool} {rs : List RC} {st : List SE} {B0 : D} (hB0 : B0 = b42_0) :
    ∀ (m : Nat) (r : Int) (acc : List UInt8) (vr vd : V) (f : Fr) (σ : St), r.toNat ≤ m → Sm B n r → New σ0 σ vr (cn B r) → Own σ0 σ 1 vd (acc.map byteE) → (∀ k, vr.row = some k → vd.row ≠ some k) → acc.length + (cn 10 r).length ≤ M → f.ds = [] → f.env 3 = vr → f.env 4 = vd →
      Lands ET dd rs st (TxQ σ0 (acc ++ dgs r)) (run ET dd rs (.d (.loop [3, 4] B0) :: .blk 0 :: st) f σ) := by
  have h2 : 2 ≤ B := by omega
  have zero : ∀ (acc : List UInt8) (vr vd : V) (f : Fr) (σ : St), New σ0 σ vr (cn B 0) → Own σ0 σ 1 vd (acc.map byteE) → f.ds = [] → f.env 3 = vr → f.env 4 = vd →
      Lands ET dd rs st (TxQ σ0 (acc ++ dgs 0)) (run ET dd rs (.d (.loop [3, 4] B0) :: .blk 0 :: st) f σ) := by
    intro acc vr vd f σ nr od hd e3 e4
    rw [cn_zero (v := 0) (Int.le_refl _)] at nr
    have hl := nr.rd.len
    simp at hl
    rw [r_loopU hB0]
    simp [b42_0, hd, e3, e4, hl]
    refine .here ⟨vd, ?_, by simp, by simp⟩
    rw [dgs, cn_zero (Int.le_refl _)]; simpa using od
  intro m
  induction m with
  | zero =>
    intro r acc vr vd f σ hm sr nr od hrow hlen hd e3 e4
    have : r = 0 := by have := sr.1; omega
    subst this
    exact zero acc vr vd f σ nr od hd e3 e4
  | succ m ih =>
    intro r acc vr vd f σ hm sr nr od hrow hlen hd e3 e4
    have sr0 := sr.1
    by_cases h0 : r = 0
    · subst h0; exact zero acc vr vd f σ nr od hd e3 e4
    · have hp : 0 < (cn B r).length := List.length_pos_iff.2 (cn_nil h2 (by omega))
      have lr := sr.len h2
      obtain ⟨u, τ, k1, k2⟩ := short_ev hB nr.rd nr.old (Rd.scal nr.rd) (cn_Dg h2 _) (by omega) (d := 10) (by omega)
      rw [sr.vl h2] at k1 k2
      have ec : cn 10 r = (r % 10) :: cn 10 (r / 10) := cn_cons (by omega) (by omega)
      have hlen' : acc.length + 1 + (cn 10 (r / 10)).length ≤ M := by rw [ec] at hlen; simp at hlen; omega
      obtain ⟨d, hd'⟩ : ∃ d, d = r % 10 := ⟨_, rfl⟩
      obtain ⟨r', hr'⟩ : ∃ d, d = r / 10 := ⟨_, rfl⟩
      rw [← hd'] at k1 ec
      rw [← hr'] at k2 ec hlen'
      have hd0 : 0 ≤ d ∧ d < 10 := by omega
      have hc : (dgt d).toNat = 48 + d.toNat := by simp [dgt]; omega
      have w1 : IntKind.u32.wrap (48 + d) = 48 + d := by rw [wrap_u32]; omega
      have w2 : IntKind.u8.wrap (48 + d) = ((dgt d).toNat : Int) := by rw [hc]; simp [IntKind.wrap, IntKind.signed, IntKind.bits]; omega
      have od' := od.step k2.gr
      obtain ⟨v', τ', a1, a2, a3, a4, a5⟩ := od'.app1N [byteE (dgt d)] (by simp) (bytes := 1) (by simp [reach]; omega) (by simp [reach]; omega) (n := 1) rfl
      have nr' : New σ0 τ' u (cn B r') := by
        refine ⟨Rd.mono k2.rd fun l off len e => a5 l (k2.old l off len e) fun h => ?_, a2.gr, fun k hk => ?_, k2.wr⟩
        · have h1 := (k2.lo l (by rw [e]; rfl)).1
          have h2 := (od.lo l h).2
          omega
        · have h1 := k2.lo k hk
          exact ⟨Nat.le_trans nr.gr.n h1.1, by omega⟩
      have ih := fun f => ih r' (acc ++ [dgt d]) u v' f τ' (by omega) ⟨by omega, by have := sr.2; omega⟩ nr' (by rw [List.map_append]; exact a2) (fun k hk h => by have h1 := (k2.lo k hk).2; have := a3 k h; omega) (by simpa using hlen')
      have ed : acc ++ dgs r = (acc ++ [dgt d]) ++ dgs r' := by rw [dgs, dgs, ec]; simp
      rw [ed]
      obtain ⟨S, hS⟩ : ∃ S, S = (acc ++ [dgt d]) ++ dgs r' := ⟨_, rfl⟩
      simp only [← hS] at ih ⊢
      rw [r_loopU hB0]
      simp only [byteE] at a1
      simp [b42_0, hd, e3, e4, nr.rd.len, hp, k1, w1, w2, a1]
      exact ih _ (by simp) (by simp) (by simp)
structure Rv (s cur : List UInt8) (i : Nat) : Prop where
  len : cur.length = s.length
  at_ : ∀ k, k < s.length → cur[k]? = if k < i ∨ s.length - i ≤ k then s[s.length - 1 - k]? else s[k]?
theorem Rv.zero (s : List UInt8) : Rv s s 0 := ⟨rfl, fun k hk => by rw [if_neg (by omega)]⟩
theorem Rv.next {s cur : List UInt8} {i j : Nat} (h : Rv s cur i) (hij : i + j + 1 = s.length) (hlt : i < j) {x y : UInt8} (hx : cur[i]? = some x) (hy : cur[j]? = some y) : Rv s ((cur.set i y).set j x) (i + 1) := by
  have h1 := h.at_ i (by omega)
  have h2 := h.at_ j (by omega)
  rw [if_neg (by omega), hx] at h1
  rw [if_neg (by omega), hy] at h2
  refine ⟨by simp [h.len], fun k hk => ?_⟩
  have hl := h.len
  rw [List.getElem?_set]
  by_cases hkj : j = k
  · subst hkj
    rw [if_pos rfl, if_pos (by simp; omega), if_pos (by omega), show s.length - 1 - j = i by omega, h1]
  · rw [if_neg hkj, List.getElem?_set]
    by_cases hki : i = k
    · subst hki
      rw [if_pos rfl, if_pos (by omega), if_pos (by omega), show s.length - 1 - i = j by omega, h2]
    · rw [if_neg hki, h.at_ k hk]
      by_cases hc : k < i ∨ s.length - i ≤ k
      · rw [if_pos hc, if_pos (by omega)]
      · rw [if_neg hc, if_neg (by omega)]
theorem Rv.done {s cur : List UInt8} {i j : Nat} (h : Rv s cur i) (hij : i + j + 1 = s.length) (hge : ¬ i < j) : cur = s.reverse := by
  apply List.ext_getElem?
  intro k
  by_cases hk : k < s.length
  · rw [h.at_ k hk, List.getElem?_reverse hk]
    by_cases hc : k < i ∨ s.length - i ≤ k
    · rw [if_pos hc]
    · rw [if_neg hc, show s.length - 1 - k = k by omega]
  · rw [List.getElem?_eq_none (by rw [h.len]; omega), List.getElem?_eq_none (by simp; omega)]
theorem rev_loop {σ0 : St} {s : List UInt8} {l N : Nat} (hl0 : σ0.n ≤ l) (hN : s.length = N) (hs : N < 2 ^ 40) {dd : Bool} {rs : List RC} {st : List SE} {B0 : D} (hB0 : B0 = b42_1) :
    ∀ (m i j : Nat) (cur : List UInt8) (f : Fr) (σ : St), i + j + 1 = s.length → j - i ≤ m → Rv s cur i → Gr σ0 σ → σ.H l = some (.row 1 (cur.map byteE)) → f.ds = [] → f.env 4 = .slc l 0 N → f.env 6 = .int .i64 i → f.env 7 = .int .i64 j →
      Lands ET dd rs st (fun f' σ' => Gr σ0 σ' ∧ Bs σ' (.slc l 0 N) s.reverse ∧ f'.ds = [] ∧ f'.env 4 = .slc l 0 N) (run ET dd rs (.d (.loop [4, 6, 7] B0) :: .blk 2 :: st) f σ) := by
  intro m
  induction m with
  | zero =>
    intro i j cur f σ hij hm hr hg hH hd e4 e6 e7
    have h : ¬ i < j := by omega
    rw [r_loopU hB0]
    simp [b42_1, hd, e4, e6, e7, h]
    refine .here ⟨hg, ?_, by simp, by simp⟩
    rw [← hr.done hij h]
    simp [Bs, Rd, cont, hH, ← hN, ← hr.len, List.take_of_length_le]
  | succ m ih =>
    intro i j cur f σ hij hm hr hg hH hd e4 e6 e7
    by_cases h : i < j
    · have hx : cur[i]? = some (cur[i]'(by rw [hr.len]; omega)) := List.getElem?_eq_getElem _
      have hy : cur[j]? = some (cur[j]'(by rw [hr.len]; omega)) := List.getElem?_eq_getElem _
      generalize cur[i]'_ = x at hx
      generalize cur[j]'_ = y at hy
      have hnext := hr.next hij h hx hy
      have hb : Bs σ (.slc l 0 N) cur := by simp [Bs, Rd, cont, hH, ← hN, ← hr.len, List.take_of_length_le]
      have i1 : ∀ b : Blk, (b = .row 1 ((cur.set i y).map byteE) ∨ b = .row 1 (cur.map byteE)) → iaV (σ.set l b) 1 (.slc l 0 N) (.int .i64 i) = some (.ptr l i 0) ∧ iaV (σ.set l b) 1 (.slc l 0 N) (.int .i64 j) = some (.ptr l j 0) := by
        have := hr.len
        rintro b (rfl | rfl) <;> simp [iaV] <;> omega
      have i2 : iaV σ 1 (.slc l 0 N) (.int .i64 i) = some (.ptr l i 0) := by have := hr.len; simp [iaV, hH]; omega
      have i3 : iaV σ 1 (.slc l 0 N) (.int .i64 j) = some (.ptr l j 0) := by have := hr.len; simp [iaV, hH]; omega
      have i4 := (i1 _ (.inl rfl)).2
      have l2 : ldV σ (.ptr l i 0) = some (.int .u8 x.toNat) := by rw [ldV_ptr, hH]; simp [hx, byteE]
      have l3 : ldV σ (.ptr l j 0) = some (.int .u8 y.toNat) := by rw [ldV_ptr, hH]; simp [hy, byteE]
      have s1 : stV σ 1 (.ptr l i 0) (.int .u8 y.toNat) = some (σ.set l (.row 1 ((cur.set i y).map byteE))) := by
        rw [stV_ptr, hH]
        simp [hx, byteE, setAt, List.map_set]
      obtain ⟨c1, hc1⟩ : ∃ c, c = cur.set i y := ⟨_, rfl⟩
      have hx1 : c1[j]? = some y := by rw [hc1, List.getElem?_set_ne (by omega)]; exact hy
      rw [← hc1] at s1 i4 hnext
      have s2 : stV (σ.set l (.row 1 (c1.map byteE))) 1 (.ptr l j 0) (.int .u8 x.toNat) = some (σ.set l (.row 1 ((c1.set j x).map byteE))) := by
        rw [stV_ptr]
        simp [hx1, byteE, setAt, List.map_set]
      obtain ⟨c2, hc2⟩ : ∃ c, c = c1.set j x := ⟨_, rfl⟩
      rw [← hc2] at s2 hnext
      have w1 : IntKind.i64.wrap ((i : Int) + 1) = ((i + 1 : Nat) : Int) := by rw [IntWalk.i64_in _ (by omega)]; omega
      have w2 : IntKind.i64.wrap ((j : Int) - 1) = ((j - 1 : Nat) : Int) := by rw [IntWalk.i64_in _ (by omega)]; omega
      have ih := fun f => ih (i + 1) (j - 1) c2 f (σ.set l (.row 1 (c2.map byteE))) (by omega) (by omega) hnext (hg.set hl0 _) (by simp)
      obtain ⟨i', hi'⟩ : ∃ k, k = i + 1 := ⟨_, rfl⟩
      obtain ⟨j', hj'⟩ : ∃ k, k = j - 1 := ⟨_, rfl⟩
      simp only [← hi'] at w1 ih
      simp only [← hj'] at w2 ih
      rw [r_loopU hB0]
      simp [b42_1, hd, e4, e6, e7, h, i2, i3, i4, l2, l3, s1, s2, w1, w2, -stV_ptr, -ldV_ptr]
      exact ih _ (by simp) (by simp) (by simp) (by simp)
    · rw [r_loopU hB0]
      simp [b42_1, hd, e4, e6, e7, h]
      refine .here ⟨hg, ?_, by simp, by simp⟩
      rw [← hr.done hij h]
      simp [Bs, Rd, cont, hH, ← hN, ← hr.len, List.take_of_length_le]
def textF (v : Int) : List UInt8 := if v = 0 then [48] else (dgs v).reverse
theorem text_ev (hB : B = 4294967296) {σ : St} {va : V} {a : List Int} (ha : Nm σ va a) (hao : va.old σ) (hal : a.length < 2 ^ 26) (da : Dg B a) : ev ET 42 [va] σ = some (.ret (.str (textF (vl B a))), σ) := by
  have h2 : 2 ≤ B := by omega
  suffices h : ∃ τ, run ET false f42.res [.d f42.body] ⟨envOf [va], []⟩ σ = some (.ret (.str (textF (vl B a))), τ) ∧ Gr σ τ by
    obtain ⟨τ, h, g⟩ := h
    exact ev_pure (fd := f42) rfl (by simp [f42]) rfl h g.H g.W (by simp)
  obtain ⟨u1, τ1, a1, a2⟩ := norm_ev (E := ET) rfl ha (by omega)
  rw [tr_cn h2 da] at a2
  have hv0 := vl_nonneg (show 0 ≤ B by omega) da
  have hvl := vl_lt (show 0 < B by omega) da
  obtain ⟨v, hv⟩ : ∃ v, v = vl B a := ⟨_, rfl⟩
  rw [← hv] at a2 hv0 hvl ⊢
  show ∃ τ, _ ∧ Gr σ τ
  by_cases h0 : v = 0
  · subst h0
    rw [cn_zero (v := 0) (Int.le_refl _)] at a2
    have hl := a2.rd.len
    simp at hl
    exact ⟨τ1, by simp [f42, d42, a1, hl, textF], a2.gr⟩
  have hp : ¬ (cn B v).length = 0 := fun h => cn_nil h2 (by omega) (List.length_eq_zero_iff.1 h)
  have h10 : (cn 10 v).length ≤ 10 * a.length := by
    refine cn_length (by omega) (Int.lt_of_lt_of_le hvl ?_)
    rw [Int.pow_mul]
    have hb : B ≤ 10 ^ 10 := by rw [hB]; decide
    have : ∀ n : Nat, B ^ n ≤ (10 ^ 10 : Int) ^ n := fun n => by
      induction n with
      | zero => simp
      | succ n ih =>
        rw [Int.pow_succ, Int.pow_succ]
        exact Int.mul_le_mul ih hb (by omega) (Int.le_of_lt (pow_pos' (by decide) n))
    exact this _
  have k := fun f => text_loop hB (n := a.length) (M := 10 * a.length) (by omega) (by omega) (σ0 := σ) (dd := false) (rs := [.t 2]) (st := [.d (.kb [4] (tlD (tlD (tlD (tlD (tlD d42))))))]) (B0 := b42_0) rfl _ v [] u1 .nils f τ1 (Nat.le_refl _) ⟨hv0, hvl⟩ a2 ((Own.nils τ1 1).base a2.gr) (fun k hk h => by simp [V.row] at h) (by simpa using h10)
  simp [f42, d42, a1, a2.rd.len, hp]
  refine Lands.to (C := fun r => ∃ τ, r = some (CO.ret (.str (textF v)), τ) ∧ Gr σ τ) (k _ (by simp) (by simp) (by simp)) ?_
  rintro f' σ' ⟨w, b1, b2, b3⟩
  simp only [List.nil_append] at b1
  have hne : dgs v ≠ [] := by rw [dgs]; simp; exact cn_nil (by omega) (by omega)
  rcases b1.sl with ⟨rfl, h⟩ | ⟨l, rfl, hH⟩
  · simp at h; exact absurd h hne
  have hln : 0 < (dgs v).length := List.length_pos_iff.2 hne
  have hl31 : (dgs v).length ≤ 10 * a.length := by rw [dgs, List.length_map]; exact h10
  simp only [List.length_map] at *
  obtain ⟨N, hN⟩ : ∃ N, N = (dgs v).length := ⟨_, rfl⟩
  obtain ⟨M, hM⟩ : ∃ M, M = (dgs v).length - 1 := ⟨_, rfl⟩
  rw [← hN] at b3
  have w : IntKind.i64.wrap ((N : Int) - 1) = (M : Int) := by rw [IntWalk.i64_in _ (by omega)]; omega
  have k := fun f => rev_loop (l := l) (N := N) (s := dgs v) (b1.lo l rfl).1 hN.symm (by omega) (dd := false) (rs := [.t 2]) (st := [.d (.kb [4] (tlD (tlD (tlD (tlD (tlD (tlD d42)))))))]) (B0 := b42_1) rfl _ 0 M (dgs v) f σ' (by omega) (Nat.le_refl _) (.zero _) b1.gr hH
  simp [tlD, d42, b2, b3, w]
  refine Lands.to (C := fun r => ∃ τ, r = some (CO.ret (.str (textF v)), τ) ∧ Gr σ τ) (k _ (by simp) (by simp) (by simp) (by simp)) ?_
  rintro f2 σ2 ⟨c1, c2, c3, c4⟩
  refine ⟨σ2, ?_, c1⟩
  have hb := c2.str
  simp [tlD, d42, c3, c4, hb, textF, h0]
end Go.Proofs.YtmkgmjdbgjiehaaDoor
namespace Go.Proofs.YtmkgmjdbgjiehaaDoor
open Go.Proofs.YtmkgmjdbgjiehaaDoor.Ab
set_option linter.unusedVariables false
set_option linter.unusedSimpArgs false
attribute [local simp] Gr.refl Gr.new Gr.set Gr.kill Nat.add_assoc r_cks chk wantG
variable {E : En Tryd.prog} {B : Int}
theorem nE_pure (l : List Int) : ∀ e ∈ l.map nE, ∀ u ∈ e, u.pure = true := fun e he u hu => by
  simp at he; obtain ⟨c, _, rfl⟩ := he; simp [nE] at hu; rw [hu]; rfl
theorem frz_slcP {H : Nat → Option Blk} {n : Nat → Bool} {l off len z : Nat} {es : List (List V)} (m : Nat) (hl : n l = false) (hH : H l = some (.row z es)) (ho : off + len ≤ es.length) (hp' : ∀ e ∈ (es.drop off).take len, ∀ v ∈ e, v.pure = true) : frzC H n (m + 1) (.slc l off len) = .islc z ((es.drop off).take len) := by
  show frzS H n (frzC H n m) (.slc l off len) = _
  simp only [frzS, hl, hH, frz_rows H n hp' m]
  rw [if_neg (by simp), if_pos ⟨ho, List.all_eq_true.2 fun e he => List.all_eq_true.2 fun v hv => hp' e he v hv⟩]
theorem New.frz {σ0 σ : St} {v : V} {l : List Int} (h : New σ0 σ v l) (m : Nat) {n : Nat → Bool} (hn : ∀ k, σ0.n ≤ k → n k = false) : frzC σ.H n (m + 1) v = told 1 v (l.map nE) := by
  have hr : Rd σ 1 v (l.map nE) := h.rd
  rcases hr.inv with ⟨rfl, _⟩ | rfl | ⟨k, off, rows, rfl, h1, h2, h3⟩
  · rfl
  · have := h.wr; simp [isl] at this
  · have h0 := (h.lo k rfl).1
    rw [frz_slcP (z := 1) (es := rows) m (hn k h0) h1 h2 (by rw [← h3]; exact nE_pure l), ← h3]; rfl
def magV (B v : Int) : V := if v = 0 then .nils else .islc 1 ((cn B v).map nE)
theorem magV_tl (hB : B = 4294967296) {v : Int} (h : 0 ≤ v) : Tl 1 (magV B v) ((cn B v).map nE) := by
  unfold magV
  split
  · rename_i h; subst h; left; exact ⟨rfl, by rw [cn_zero (Int.le_refl _)]; rfl⟩
  · right; rfl
theorem magV_nm (hB : B = 4294967296) {σ : St} {v : Int} (h : 0 ≤ v) : Nm σ (magV B v) (cn B v) := (magV_tl hB h).rd
theorem magV_old {σ : St} {v : Int} : (magV B v).old σ := by
  unfold magV; split
  · exact V.old_nils
  · exact V.old_islc _ _
theorem magV_scal {v : Int} : (magV B v).scal = true := by unfold magV; split <;> rfl
theorem magV_frz {v : Int} (H : Nat → Option Blk) (n : Nat → Bool) (m : Nat) : frzC H n (m + 1) (magV B v) = magV B v := by unfold magV; split <;> rfl
theorem norm_own (hT : E.T = T) {σ : St} {v : V} {l : List Int} (hv : Nm σ v l) (hl : l.length < 2 ^ 40) : ∃ u τ, ev E 67 [v] σ = some (.ret u, τ) ∧ Own σ τ 1 u ((tr l).map nE) ∧ (tr l = [] → u = .nils) := by
  suffices h : ∃ u τ, run E false f67.res [.d f67.body] ⟨envOf [v], []⟩ σ = some (.ret u, τ) ∧ Own σ τ 1 u ((tr l).map nE) ∧ (tr l = [] → u = .nils) by
    obtain ⟨u, τ, h, k⟩ := h
    exact ⟨u, τ, ev_raw (fd := f67) (by rw [hT]; rfl) (by simp [f67]) rfl h, k⟩
  have htl := tr_length l
  obtain ⟨n, hn⟩ : ∃ n, n = (tr l).length := ⟨_, rfl⟩
  have hnm := trim_nm hv
  rw [← hn] at hnm htl
  have hap : ∃ u τ, appV σ 4 1 .nils (cutV v 0 n) = some (u, τ) ∧ Own σ τ 1 u ((tr l).map nE) ∧ (tr l = [] → u = .nils) := by
    by_cases h0 : tr l = []
    · rw [h0] at hnm ⊢
      exact ⟨.nils, σ, (Own.nils σ 1).sl.app0 (srcOf_rd hnm), Own.nils σ 1, fun _ => rfl⟩
    · obtain ⟨h1, h2⟩ := (Own.nils σ 1).app (y := cutV v 0 n) (ys := (tr l).map nE) (srcOf_rd hnm) (by simpa using h0) (bytes := 4) (by simp [reach]; omega) (by simp [reach]; omega)
      exact ⟨_, _, h1, by simpa using h2, fun h => absurd h h0⟩
  obtain ⟨u, τ, a1, a2, a3⟩ := hap
  have hcut : ∀ env (hi : Opd), hi.ev env = .int .i64 n → lslV env σ 1 v none (some hi) = some (cutV v 0 n) := fun env hi h => Rd.lsl hv (a := 0) (b := n) rfl (by simp [bound, h]) (Nat.zero_le _) (by simpa using htl)
  simp [f67, d67, hv.len]
  refine norm_loop hv hl (C := fun r => ∃ u τ, r = some (CO.ret u, τ) ∧ Own σ τ 1 u ((tr l).map nE) ∧ (tr l = [] → u = .nils)) ?_ rfl l.length _ (Nat.le_refl _) (by rw [List.take_length]) (by simp) (by simp) (by simp)
  intro f k hd e0 e3 hk
  have : k = n := by rw [hk, hn]
  subst this
  exact ⟨u, τ, by simp [hd, e0, e3, hcut, a1], a2, a3⟩
theorem own_mag (hB : B = 4294967296) {σ τ : St} {u : V} {l : List Int} (dl : Dg B l) (h : Own σ τ 1 u ((tr l).map nE)) (h0 : tr l = [] → u = .nils) : told 1 u ((tr l).map nE) = magV B (vl B l) := by
  have h2 : (2 : Int) ≤ B := by omega
  rw [tr_cn h2 dl] at h h0 ⊢
  unfold magV
  by_cases hz : vl B l = 0
  · rw [hz] at h0 ⊢; rw [h0 (cn_zero (Int.le_refl _))]; rfl
  · rw [if_neg hz, told_is]
    rintro rfl
    rcases h.sl with ⟨_, h⟩ | ⟨_, h, _⟩
    · have := vl_nonneg (show 0 ≤ B by omega) dl
      simp at h; exact cn_nil h2 (by omega) h
    · simp at h
theorem bnorm_ev (hT : E.T = T) (hB : B = 4294967296) {σ : St} {va : V} {l : List Int} (ha : Nm σ va l) (hao : va.old σ) (hl : l.length < 2 ^ 40) (dl : Dg B l) (ng : Bool) :
    ev E 43 [.bool ng, va] σ = some (.ret (.agg [.bool (ng && decide (vl B l ≠ 0)), magV B (vl B l)]), σ) := by
  obtain ⟨s1, hs1⟩ : ∃ s1, s1 = σ.new (.row 2 [[.bool false, .nils]]) := ⟨_, rfl⟩
  have g1 : Gr σ s1 := by rw [hs1]; simp
  obtain ⟨u, τ, a1, a2, a3⟩ := norm_own hT (ha.gr g1 hao) hl
  have hm := own_mag hB dl a2 a3
  have h2 : (2 : Int) ≤ B := by omega
  have htc := tr_cn h2 dl
  have hc : τ.H σ.n = some (.row 2 [[.bool false, .nils]]) := by rw [a2.gr.H _ (by rw [hs1]; simp), hs1]; simp
  have hz : ((tr l).length = 0) ↔ vl B l = 0 := by
    rw [htc]
    constructor
    · intro h
      by_cases hp : 0 < vl B l
      · exact absurd (List.length_eq_zero_iff.1 h) (cn_nil h2 hp)
      · have := vl_nonneg (show 0 ≤ B by omega) dl; omega
    · intro h; rw [h, cn_zero (Int.le_refl _)]; rfl
  have hlen := a2.rd.len
  simp at hlen
  have hn : s1.n = σ.n + 1 := by rw [hs1]; rfl
  by_cases h0 : (tr l).length = 0
  · have h0' := hz.1 h0
    refine ev_pure (fd := f43) (o := .ret (.agg [.bool false, .nils])) (σ' := τ.set σ.n (.row 2 [[.bool false, .nils]])) (by rw [hT]; rfl) (by simp [f43]) rfl ?_ (fun k hk => ?_) ?_ ?_
    · simp [f43, d43, ← hs1, a1, hlen, h0, hc]
    · simp [show k ≠ σ.n by omega, a2.gr.H k (by omega), hs1]
    · simp [a2.gr.W, hs1]
    · simp [h0', magV]
  · have h0' : ¬ vl B l = 0 := fun h => h0 (hz.2 h)
    refine ev_pure (fd := f43) (o := .ret (.agg [.bool ng, u])) (σ' := τ.set σ.n (.row 2 [[.bool ng, u]])) (by rw [hT]; rfl) (by simp [f43]) rfl ?_ (fun k hk => ?_) ?_ ?_
    · simp [f43, d43, ← hs1, a1, hlen, h0, hc, a2.rd.scal, cells_scal a2.rd.scal]
    · simp [show k ≠ σ.n by omega, a2.gr.H k (by omega), hs1]
    · simp [a2.gr.W, hs1]
    · have hf := a2.sl.mono (σ' := τ.set σ.n (.row 2 [[.bool ng, u]])) (fun k hk => by have := (a2.lo k hk).1; simp [show k ≠ σ.n by omega])
      have := hf.frz (n := fun k => decide (k < σ.n)) (fun k hk => by have := (a2.lo k hk).1; simp; omega) (nE_pure _) 1099511627775
      simp [this, h0', hm]
end Go.Proofs.YtmkgmjdbgjiehaaDoor
namespace Go.Proofs.YtmkgmjdbgjiehaaDoor
open Go.Proofs.YtmkgmjdbgjiehaaDoor.Ab
set_option linter.unusedVariables false
set_option linter.unusedSimpArgs false
attribute [local simp] Gr.refl Gr.new Gr.set Gr.kill Nat.add_assoc r_cks chk wantG
variable {E : En Tryd.prog} {B : Int}
theorem New.cut (hB : B = 4294967296) {σ0 σ : St} {u : V} {l : List Int} (h : New σ0 σ u l) (hu : u ≠ .nils) (e : Int) : cutR .all σ0 (.ret (.tup [u, .int .i64 e]), σ) = (.ret (.tup [.islc 1 (l.map nE), .int .i64 e]), σ0) := by
  refine cut_pure h.gr.H h.gr.W ?_
  have hf := h.frz (n := fun k => decide (k < σ0.n)) 1099511627775 (fun k hk => by simp; omega)
  have hA : frzA σ.H (fun k => decide (k < σ0.n)) u = .islc 1 (l.map nE) := by
    have hr : Rd σ 1 u (l.map nE) := h.rd
    rw [told_is hu] at hf
    rcases hr.inv with ⟨rfl, _⟩ | rfl | ⟨k, off, rows, rfl, h1, h2, h3⟩
    · exact absurd rfl hu
    · rfl
    · rw [frzA_slc]; exact hf
  simp [hA]
theorem cut_err {σ0 σ : St} (g : Gr σ0 σ) (e : Int) : cutR .all σ0 (.ret (.tup [.nils, .int .i64 e]), σ) = (.ret (.tup [.nils, .int .i64 e]), σ0) := cut_pure g.H g.W (by simp)
def numF (n : Nat) (s : List UInt8) : Nat := s.foldl (fun n c => n * 10 + (c.toNat - 48)) n
def natPV (B : Int) (n : Nat) (s : List UInt8) : V := if s.all digD = true then .tup [.islc 1 ((cn B (numF n s)).map nE), .int .i64 0] else .tup [.nils, .int .i64 6]
theorem natp_loop (hT : E.T = T) (hB : B = 4294967296) {σ0 : St} {s : List UInt8} (hs : s.length < 2 ^ 26) {B0 : D} (hB0 : B0 = b86_0) :
    ∀ (t : List UInt8) (i n : Nat) (u : V) (f : Fr) (σ : St), s.drop i = t → i + t.length = s.length → n < 10 ^ i → (u ≠ .nils ∨ (t ≠ [] ∧ n = 0)) → New σ0 σ u (cn B n) → f.ds = [] → f.env 0 = .str s → f.env 4 = u → f.env 19 = .int .i64 s.length → f.env 20 = .int .i64 i →
      run E false [.cut σ0, .t 2, .t 3] (.d (.loop [0, 4, 19, 20] B0) :: .blk 0 :: [.d (.kb [4] (tlD (tlD (tlD (tlD d86)))))]) f σ = some (.ret (natPV B n t), σ0)
  | [], i, n, u, f, σ, hdr, hi, hn, hu, hw, hd, e0, e4, e19, e20 => by
    rw [r_loopU hB0]
    have h : ¬ i < s.length := by simp at hi; omega
    have hu' : u ≠ .nils := by rcases hu with h | h; exact h; exact absurd rfl h.1
    simp [b86_0, hd, e0, e4, e19, e20, h, tlD, d86, hw.cut hB hu', natPV, numF]
  | c :: t, i, n, u, f, σ, hdr, hi, hn, hu, hw, hd, e0, e4, e19, e20 => by
    rw [r_loopU hB0]
    obtain ⟨h1, h2, h3⟩ := at_drop hdr
    obtain ⟨_, hg⟩ := List.getElem?_eq_some_iff.1 h2
    have h64 : IntKind.i64.wrap ((i : Int) + 1) = ((i + 1 : Nat) : Int) := by rw [IntWalk.i64_in _ (by omega)]; omega
    by_cases hdig : digD c = true
    · simp only [digD, decide_eq_true_eq] at hdig
      obtain ⟨d, hdd⟩ : ∃ d, d = c.toNat - 48 := ⟨_, rfl⟩
      have k1 : ¬ (c.toNat : Int) < 48 := by omega
      have k2 : ¬ 57 < (c.toNat : Int) := by omega
      have w8 : IntKind.u8.wrap ((c.toNat : Int) - 48) = (d : Int) := by
        simp [IntKind.wrap, IntKind.signed, IntKind.bits]; omega
      have w32 : IntKind.u32.wrap (d : Int) = (d : Int) := by rw [wrap_u32]; omega
      have h2B : (2 : Int) ≤ B := by omega
      have hlen : (cn B (n : Int)).length < 2 ^ 26 := by
        have : (cn B (n : Int)).length ≤ i := cn_length h2B (by
          have a1 : ((n : Nat) : Int) < 10 ^ i := by exact_mod_cast hn
          have a2 : ∀ k : Nat, (10 : Int) ^ k ≤ B ^ k := fun k => by
            induction k with
            | zero => simp
            | succ k ih => rw [Int.pow_succ, Int.pow_succ]; exact Int.mul_le_mul ih (by omega) (by omega) (Int.le_of_lt (pow_pos' (by omega) k))
          exact Int.lt_of_lt_of_le a1 (a2 i))
        omega
      have hstep : ∀ σ1 : St, Gr σ σ1 → ∀ u1 τ1, New σ1 τ1 u1 (cn B (vl B (cn B (n : Int)) * vl B [10])) → ∀ τ2, Gr τ1 τ2 → ∀ lq, τ2.H lq = some (.row 1 [[.int .u32 d]]) → lq < τ2.n → ∃ u2 τ3, ev E 94 [u1, .slc lq 0 1] τ2 = some (.ret u2, τ3) ∧ New σ0 τ3 u2 (cn B (n * 10 + d : Nat)) ∧ u2 ≠ .nils := by
        intro σ1 g1 u1 τ1 hw1 τ2 g2 lq hlq hlt
        have e1 : vl B (cn B (n : Int)) * vl B [10] = ((n * 10 : Nat) : Int) := by rw [vl_cn h2B (by omega), vl_one]; omega
        rw [e1] at hw1
        have hln2 : (cn B ((n * 10 : Nat) : Int)).length < 2 ^ 30 := by
          have : (cn B ((n * 10 : Nat) : Int)).length ≤ i + 1 := cn_length h2B (by
            have a1 : ((n * 10 : Nat) : Int) < 10 ^ (i + 1) := by
              have : n * 10 < 10 ^ (i + 1) := by rw [Nat.pow_succ]; omega
              exact_mod_cast this
            have a2 : ∀ k : Nat, (10 : Int) ^ k ≤ B ^ k := fun k => by
              induction k with
              | zero => simp
              | succ k ih => rw [Int.pow_succ, Int.pow_succ]; exact Int.mul_le_mul ih (by omega) (by omega) (Int.le_of_lt (pow_pos' (by omega) k))
            exact Int.lt_of_lt_of_le a1 (a2 _))
          omega
        have hnm : Nm τ2 (.slc lq 0 1) [(d : Int)] := by simp [Nm, Rd, cont, hlq, nE]
        obtain ⟨u2, τ3, a1, a2, a3⟩ := add_evN hT hB (hw1.rd.gr g2 hw1.old) (V.old_gr hw1.old g2) hnm (fun l off len e => by simp at e; omega) hln2 (by simp) (cn_Dg h2B _) (Dg.one (by omega) (by omega))
        have e2 : vl B (cn B ((n * 10 : Nat) : Int)) + vl B [(d : Int)] = ((n * 10 + d : Nat) : Int) := by rw [vl_cn h2B (by omega), vl_one]; omega
        rw [e2] at a2
        exact ⟨u2, τ3, a1, a2.base (((hw.gr.trans g1).trans hw1.gr).trans g2), a3⟩
      have hmul : ∀ σ1 : St, Gr σ σ1 → ∀ lq, σ1.H lq = some (.row 1 [[.int .u32 10]]) → lq < σ1.n → ∃ u1 τ1, ev E 95 [u, .slc lq 0 1] σ1 = some (.ret u1, τ1) ∧ New σ1 τ1 u1 (cn B (vl B (cn B (n : Int)) * vl B [10])) := by
        intro σ1 g1 lq hlq hlt
        have hnm : Nm σ1 (.slc lq 0 1) [(10 : Int)] := by simp [Nm, Rd, cont, hlq, nE]
        exact mul_ev hT hB (hw.rd.gr g1 hw.old) (V.old_gr hw.old g1) hnm (fun l off len e => by simp at e; omega) (by omega) (by simp) (cn_Dg h2B _) (Dg.one (by omega) (by omega))
      -- the three orders
      obtain ⟨u1, τ1, a1, a2⟩ := hmul (σ.new (.row 1 [[.int .u32 10]])) (by simp) σ.n (by simp) (by simp)
      obtain ⟨u2, τ2, a3, a4, a5⟩ := hstep _ (by simp) u1 τ1 a2 (τ1.new (.row 1 [[.int .u32 d]])) (by simp) τ1.n (by simp) (by simp)
      obtain ⟨s2, hs2⟩ : ∃ s2, s2 = (σ.new (.row 1 [[.int .u32 10]])).new (.row 1 [[.int .u32 d]]) := ⟨_, rfl⟩
      have g2 : Gr σ s2 := by rw [hs2]; simp
      obtain ⟨u3, τ3, b1, b2⟩ := hmul s2 g2 σ.n (by rw [hs2]; simp) (by rw [hs2]; simp)
      have hq3 : τ3.H (σ.n + 1) = some (.row 1 [[.int .u32 d]]) := by rw [b2.gr.H _ (by rw [hs2]; simp), hs2]; simp
      have hn3 : σ.n + 1 < τ3.n := by have := b2.gr.n; rw [hs2] at this; simp at this; omega
      obtain ⟨u4, τ4, b3, b4, b5⟩ := hstep _ g2 u3 τ3 b2 τ3 (.refl _) (σ.n + 1) hq3 hn3
      obtain ⟨s3, hs3⟩ : ∃ s3, s3 = (σ.new (.row 1 [[.int .u32 d]])).new (.row 1 [[.int .u32 10]]) := ⟨_, rfl⟩
      have g3 : Gr σ s3 := by rw [hs3]; simp
      obtain ⟨u5, τ5, c1, c2⟩ := hmul s3 g3 (σ.n + 1) (by rw [hs3]; simp) (by rw [hs3]; simp)
      have hq5 : τ5.H σ.n = some (.row 1 [[.int .u32 d]]) := by rw [c2.gr.H _ (by rw [hs3]; simp), hs3]; simp
      have hn5 : σ.n < τ5.n := by have := c2.gr.n; rw [hs3] at this; simp at this; omega
      obtain ⟨u6, τ6, c3, c4, c5⟩ := hstep _ g3 u5 τ5 c2 τ5 (.refl _) σ.n hq5 hn5
      have hn' : n * 10 + d < 10 ^ (i + 1) := by rw [Nat.pow_succ]; omega
      obtain ⟨j, hj⟩ : ∃ j, j = i + 1 := ⟨_, rfl⟩
      rw [← hj] at h64 h3 hn'
      have ih := fun u f σ a b => natp_loop (σ0 := σ0) hT hB hs hB0 t j (n * 10 + d) u f σ h3 (by simp at hi; omega) hn' a b
      have hV : natPV B n (c :: t) = natPV B (n * 10 + d) t := by
        have hc : digD c = true := by simp [digD]; omega
        simp only [natPV, List.all_cons, hc, Bool.true_and, numF, List.foldl_cons, hdd]
      rw [hV]
      simp [b86_0, hd, e0, e4, e19, e20, h1, h2, hg, k1, k2, w8, w32, a1, a3, ← hs2, b1, b3, ← hs3, c1, c3, h64]
      rw [ih u2 _ τ2 (.inl a5) a4 (by simp) (by simp) (by simp) (by simp) (by simp), ih u4 _ τ4 (.inl b5) b4 (by simp) (by simp) (by simp) (by simp) (by simp), ih u6 _ τ6 (.inl c5) c4 (by simp) (by simp) (by simp) (by simp) (by simp)]
      simp
    · have hV : natPV B n (c :: t) = .tup [.nils, .int .i64 6] := by simp [natPV, hdig]
      rw [hV]
      simp only [digD, decide_eq_true_eq] at hdig
      by_cases k1 : (c.toNat : Int) < 48
      · simp [b86_0, hd, e0, e4, e19, e20, h1, h2, hg, eq_true k1, cut_err hw.gr]
      · have k2 : 57 < (c.toNat : Int) := by omega
        simp [b86_0, hd, e0, e4, e19, e20, h1, h2, hg, k1, eq_true k2, cut_err hw.gr]
end Go.Proofs.YtmkgmjdbgjiehaaDoor
namespace Go.Proofs.YtmkgmjdbgjiehaaDoor
open Go.Proofs.YtmkgmjdbgjiehaaDoor.Ab
set_option linter.unusedVariables false
set_option linter.unusedSimpArgs false
attribute [local simp] Gr.refl Gr.new Gr.set Gr.kill Nat.add_assoc r_cks chk wantG
variable {E : En Tryd.prog} {B : Int}
theorem natPV_well {B : Int} {s : List UInt8} (h : wellD s = true) : natPV B 0 s = .tup [.islc 1 ((cn B (numD s)).map nE), .int .i64 0] := by
  cases s with
  | nil => simp [wellD] at h
  | cons c s =>
    simp only [wellD, Bool.and_eq_true] at h
    have : (c :: s).all digD = true := h.1
    simp only [natPV, this, if_true]; rfl
theorem natparse_ev (hT : E.T = T) (hB : B = 4294967296) {σ : St} (s : List UInt8) (hs : s.length < 2 ^ 26) :
    ev E 86 [.str s] σ = some (.ret (if wellD s = true then .tup [.islc 1 ((cn B (numD s)).map nE), .int .i64 0] else .tup [.nils, .int .i64 6]), σ) := by
  refine ev_cut (fd := f86) (by rw [hT]; rfl) (by simp [f86]) rfl ?_
  cases s with
  | nil => simp [f86, d86, wellD, cut_err (.refl σ)]
  | cons c t =>
    have hbad : c.toNat = 48 ∧ 0 < t.length → wellD (c :: t) = false := by
      rintro ⟨h1, h2⟩
      simp [wellD, h1, h2]
    have hlen : ∀ n : Nat, (1 : Int) < ((n + 1 : Nat) : Int) ↔ 0 < n := fun n => by omega
    have key := fun f a b c' d e => natp_loop hT hB hs (B0 := b86_0) rfl (σ0 := σ) (c :: t) 0 0 .nils f σ rfl (by simp) (by simp) (.inr ⟨by simp, rfl⟩) (by rw [show cn B ((0 : Nat) : Int) = [] from cn_zero (Int.le_refl _)]; exact New.nils σ) a b c' d e
    have hw : ¬ (c.toNat = 48 ∧ 0 < t.length) → (if wellD (c :: t) = true then V.tup [.islc 1 ((cn B (numD (c :: t))).map nE), .int .i64 0] else .tup [.nils, .int .i64 6]) = natPV B 0 (c :: t) := by
      intro h
      by_cases hw : wellD (c :: t) = true
      · rw [if_pos hw, natPV_well hw]
      · rw [if_neg hw]
        have : ¬ (c :: t).all digD = true := fun ha => hw (by
          simp only [wellD, Bool.and_eq_true]
          refine ⟨ha, ?_⟩
          simp only [Bool.not_eq_true', Bool.and_eq_false_iff, beq_eq_false_iff_ne, decide_eq_false_iff_not]
          rcases Nat.lt_or_ge 0 t.length with h2 | h2
          · exact .inl fun h1 => h ⟨h1, h2⟩
          · exact .inr (by omega))
        simp only [natPV, if_neg this]
    obtain ⟨n, hn⟩ : ∃ n, n = t.length := ⟨_, rfl⟩
    by_cases h1 : c.toNat = 48
    · have h1' : (c.toNat : Int) = 48 := by omega
      by_cases h2 : 0 < t.length
      · have h2' : (1 : Int) < (t.length : Int) + 1 := by omega
        rw [hbad ⟨h1, h2⟩]
        simp [f86, d86, h1', eq_true h2', cut_err (.refl σ)]
      · rw [hw (fun h => h2 h.2)]
        have h3 : t = [] := by cases t; rfl; simp at h2
        subst h3
        simp [f86, d86, h1']
        exact key _ (by simp) (by simp) (by simp) (by simp) (by simp)
    · have h1' : ¬ (c.toNat : Int) = 48 := by omega
      rw [hw (fun h => h1 h.1)]
      simp [f86, d86, h1']
      exact key _ (by simp) (by simp) (by simp) (by simp) (by simp)
theorem numD_len (h2B : (2 : Int) ≤ B) (hB10 : (10 : Int) ≤ B) {s : List UInt8} (hd : s.all digD = true) : (cn B ((numD s : Nat) : Int)).length ≤ s.length := by
  exact cn_length h2B (by
    have h1 : ∀ (t : List UInt8) (n k : Nat), t.all digD = true → n < 10 ^ k → numF n t < 10 ^ (k + t.length) := by
      intro t
      induction t with
      | nil => intro n k _ h; simpa [numF] using h
      | cons c t ih =>
        intro n k hd hn
        simp only [List.all_cons, Bool.and_eq_true] at hd
        have hc : c.toNat - 48 < 10 := by have := hd.1; simp [digD] at this; omega
        have := ih (n * 10 + (c.toNat - 48)) (k + 1) hd.2 (by rw [Nat.pow_succ]; omega)
        simp only [numF, List.foldl_cons, List.length_cons] at this ⊢
        rw [show k + (t.length + 1) = k + 1 + t.length by omega]; exact this
    have h2 := h1 s 0 0 hd (by simp)
    have a1 : ((numD s : Nat) : Int) < 10 ^ s.length := by
      have : numD s < 10 ^ s.length := by simpa [numF, numD] using h2
      exact_mod_cast this
    have a2 : ∀ k : Nat, (10 : Int) ^ k ≤ B ^ k := fun k => by
      induction k with
      | zero => simp
      | succ k ih => rw [Int.pow_succ, Int.pow_succ]; exact Int.mul_le_mul ih (by omega) (by omega) (Int.le_of_lt (pow_pos' (by omega) k))
    exact Int.lt_of_lt_of_le a1 (a2 _))
def numV (B : Int) (n : Nat) : List V := [.bool false, magV B n]
theorem bparse_ev (hT : E.T = T) (hB : B = 4294967296) {σ : St} (s : List UInt8) (hs : s.length < 2 ^ 26) (hd : s.all digD = true) :
    ev E 77 [.str s] σ = some (.ret (if wellD s = true then .tup [.agg (numV B (numD s)), .int .i64 0] else .tup [.agg [.bool false, .nils], .int .i64 6]), σ) := by
  have hp := fun σ' => natparse_ev hT hB (σ := σ') s hs
  have hneg : ∀ (c : UInt8) t, s = c :: t → ¬ (c.toNat : Int) = 45 := by
    rintro c t rfl h
    simp [digD] at hd; omega
  have h2B : (2 : Int) ≤ B := by omega
  by_cases hw : wellD s = true
  · simp only [hw, if_true] at hp ⊢
    have hnm : ∀ σ' : St, Nm σ' (.islc 1 ((cn B (numD s)).map nE)) (cn B (numD s)) := fun σ' => by simp [Nm, Rd, cont]
    have hbn : ∀ σ', ev E 43 [.bool false, .islc 1 ((cn B (numD s)).map nE)] σ' = some (.ret (.agg (numV B (numD s))), σ') := fun σ' => by
      have hlen : (cn B ((numD s : Nat) : Int)).length < 2 ^ 40 := by
        have := numD_len h2B (by omega) hd
        omega
      have := bnorm_ev hT hB (hnm σ') (V.old_islc _ _) hlen (cn_Dg h2B _) false
      rw [vl_cn h2B (by omega)] at this
      simpa [numV] using this
    refine ev_pure (fd := f77) (o := .ret (.tup [.agg (numV B (numD s)), .int .i64 0])) (σ' := (σ.new (.row 2 [[.bool false, .nils]])).set σ.n (.row 2 [numV B (numD s)])) (by rw [hT]; rfl) (by simp [f77]) rfl ?_ (fun k hk => by simp [show k ≠ σ.n by omega]) rfl ?_
    · cases s with
      | nil => simp [wellD] at hw
      | cons c t =>
        have hc := hneg c t rfl
        have hsc : (magV B (numD (c :: t))).scal = true := magV_scal
        simp [f77, d77, hc, hp, hbn, numV, hsc]
    · simp [numV, magV_frz]
  · simp only [hw] at hp ⊢
    refine ev_pure (fd := f77) (o := .ret (.tup [.agg [.bool false, .nils], .int .i64 6])) (σ' := (σ.new (.row 2 [[.bool false, .nils]])).set σ.n (.row 2 [[.bool false, .nils]])) (by rw [hT]; rfl) (by simp [f77]) rfl ?_ (fun k hk => by simp [show k ≠ σ.n by omega]) rfl (by simp)
    cases s with
    | nil => simp [f77, d77, hp]
    | cons c t =>
      have hc := hneg c t rfl
      simp [f77, d77, hc, hp]
end Go.Proofs.YtmkgmjdbgjiehaaDoor
