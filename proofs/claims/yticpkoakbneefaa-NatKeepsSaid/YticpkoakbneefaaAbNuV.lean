/-
The walk over the program's texts, told with what its values say: a part of it. No further condition.
-/
import Derived.Test.YticpkoakbneefaaAbNuP
namespace Go.Proofs.Yticpkoakbneefaa
open Go.Proofs.Yticpkoakbneefaa.Ab
set_option linter.unusedVariables false
set_option linter.unusedSimpArgs false
attribute [local simp] Gr.refl Gr.new Gr.set Gr.kill Nat.add_assoc r_cks chk wantG
variable {B : Int}
theorem last_pos {l : List Int} (d : Dg B l) (hB : 0 < B) (ht : tr l = l) {m : Nat} (h : l.length = m + 1) : 0 < rd l (m : Int) := by
  have hd := d.place hB (m : Int)
  rcases (show rd l (m : Int) = 0 ∨ 0 < rd l (m : Int) by omega) with h0 | h0
  · exfalso
    have h1 := trS (l := l) (n := m) (by omega) h0
    rw [show m + 1 = l.length by omega, List.take_length, ht] at h1
    have := tr_length (l.take m)
    rw [h1] at this
    simp at this
    omega
  · exact h0
theorem dm_norm (hB : B = 4294967296) {y w : List Int} {m n : Nat} (dy : Dg B y) (ty : tr y = y) (hm : y.length = m + 2) (hn : n < 32) (hs : rd y ((m + 1 : Nat) : Int) * 2 ^ n < 4294967296) (dw : Dg B w) (w4 : vl B w = vl B y * 2 ^ n) : (tr w).length = m + 2 ∧ 0 < rd (tr w) ((m + 1 : Nat) : Int) := by
  have h2 : 2 ≤ B := by omega
  have hB0 : 0 < B := by omega
  have hy0 := vl_nonneg (Int.le_of_lt hB0) dy
  have hS := pow_pos' (show (0 : Int) < 2 by omega) n
  have hSS : (1 : Int) ≤ 2 ^ n := hS
  have hvw : vl B w < B ^ (m + 2) := by
    have k1 : rd y ((m + 1 : Nat) : Int) * 2 ^ n + 2 ^ n ≤ B := by
      have e := pow_split (show n ≤ 32 by omega)
      have hBe : B = 2 ^ (32 - n) * 2 ^ n := by rw [← e, hB]; decide
      have k2 : rd y ((m + 1 : Nat) : Int) < 2 ^ (32 - n) := by
        rcases (show rd y ((m + 1 : Nat) : Int) < 2 ^ (32 - n) ∨ 2 ^ (32 - n) ≤ rd y ((m + 1 : Nat) : Int) from by
          rcases Int.lt_trichotomy (rd y ((m + 1 : Nat) : Int)) (2 ^ (32 - n)) with h | h | h
          · exact Or.inl h
          · exact Or.inr (Int.le_of_eq h.symm)
          · exact Or.inr (Int.le_of_lt h)) with h | h
        · exact h
        · exfalso
          have := Int.mul_le_mul_of_nonneg_right h (Int.le_of_lt hS)
          rw [← hBe, hB] at this
          exact absurd hs (Int.not_lt.2 this)
      have k3 := Int.mul_le_mul_of_nonneg_right (show rd y ((m + 1 : Nat) : Int) + 1 ≤ 2 ^ (32 - n) from k2) (Int.le_of_lt hS)
      rw [← hBe, Int.add_mul, Int.one_mul] at k3
      exact k3
    have hyb := vl_lt hB0 (dy.take (m + 1))
    rw [List.length_take, Nat.min_eq_left (by omega)] at hyb
    have hys : vl B y = vl B (y.take (m + 1)) + B ^ (m + 1) * rd y ((m + 1 : Nat) : Int) := by
      have := vl_take_succ (B := B) y (m + 1)
      rw [List.take_of_length_le (show y.length ≤ m + 1 + 1 by omega)] at this
      exact this
    rw [w4, hys, show B ^ (m + 2) = B ^ (m + 1) * B from Int.pow_succ _ _]
    have hP := pow_pos' hB0 (m + 1)
    have k4 := Int.mul_lt_mul_of_pos_right hyb hS
    have k5 := Int.mul_le_mul_of_nonneg_left k1 (Int.le_of_lt hP)
    have k6 : (vl B (y.take (m + 1)) + B ^ (m + 1) * rd y ((m + 1 : Nat) : Int)) * 2 ^ n = vl B (y.take (m + 1)) * 2 ^ n + B ^ (m + 1) * (rd y ((m + 1 : Nat) : Int) * 2 ^ n) := by
      generalize rd y ((m + 1 : Nat) : Int) = q
      grind
    rw [k6]
    rw [Int.mul_add] at k5
    clear k6 hys hs
    generalize vl B (y.take (m + 1)) * 2 ^ n = z1 at *
    generalize B ^ (m + 1) * (rd y ((m + 1 : Nat) : Int) * 2 ^ n) = z2 at *
    generalize B ^ (m + 1) * 2 ^ n = z3 at *
    generalize B ^ (m + 1) * B = z4 at *
    clear hyb
    omega
  have dw' := tr_Dg dw
  have tw := tr_tr w
  have vw := tr_vl (B := B) w
  have hlen : (tr w).length = m + 2 := by
    have hle : (tr w).length ≤ m + 2 := by rw [tr_cn h2 dw]; exact cn_length h2 hvw
    rcases Nat.lt_or_ge (tr w).length (m + 2) with h | h
    · exfalso
      have k1 := len_lt h2 dw' dy ty (by omega)
      rw [vw, w4] at k1
      have k2 := Int.mul_le_mul_of_nonneg_left hSS hy0
      rw [Int.mul_one] at k2
      exact absurd k1 (Int.not_lt.2 k2)
    · omega
  exact ⟨hlen, last_pos dw' hB0 tw (m := m + 1) hlen⟩
theorem dm_top (hB : 2 ≤ B) {x y : List Int} (dx : Dg B x) (dy : Dg B y) (ty : tr y = y) (hy : 0 < y.length) (hxy : y.length ≤ x.length) (n : Nat) : vl B x * 2 ^ n < B ^ (x.length - y.length + 1) * (vl B y * 2 ^ n) := by
  have hB0 : 0 < B := by omega
  have hS := pow_pos' (show (0 : Int) < 2 by omega) n
  have hx := vl_lt hB0 dx
  have k1 := top_le hB dy ty (k := y.length - 1) (by omega)
  have k2 := Int.mul_le_mul_of_nonneg_left k1 (Int.le_of_lt (pow_pos' hB0 (x.length - y.length + 1)))
  rw [← Int.pow_add, show x.length - y.length + 1 + (y.length - 1) = x.length by omega] at k2
  have k3 := Int.mul_lt_mul_of_pos_right (Int.lt_of_lt_of_le hx k2) hS
  rw [Int.mul_assoc] at k3
  exact k3
def DvQ (B : Int) (σ : St) (X Y : Int) (r : Option (CO × St)) : Prop := ∃ u w τ, r = some (.ret (.tup [u, w, .int .i64 0]), τ) ∧ New σ τ u (cn B (X / Y)) ∧ New σ τ w (cn B (X % Y))
theorem divmod0_ev {σ : St} {va vb : V} {a b : List Int} (ha : Nm σ va a) (hb : Nm σ vb b) (hal : a.length < 2 ^ 28) (hbl : b.length < 2 ^ 28) (hz : (tr b).length = 0) :
    ev ET 8 [va, vb] σ = some (.ret (.tup [.nils, .nils, .int .i64 4]), σ) := by
  refine ev_raw (fd := f8) rfl (by simp [f8]) rfl ?_
  have t1 := trim_ev (E := ET) rfl ha (by omega)
  have t2 := trim_ev (E := ET) rfl hb (by omega)
  have l2 := (trim_nm hb).len
  rw [hz] at t2 l2
  simp [f8, d8, t1, t2, l2]
theorem divmod_ev (hB : B = 4294967296) {σ : St} {va vb : V} {a b : List Int} (ha : Nm σ va a) (hao : va.old σ) (hb : Nm σ vb b) (hbo : vb.old σ) (hal : a.length < 2 ^ 28) (hbl : b.length < 2 ^ 28) (da : Dg B a) (db : Dg B b) (hy : 0 < vl B b) :
    DvQ B σ (vl B a) (vl B b) (ev ET 8 [va, vb] σ) := by
  have h2 : 2 ≤ B := by omega
  have hB0 : 0 < B := by omega
  suffices h : DvQ B σ (vl B a) (vl B b) (run ET false f8.res [.d f8.body] ⟨envOf [va, vb], []⟩ σ) by
    obtain ⟨u, w, τ, h, k⟩ := h
    exact ⟨u, w, τ, ev_raw (fd := f8) rfl (by simp [f8]) rfl h, k⟩
  have t1 := trim_ev (E := ET) rfl ha (by omega)
  have t2 := trim_ev (E := ET) rfl hb (by omega)
  have n1 := trim_nm ha
  have n2 := trim_nm hb
  have l1 := tr_length a
  have l2 := tr_length b
  have d1 := tr_Dg da
  have d2 := tr_Dg db
  have y2 := tr_tr b
  have o1 : (cutV va 0 (tr a).length).old σ := V.old_cut hao 0 _
  have o2 : (cutV vb 0 (tr b).length).old σ := V.old_cut hbo 0 _
  rw [← tr_vl b] at hy
  rw [← tr_vl a, ← tr_vl b]
  obtain ⟨x, hx⟩ : ∃ x, x = tr a := ⟨_, rfl⟩
  obtain ⟨y, hyy⟩ : ∃ y, y = tr b := ⟨_, rfl⟩
  rw [← hx] at t1 n1 l1 d1 o1 ⊢
  rw [← hyy] at t2 n2 l2 d2 o2 y2 hy ⊢
  obtain ⟨ux, hux⟩ : ∃ u, u = cutV va 0 x.length := ⟨_, rfl⟩
  obtain ⟨uy, huy⟩ : ∃ u, u = cutV vb 0 y.length := ⟨_, rfl⟩
  rw [← hux] at t1 n1 o1
  rw [← huy] at t2 n2 o2
  have hx0 := vl_nonneg (Int.le_of_lt hB0) d1
  have hy0 : ¬ y.length = 0 := fun h => by rw [vl_empty h] at hy; omega
  have hcm := cmp_ev hB n1 o1 (Rd.scal n1) n2 o2 (Rd.scal n2) d1 d2 (by omega) (by omega)
  by_cases hlt : vl B x < vl B y
  · obtain ⟨w, τ, k1, k2⟩ := norm_ev (E := ET) rfl n1 (by omega)
    rw [tr_cn h2 d1] at k2
    rw [show cmpI (vl B x) (vl B y) = -1 by unfold cmpI; rw [if_pos hlt]] at hcm
    refine ⟨.nils, w, τ, ?_, ?_, ?_⟩
    · simp [f8, d8, t1, t2, n2.len, hy0, hcm, k1]
    · rw [Int.ediv_eq_zero_of_lt hx0 hlt, cn_zero (Int.le_refl _)]; exact ⟨(New.nils σ).rd, k2.gr, (fun k hk => by simp [V.row] at hk), rfl⟩
    · rw [Int.emod_eq_of_lt hx0 hlt]; exact k2
  have hc0 : ¬ cmpI (vl B x) (vl B y) < 0 := by unfold cmpI; rw [if_neg hlt]; split <;> decide
  by_cases h1 : y.length = 1
  · have hp := last_pos d2 hB0 y2 (m := 0) h1
    have hd := d2.place hB0 ((0 : Nat) : Int)
    have hyv : vl B y = rd y ((0 : Nat) : Int) := by
      have := vl_drop (B := B) (l := y) (i := 0) (by omega)
      rw [List.drop_zero, List.drop_eq_nil_of_le (show y.length ≤ 0 + 1 by omega), show vl B [] = 0 from rfl, Int.mul_zero, Int.add_zero] at this
      exact this
    obtain ⟨u, τ, k1, k2⟩ := short_ev hB n1 o1 (Rd.scal n1) d1 (by omega) (d := rd y ((0 : Nat) : Int)) ⟨hp, hd.2⟩
    rw [← hyv] at k1 k2 hd
    have hm0 := Int.emod_nonneg (vl B x) (Int.ne_of_gt hy)
    have hm1 := Int.emod_lt_of_pos (vl B x) hy
    have hw : vl B x % vl B y < 18446744073709551616 := Int.lt_trans hm1 (Int.lt_of_lt_of_le hd.2 (by rw [hB]; decide))
    obtain ⟨w, τ', k3, k4⟩ := of_ev (E := ET) rfl hB (σ := τ) hm0 hw
    have i1 := n2.at (k := .i64) (i := 0) (by omega)
    have e1 := n2.ld (i := 0) (by omega)
    rw [← hyv] at e1
    have w1 : IntKind.u64.wrap (vl B x % vl B y) = vl B x % vl B y := u64id hm0 hw
    refine ⟨u, w, τ', ?_, k2.step k4.gr, k4.base k2.gr⟩
    obtain ⟨r, hr⟩ : ∃ r, r = vl B x % vl B y := ⟨_, rfl⟩
    rw [← hr] at k1 k3 w1
    simp at i1
    simp [f8, d8, t1, t2, n2.len, hy0, hcm, hc0, h1, i1, e1, k1, w1, k3, -ldV_ptr]
  obtain ⟨m, hm⟩ : ∃ m, y.length = m + 2 := ⟨y.length - 2, by omega⟩
  have hp := last_pos d2 hB0 y2 (m := m + 1) hm
  have hd := d2.place hB0 ((m + 1 : Nat) : Int)
  obtain ⟨n, hn, hl, hs⟩ := lead_ev (E := ET) rfl (σ := σ) hp (Int.lt_of_lt_of_le hd.2 (Int.le_of_eq hB))
  have hxy : y.length ≤ x.length := by
    rcases Nat.lt_or_ge x.length y.length with h | h
    · exact absurd (len_lt h2 d1 d2 y2 h) hlt
    · exact h
  obtain ⟨lu, U, σ1, u1, u2, u3, u4, u5, u6, u7, u8⟩ := left_ev (E := ET) rfl hB n1 o1 (by omega) d1 hn
  obtain ⟨lw, W, σ2, w1, w2, w3, w4, w5, w6, w7, w8⟩ := left_ev (E := ET) rfl hB (n2.gr u5 o2) (fun p off len e => Nat.lt_of_lt_of_le (o2 p off len e) u5.n) (by omega) d2 hn
  obtain ⟨hlen, hwl⟩ := dm_norm hB d2 y2 hm hn hs w3 w4
  have hS := pow_pos' (show (0 : Int) < 2 by omega) n
  have hwn : Nm σ2 (.slc lw 0 (y.length + 1)) W := row_nm w6 w2.symm
  have tw := trim_ev (E := ET) rfl hwn (by omega)
  have nw := trim_nm hwn
  obtain ⟨vv, hvv⟩ : ∃ v, v = cutV (.slc lw 0 (y.length + 1)) 0 (tr W).length := ⟨_, rfl⟩
  have hvr : ∀ k, vv.row = some k → k = lw := fun k hk => by rw [hvv, cut_row] at hk; simp [V.row] at hk; exact hk.symm
  rw [← hvv] at tw nw
  obtain ⟨Nq, hNq⟩ : ∃ k, k = x.length - y.length + 1 := ⟨_, rfl⟩
  obtain ⟨dl, hdl⟩ : ∃ k, k = x.length - y.length := ⟨_, rfl⟩
  obtain ⟨tp, htp⟩ : ∃ k, k = y.length - 1 := ⟨_, rfl⟩
  have e1 : IntKind.i64.wrap ((y.length : Int) - 1) = (tp : Int) := by rw [IntWalk.i64_in _ (by omega)]; omega
  have e2 : IntKind.i64.wrap ((x.length : Int) - y.length) = (dl : Int) := by rw [IntWalk.i64_in _ (by omega)]; omega
  have e3 : IntKind.i64.wrap ((dl : Int) + 1) = (Nq : Int) := by rw [IntWalk.i64_in _ (by omega)]; omega
  have i1 := n2.at (k := .i64) (i := tp) (by omega)
  have b1 := n2.ld (i := tp) (by omega)
  rw [show m + 1 = tp by omega] at hl
  have wn : IntKind.u64.wrap (n : Int) = n := u64id (by omega) (by omega)
  obtain ⟨s3, hs3⟩ : ∃ s1, s1 = σ2.new (.row 1 (List.replicate Nq [.int .u32 0])) := ⟨_, rfl⟩
  have hrb : (4 : Int) * Nq ≤ reach := by simp [reach]; omega
  have hrb2 : (Nq : Int) ≤ reach := by simp [reach]; omega
  have hmk : mkslV σ2 4 [.int .u32 0] (.int .i64 Nq) (.int .i64 Nq) = some (.slc σ2.n 0 Nq, s3) := by
    rw [mkslV_int, hs3, if_pos ⟨by omega, by omega, hrb, hrb2⟩]; simp
  have g3 : Gr σ2 s3 := by rw [hs3]; exact (Gr.refl σ2).new _
  have hHq : s3.H σ2.n = some (.row 1 (List.map nE (List.replicate Nq (0 : Int) ++ []))) := by rw [hs3]; simp [nE]
  have hHu : s3.H lu = some (.row 1 (U.map nE)) := by rw [g3.H lu (by have := w5.n; omega), w5.H lu u8]; exact u6
  have vo : vv.old σ2 := by rw [hvv]; exact V.old_cut (fun p off len e => by injection e with e1; omega) 0 _
  have hn1 := w5.n
  have hn3 : s3.n = σ2.n + 1 := by rw [hs3]; simp
  have hN0 := u5.n
  have k := fun f => dm_loop (σ0 := σ) hB (tr_Dg w3) hlen hwl (vv := vv) (s := n) (N := x.length + 1) (Nq := Nq) (lq := σ2.n) (lu := lu) (by omega) (by omega) (fun k hk => by rw [hvr k hk]; omega) (fun k hk => by rw [hvr k hk]; omega) (by omega) (by omega) (by omega) (vl B x * 2 ^ n) (dd := false) (rs := f8.res) (st := [.d (.kb [4, 9, 10] (tlD (tlD (tlD (tlD (tlD (tlD (tlD d8)))))))) ]) (B0 := b8_0) rfl Nq [] U f s3 (by simp) u2 (by omega) .nil u3 ⟨by simp [vl, u4]⟩ ⟨by rw [u4, tr_vl, w4, hNq]; exact dm_top h2 d1 d2 y2 (by omega) hxy n⟩ ((u5.trans w5).trans g3) (nw.gr g3 vo) hHq hHu (by omega) (by omega)
  have ei : ((Nq : Int) - 1) = (dl : Int) := by omega
  simp only [ei, tr_vl, w4] at k
  have hne1 : ¬ (y.length : Int) = 1 := by omega
  clear hs hlt
  simp [f8, d8, t1, t2, n1.len, n2.len, hy0, hcm, hc0, h1, hne1, e1, i1, b1, hl, wn, u1, w1, tw, e2, e3, hmk, -mkslV_int, -ldV_ptr]
  refine Lands.to (C := DvQ B σ (vl B x) (vl B y)) (k _ (by simp) (by simp) (by simp) (by simp) (by simp) (by simp)) ?_
  rintro f' σ' ⟨q, u, a1, a2, a3, a4, a5, a6, a7, a8, a9, a10, a11, a12, a13, a14, a15⟩
  have hS0 : (2 : Int) ^ n ≠ 0 := Int.ne_of_gt hS
  have hV0 : 0 < vl B y * 2 ^ n := Int.mul_pos hy hS
  have hU0 := vl_nonneg (Int.le_of_lt hB0) a4
  have q1 : vl B q = vl B x / vl B y := by
    rw [← Int.mul_ediv_mul_of_pos_left _ _ hS, a5, Int.add_comm, Int.add_mul_ediv_left _ _ (Int.ne_of_gt hV0), Int.ediv_eq_zero_of_lt hU0 a6, Int.zero_add]
  have q2 : vl B u / 2 ^ n = vl B x % vl B y := by
    have : vl B u = vl B x * 2 ^ n % (vl B y * 2 ^ n) := by rw [a5, Int.add_comm, Int.add_mul_emod_self_left, Int.emod_eq_of_lt hU0 a6]
    rw [this, Int.mul_comm (vl B x), Int.mul_comm (vl B y), Int.mul_emod_mul_of_pos _ _ hS, Int.mul_ediv_cancel_left _ hS0]
  have nq := New.row (N := Nq) a8 a1.symm a7 (by omega) a10
  have tq := trim_ev (E := ET) rfl nq.rd (by omega)
  have fq := nq.trim
  rw [tr_cn h2 a3, q1] at tq fq
  obtain ⟨w, τ, k1, k2⟩ := right_ev (E := ET) rfl hB (row_nm a9 a2.symm) (fun p off len e => by injection e with e1; omega) (by omega) a4 hn
  rw [q2] at k2
  refine ⟨_, w, τ, ?_, fq.step k2.gr, k2.base a7⟩
  simp [tlD, d8, f8, a12, a13, a14, a15, tq, k1]
end Go.Proofs.Yticpkoakbneefaa
namespace Go.Proofs.Yticpkoakbneefaa
open Go.Proofs.Yticpkoakbneefaa.Ab
set_option linter.unusedVariables false
set_option linter.unusedSimpArgs false
attribute [local simp] Gr.refl Gr.new Gr.set Gr.kill Nat.add_assoc r_cks chk wantG
variable {B : Int}
theorem gcd_step {x y : Int} (hx : 0 ≤ x) (hy : 0 < y) : Nat.gcd x.toNat y.toNat = Nat.gcd y.toNat (x % y).toNat := by
  have e : (x % y).toNat = x.toNat % y.toNat := by
    rw [Int.toNat_emod hx (Int.le_of_lt hy)]
  rw [e, Nat.gcd_comm, Nat.gcd_rec, Nat.gcd_comm]
def GcQ (B : Int) (σ : St) (g : Nat) (f' : Fr) (σ' : St) : Prop := ∃ u, New σ σ' u (cn B (g : Int)) ∧ f'.ds = [] ∧ f'.env 5 = u
theorem gcd_loop (hB : B = 4294967296) {σ0 : St} {n : Nat} (hn : n < 2 ^ 28) {dd : Bool} {rs : List RC} {st : List SE} {B0 : D} (hB0 : B0 = b9_0) :
    ∀ (m : Nat) (x y : Int) (vx vy : V) (f : Fr) (σ : St), y.toNat ≤ m → Sm B n x → Sm B n y → New σ0 σ vx (cn B x) → New σ0 σ vy (cn B y) → f.ds = [] → f.env 5 = vx → f.env 6 = vy →
      Lands ET dd rs st (GcQ B σ0 (Nat.gcd x.toNat y.toNat)) (run ET dd rs (.d (.loop [5, 6] B0) :: .blk 0 :: st) f σ) := by
  have h2 : 2 ≤ B := by omega
  have zero : ∀ (x : Int) (vx vy : V) (f : Fr) (σ : St), 0 ≤ x → New σ0 σ vx (cn B x) → New σ0 σ vy (cn B 0) → f.ds = [] → f.env 5 = vx → f.env 6 = vy →
      Lands ET dd rs st (GcQ B σ0 (Nat.gcd x.toNat (0 : Int).toNat)) (run ET dd rs (.d (.loop [5, 6] B0) :: .blk 0 :: st) f σ) := by
    intro x vx vy f σ hx nx ny hd e5 e6
    rw [cn_zero (v := 0) (Int.le_refl _)] at ny
    have hl := ny.rd.len
    rw [r_loopU hB0]
    simp at hl
    simp [b9_0, hd, e5, e6, hl]
    refine .here ⟨vx, ?_, by simp, by simp⟩
    rw [Int.toNat_of_nonneg hx]; exact nx
  intro m
  induction m with
  | zero =>
    intro x y vx vy f σ hm sx sy nx ny hd e5 e6
    have : y = 0 := by have := sy.1; omega
    subst this
    exact zero x vx vy f σ sx.1 nx ny hd e5 e6
  | succ m ih =>
    intro x y vx vy f σ hm sx sy nx ny hd e5 e6
    have sy0 := sy.1
    have sx0 := sx.1
    by_cases h0 : y = 0
    · subst h0; exact zero x vx vy f σ sx0 nx ny hd e5 e6
    · have hp : 0 < (cn B y).length := List.length_pos_iff.2 (cn_nil h2 (by omega))
      have lx := sx.len h2
      have ly := sy.len h2
      have hdm := divmod_ev hB nx.rd nx.old ny.rd ny.old (by omega) (by omega) (cn_Dg h2 _) (cn_Dg h2 _) (by rw [sy.vl h2]; omega)
      rw [sx.vl h2, sy.vl h2] at hdm
      obtain ⟨u, w, τ, k1, k2, k3⟩ := hdm
      have hm1 := Int.emod_lt_of_pos x (show 0 < y by omega)
      have ih := fun f => ih y (x % y) vy w f τ (by omega) sy ⟨Int.emod_nonneg _ h0, Int.lt_trans hm1 sy.2⟩ (ny.step k3.gr) (k3.base ny.gr)
      rw [gcd_step sx0 (by omega)]
      rw [r_loopU hB0]
      simp [b9_0, hd, e5, e6, ny.rd.len, hp, k1]
      exact ih _ (by simp) (by simp) (by simp)
theorem gcd_ev (hB : B = 4294967296) {σ : St} {va vb : V} {a b : List Int} (ha : Nm σ va a) (hao : va.old σ) (hb : Nm σ vb b) (hbo : vb.old σ) (hal : a.length < 2 ^ 28) (hbl : b.length < 2 ^ 28) (da : Dg B a) (db : Dg B b) :
    ∃ u τ, ev ET 9 [va, vb] σ = some (.ret u, τ) ∧ New σ τ u (cn B (Nat.gcd (vl B a).toNat (vl B b).toNat : Nat)) := by
  have h2 : 2 ≤ B := by omega
  suffices h : ∃ u τ, run ET false f9.res [.d f9.body] ⟨envOf [va, vb], []⟩ σ = some (.ret u, τ) ∧ New σ τ u (cn B (Nat.gcd (vl B a).toNat (vl B b).toNat : Nat)) by
    obtain ⟨u, τ, h, k⟩ := h
    exact ⟨u, τ, ev_raw (fd := f9) rfl (by simp [f9]) rfl h, k⟩
  obtain ⟨u1, τ1, a1, a2⟩ := norm_ev (E := ET) rfl ha (by omega)
  obtain ⟨u2, τ2, b1, b2⟩ := norm_ev (E := ET) rfl (hb.gr a2.gr hbo) (by omega)
  rw [tr_cn h2 da] at a2
  rw [tr_cn h2 db] at b2
  obtain ⟨n, hn1, hn2, hn⟩ : ∃ n, a.length ≤ n ∧ b.length ≤ n ∧ n < 2 ^ 28 := ⟨max a.length b.length, by omega, by omega, by omega⟩
  have k := fun f => gcd_loop hB hn (dd := false) (rs := [.t 4]) (st := [.d (.kb [5] (tlD (tlD (tlD d9))))]) (B0 := b9_0) rfl _ (vl B a) (vl B b) u1 u2 f τ2 (Nat.le_refl _) (.of h2 da hn1) (.of h2 db hn2) (a2.step b2.gr) (b2.base a2.gr)
  show ∃ u τ, _ ∧ New σ τ u _
  simp [f9, d9, a1, b1]
  refine Lands.to (C := fun r => ∃ u τ, r = some (CO.ret u, τ) ∧ New σ τ u (cn B (Nat.gcd (vl B a).toNat (vl B b).toNat : Nat))) (k _ (by simp) (by simp) (by simp)) ?_
  rintro f' σ' ⟨u, c1, c2, c3⟩
  exact ⟨u, σ', by simp [tlD, d9, c2, c3], c1⟩
/-- The same limbs. -/
theorem words_loop {σ : St} {va vb : V} {l : List Int} (ha : Nm σ va l) (hb : Nm σ vb l) (hl : l.length < 2 ^ 30) {B0 : D} (hB0 : B0 = b10_0) :
    ∀ (m i : Nat) (f : Fr), i + m = l.length → f.ds = [] → f.env 0 = va → f.env 1 = vb → f.env 5 = .int .i64 i →
      run ET false [.t 4] (.d (.loop [0, 1, 5] B0) :: .blk 0 :: [.d (.kb [] (.seq (.reg [⟨some 4, none, .mv (.c (.bool true))⟩]) .ret))]) f σ = some (.ret (.bool true), σ)
  | 0, i, f, hi, hd, e0, e1, e5 => by
    have h : ¬ i < l.length := by omega
    rw [r_loopU hB0]
    simp [b10_0, hd, e0, e1, e5, ha.len, h]
  | m + 1, i, f, hi, hd, e0, e1, e5 => by
    have h : i < l.length := by omega
    have w : IntKind.i64.wrap ((i : Int) + 1) = ((i + 1 : Nat) : Int) := by rw [IntWalk.i64_in _ (by omega)]; omega
    have ih := fun f => words_loop ha hb hl hB0 m (i + 1) f (by omega)
    obtain ⟨k, hk⟩ : ∃ k, k = i + 1 := ⟨_, rfl⟩
    simp only [← hk] at w ih
    rw [r_loopU hB0]
    simp [b10_0, hd, e0, e1, e5, ha.len, h, ha.at (k := .i64) h, hb.at (k := .i64) h, ha.ld h, hb.ld h, w]
    exact ih _ (by simp) (by simp) (by simp) (by simp)
theorem words_ev {σ : St} {va vb : V} {l : List Int} (ha : Nm σ va l) (hb : Nm σ vb l) (hl : l.length < 2 ^ 30) : ev ET 10 [va, vb] σ = some (.ret (.bool true), σ) := by
  refine ev_same (fd := f10) (o := .ret (.bool true)) rfl (by simp [f10]) rfl ?_ (by simp)
  simp [f10, d10, ha.len, hb.len]
  exact words_loop ha hb hl rfl l.length 0 _ (by omega) (by simp) (by simp) (by simp) (by simp)
end Go.Proofs.Yticpkoakbneefaa
namespace Go.Proofs.Yticpkoakbneefaa
open Go.Proofs.Yticpkoakbneefaa.Ab
set_option linter.unusedVariables false
set_option linter.unusedSimpArgs false
attribute [local simp] Gr.refl Gr.new Gr.set Gr.kill Nat.add_assoc r_cks chk wantG
variable {B : Int}
/-- A digit's letter. -/
def dgt (d : Int) : UInt8 := UInt8.ofNat (48 + d.toNat)
/-- A number's digits, the least first. -/
def dgs (v : Int) : List UInt8 := (cn 10 v).map dgt
def TxQ (σ0 : St) (s : List UInt8) (f' : Fr) (σ' : St) : Prop := ∃ v, Own σ0 σ' 1 v (s.map byteE) ∧ f'.ds = [] ∧ f'.env 4 = v
theorem text_loop (hB : B = 4294967296) {σ0 : St} {n M : Nat} (hn : n < 2 ^ 28) (hM : M < 2 ^ 31) {dd : Bool} {rs : List RC} {st : List SE} {B0 : D} (hB0 : B0 = b11_0) :
    ∀ (m : Nat) (r : Int) (acc : List UInt8) (vr vd : V) (f : Fr) (σ : St), r.toNat ≤ m → Sm B n r → New σ0 σ vr (cn B r) → Own σ0 σ 1 vd (acc.map byteE) → (∀ k, vr.row = some k → vd.row ≠ some k) → acc.length + (cn 10 r).length ≤ M → f.ds = [] → f.env 3 = vr → f.env 4 = vd →
      Lands ET dd rs st (TxQ σ0 (acc ++ dgs r)) (run ET dd rs (.d (.loop [3, 4] B0) :: .blk 0 :: st) f σ) := by
  have h2 : 2 ≤ B := by omega
  have zero : ∀ (acc : List UInt8) (vr vd : V) (f : Fr) (σ : St), New σ0 σ vr (cn B 0) → Own σ0 σ 1 vd (acc.map byteE) → f.ds = [] → f.env 3 = vr → f.env 4 = vd →
      Lands ET dd rs st (TxQ σ0 (acc ++ dgs 0)) (run ET dd rs (.d (.loop [3, 4] B0) :: .blk 0 :: st) f σ) := by
    intro acc vr vd f σ nr od hd e3 e4
    rw [cn_zero (v := 0) (Int.le_refl _)] at nr
    have hl := nr.rd.len
    simp at hl
    rw [r_loopU hB0]
    simp [b11_0, hd, e3, e4, hl]
    refine .here ⟨vd, ?_, by simp, by simp⟩
    rw [dgs, cn_zero (Int.le_refl _)]; simpa using od
  intro m
  induction m with
  | zero =>
    intro r acc vr vd f σ hm sr nr od hrow hlen hd e3 e4
    have : r = 0 := by have := sr.1; omega
    subst this
    exact zero acc vr vd f σ nr od hd e3 e4
  | succ m ih =>
    intro r acc vr vd f σ hm sr nr od hrow hlen hd e3 e4
    have sr0 := sr.1
    by_cases h0 : r = 0
    · subst h0; exact zero acc vr vd f σ nr od hd e3 e4
    · have hp : 0 < (cn B r).length := List.length_pos_iff.2 (cn_nil h2 (by omega))
      have lr := sr.len h2
      obtain ⟨u, τ, k1, k2⟩ := short_ev hB nr.rd nr.old (Rd.scal nr.rd) (cn_Dg h2 _) (by omega) (d := 10) (by omega)
      rw [sr.vl h2] at k1 k2
      have ec : cn 10 r = (r % 10) :: cn 10 (r / 10) := cn_cons (by omega) (by omega)
      have hlen' : acc.length + 1 + (cn 10 (r / 10)).length ≤ M := by rw [ec] at hlen; simp at hlen; omega
      obtain ⟨d, hd'⟩ : ∃ d, d = r % 10 := ⟨_, rfl⟩
      obtain ⟨r', hr'⟩ : ∃ d, d = r / 10 := ⟨_, rfl⟩
      rw [← hd'] at k1 ec
      rw [← hr'] at k2 ec hlen'
      have hd0 : 0 ≤ d ∧ d < 10 := by omega
      have hc : (dgt d).toNat = 48 + d.toNat := by simp [dgt]; omega
      have w1 : IntKind.u32.wrap (48 + d) = 48 + d := by rw [wrap_u32]; omega
      have w2 : IntKind.u8.wrap (48 + d) = ((dgt d).toNat : Int) := by rw [hc]; simp [IntKind.wrap, IntKind.signed, IntKind.bits]; omega
      have od' := od.step k2.gr
      obtain ⟨v', τ', a1, a2, a3, a4, a5⟩ := od'.app1N [byteE (dgt d)] (by simp) (bytes := 1) (by simp [reach]; omega) (by simp [reach]; omega) (n := 1) rfl
      have nr' : New σ0 τ' u (cn B r') := by
        refine ⟨Rd.mono k2.rd fun l off len e => a5 l (k2.old l off len e) fun h => ?_, a2.gr, fun k hk => ?_, k2.wr⟩
        · have h1 := (k2.lo l (by rw [e]; rfl)).1
          have h2 := (od.lo l h).2
          omega
        · have h1 := k2.lo k hk
          exact ⟨Nat.le_trans nr.gr.n h1.1, by omega⟩
      have ih := fun f => ih r' (acc ++ [dgt d]) u v' f τ' (by omega) ⟨by omega, by have := sr.2; omega⟩ nr' (by rw [List.map_append]; exact a2) (fun k hk h => by have h1 := (k2.lo k hk).2; have := a3 k h; omega) (by simpa using hlen')
      have ed : acc ++ dgs r = (acc ++ [dgt d]) ++ dgs r' := by rw [dgs, dgs, ec]; simp
      rw [ed]
      obtain ⟨S, hS⟩ : ∃ S, S = (acc ++ [dgt d]) ++ dgs r' := ⟨_, rfl⟩
      simp only [← hS] at ih ⊢
      rw [r_loopU hB0]
      simp only [byteE] at a1
      simp [b11_0, hd, e3, e4, nr.rd.len, hp, k1, w1, w2, a1]
      exact ih _ (by simp) (by simp) (by simp)
/-- The row with its ends turned round. -/
structure Rv (s cur : List UInt8) (i : Nat) : Prop where
  len : cur.length = s.length
  at_ : ∀ k, k < s.length → cur[k]? = if k < i ∨ s.length - i ≤ k then s[s.length - 1 - k]? else s[k]?
theorem Rv.zero (s : List UInt8) : Rv s s 0 := ⟨rfl, fun k hk => by rw [if_neg (by omega)]⟩
theorem Rv.next {s cur : List UInt8} {i j : Nat} (h : Rv s cur i) (hij : i + j + 1 = s.length) (hlt : i < j) {x y : UInt8} (hx : cur[i]? = some x) (hy : cur[j]? = some y) : Rv s ((cur.set i y).set j x) (i + 1) := by
  have h1 := h.at_ i (by omega)
  have h2 := h.at_ j (by omega)
  rw [if_neg (by omega), hx] at h1
  rw [if_neg (by omega), hy] at h2
  refine ⟨by simp [h.len], fun k hk => ?_⟩
  have hl := h.len
  rw [List.getElem?_set]
  by_cases hkj : j = k
  · subst hkj
    rw [if_pos rfl, if_pos (by simp; omega), if_pos (by omega), show s.length - 1 - j = i by omega, h1]
  · rw [if_neg hkj, List.getElem?_set]
    by_cases hki : i = k
    · subst hki
      rw [if_pos rfl, if_pos (by omega), if_pos (by omega), show s.length - 1 - i = j by omega, h2]
    · rw [if_neg hki, h.at_ k hk]
      by_cases hc : k < i ∨ s.length - i ≤ k
      · rw [if_pos hc, if_pos (by omega)]
      · rw [if_neg hc, if_neg (by omega)]
theorem Rv.done {s cur : List UInt8} {i j : Nat} (h : Rv s cur i) (hij : i + j + 1 = s.length) (hge : ¬ i < j) : cur = s.reverse := by
  apply List.ext_getElem?
  intro k
  by_cases hk : k < s.length
  · rw [h.at_ k hk, List.getElem?_reverse hk]
    by_cases hc : k < i ∨ s.length - i ≤ k
    · rw [if_pos hc]
    · rw [if_neg hc, show s.length - 1 - k = k by omega]
  · rw [List.getElem?_eq_none (by rw [h.len]; omega), List.getElem?_eq_none (by simp; omega)]
theorem rev_loop {σ0 : St} {s : List UInt8} {l N : Nat} (hl0 : σ0.n ≤ l) (hN : s.length = N) (hs : N < 2 ^ 40) {dd : Bool} {rs : List RC} {st : List SE} {B0 : D} (hB0 : B0 = b11_1) :
    ∀ (m i j : Nat) (cur : List UInt8) (f : Fr) (σ : St), i + j + 1 = s.length → j - i ≤ m → Rv s cur i → Gr σ0 σ → σ.H l = some (.row 1 (cur.map byteE)) → f.ds = [] → f.env 4 = .slc l 0 N → f.env 6 = .int .i64 i → f.env 7 = .int .i64 j →
      Lands ET dd rs st (fun f' σ' => Gr σ0 σ' ∧ Bs σ' (.slc l 0 N) s.reverse ∧ f'.ds = [] ∧ f'.env 4 = .slc l 0 N) (run ET dd rs (.d (.loop [4, 6, 7] B0) :: .blk 2 :: st) f σ) := by
  intro m
  induction m with
  | zero =>
    intro i j cur f σ hij hm hr hg hH hd e4 e6 e7
    have h : ¬ i < j := by omega
    rw [r_loopU hB0]
    simp [b11_1, hd, e4, e6, e7, h]
    refine .here ⟨hg, ?_, by simp, by simp⟩
    rw [← hr.done hij h]
    simp [Bs, Rd, cont, hH, ← hN, ← hr.len, List.take_of_length_le]
  | succ m ih =>
    intro i j cur f σ hij hm hr hg hH hd e4 e6 e7
    by_cases h : i < j
    · have hx : cur[i]? = some (cur[i]'(by rw [hr.len]; omega)) := List.getElem?_eq_getElem _
      have hy : cur[j]? = some (cur[j]'(by rw [hr.len]; omega)) := List.getElem?_eq_getElem _
      generalize cur[i]'_ = x at hx
      generalize cur[j]'_ = y at hy
      have hnext := hr.next hij h hx hy
      have hb : Bs σ (.slc l 0 N) cur := by simp [Bs, Rd, cont, hH, ← hN, ← hr.len, List.take_of_length_le]
      have i1 : ∀ b : Blk, (b = .row 1 ((cur.set i y).map byteE) ∨ b = .row 1 (cur.map byteE)) → iaV (σ.set l b) 1 (.slc l 0 N) (.int .i64 i) = some (.ptr l i 0) ∧ iaV (σ.set l b) 1 (.slc l 0 N) (.int .i64 j) = some (.ptr l j 0) := by
        have := hr.len
        rintro b (rfl | rfl) <;> simp [iaV] <;> omega
      have i2 : iaV σ 1 (.slc l 0 N) (.int .i64 i) = some (.ptr l i 0) := by have := hr.len; simp [iaV, hH]; omega
      have i3 : iaV σ 1 (.slc l 0 N) (.int .i64 j) = some (.ptr l j 0) := by have := hr.len; simp [iaV, hH]; omega
      have i4 := (i1 _ (.inl rfl)).2
      have l2 : ldV σ (.ptr l i 0) = some (.int .u8 x.toNat) := by rw [ldV_ptr, hH]; simp [hx, byteE]
      have l3 : ldV σ (.ptr l j 0) = some (.int .u8 y.toNat) := by rw [ldV_ptr, hH]; simp [hy, byteE]
      have s1 : stV σ 1 (.ptr l i 0) (.int .u8 y.toNat) = some (σ.set l (.row 1 ((cur.set i y).map byteE))) := by
        rw [stV_ptr, hH]
        simp [hx, byteE, setAt, List.map_set]
      obtain ⟨c1, hc1⟩ : ∃ c, c = cur.set i y := ⟨_, rfl⟩
      have hx1 : c1[j]? = some y := by rw [hc1, List.getElem?_set_ne (by omega)]; exact hy
      rw [← hc1] at s1 i4 hnext
      have s2 : stV (σ.set l (.row 1 (c1.map byteE))) 1 (.ptr l j 0) (.int .u8 x.toNat) = some (σ.set l (.row 1 ((c1.set j x).map byteE))) := by
        rw [stV_ptr]
        simp [hx1, byteE, setAt, List.map_set]
      obtain ⟨c2, hc2⟩ : ∃ c, c = c1.set j x := ⟨_, rfl⟩
      rw [← hc2] at s2 hnext
      have w1 : IntKind.i64.wrap ((i : Int) + 1) = ((i + 1 : Nat) : Int) := by rw [IntWalk.i64_in _ (by omega)]; omega
      have w2 : IntKind.i64.wrap ((j : Int) - 1) = ((j - 1 : Nat) : Int) := by rw [IntWalk.i64_in _ (by omega)]; omega
      have ih := fun f => ih (i + 1) (j - 1) c2 f (σ.set l (.row 1 (c2.map byteE))) (by omega) (by omega) hnext (hg.set hl0 _) (by simp)
      obtain ⟨i', hi'⟩ : ∃ k, k = i + 1 := ⟨_, rfl⟩
      obtain ⟨j', hj'⟩ : ∃ k, k = j - 1 := ⟨_, rfl⟩
      simp only [← hi'] at w1 ih
      simp only [← hj'] at w2 ih
      rw [r_loopU hB0]
      simp [b11_1, hd, e4, e6, e7, h, i2, i3, i4, l2, l3, s1, s2, w1, w2, -stV_ptr, -ldV_ptr]
      exact ih _ (by simp) (by simp) (by simp) (by simp)
    · rw [r_loopU hB0]
      simp [b11_1, hd, e4, e6, e7, h]
      refine .here ⟨hg, ?_, by simp, by simp⟩
      rw [← hr.done hij h]
      simp [Bs, Rd, cont, hH, ← hN, ← hr.len, List.take_of_length_le]
/-- A number's digits. -/
def textF (v : Int) : List UInt8 := if v = 0 then [48] else (dgs v).reverse
theorem text_ev (hB : B = 4294967296) {σ : St} {va : V} {a : List Int} (ha : Nm σ va a) (hao : va.old σ) (hal : a.length < 2 ^ 26) (da : Dg B a) : ev ET 11 [va] σ = some (.ret (.str (textF (vl B a))), σ) := by
  have h2 : 2 ≤ B := by omega
  suffices h : ∃ τ, run ET false f11.res [.d f11.body] ⟨envOf [va], []⟩ σ = some (.ret (.str (textF (vl B a))), τ) ∧ Gr σ τ by
    obtain ⟨τ, h, g⟩ := h
    exact ev_pure (fd := f11) rfl (by simp [f11]) rfl h g.H g.W (by simp)
  obtain ⟨u1, τ1, a1, a2⟩ := norm_ev (E := ET) rfl ha (by omega)
  rw [tr_cn h2 da] at a2
  have hv0 := vl_nonneg (show 0 ≤ B by omega) da
  have hvl := vl_lt (show 0 < B by omega) da
  obtain ⟨v, hv⟩ : ∃ v, v = vl B a := ⟨_, rfl⟩
  rw [← hv] at a2 hv0 hvl ⊢
  show ∃ τ, _ ∧ Gr σ τ
  by_cases h0 : v = 0
  · subst h0
    rw [cn_zero (v := 0) (Int.le_refl _)] at a2
    have hl := a2.rd.len
    simp at hl
    exact ⟨τ1, by simp [f11, d11, a1, hl, textF], a2.gr⟩
  have hp : ¬ (cn B v).length = 0 := fun h => cn_nil h2 (by omega) (List.length_eq_zero_iff.1 h)
  have h10 : (cn 10 v).length ≤ 10 * a.length := by
    refine cn_length (by omega) (Int.lt_of_lt_of_le hvl ?_)
    rw [Int.pow_mul]
    have hb : B ≤ 10 ^ 10 := by rw [hB]; decide
    have : ∀ n : Nat, B ^ n ≤ (10 ^ 10 : Int) ^ n := fun n => by
      induction n with
      | zero => simp
      | succ n ih =>
        rw [Int.pow_succ, Int.pow_succ]
        exact Int.mul_le_mul ih hb (by omega) (Int.le_of_lt (pow_pos' (by decide) n))
    exact this _
  have k := fun f => text_loop hB (n := a.length) (M := 10 * a.length) (by omega) (by omega) (σ0 := σ) (dd := false) (rs := [.t 2]) (st := [.d (.kb [4] (tlD (tlD (tlD (tlD (tlD d11))))))]) (B0 := b11_0) rfl _ v [] u1 .nils f τ1 (Nat.le_refl _) ⟨hv0, hvl⟩ a2 ((Own.nils τ1 1).base a2.gr) (fun k hk h => by simp [V.row] at h) (by simpa using h10)
  simp [f11, d11, a1, a2.rd.len, hp]
  refine Lands.to (C := fun r => ∃ τ, r = some (CO.ret (.str (textF v)), τ) ∧ Gr σ τ) (k _ (by simp) (by simp) (by simp)) ?_
  rintro f' σ' ⟨w, b1, b2, b3⟩
  simp only [List.nil_append] at b1
  have hne : dgs v ≠ [] := by rw [dgs]; simp; exact cn_nil (by omega) (by omega)
  rcases b1.sl with ⟨rfl, h⟩ | ⟨l, rfl, hH⟩
  · simp at h; exact absurd h hne
  have hln : 0 < (dgs v).length := List.length_pos_iff.2 hne
  have hl31 : (dgs v).length ≤ 10 * a.length := by rw [dgs, List.length_map]; exact h10
  simp only [List.length_map] at *
  obtain ⟨N, hN⟩ : ∃ N, N = (dgs v).length := ⟨_, rfl⟩
  obtain ⟨M, hM⟩ : ∃ M, M = (dgs v).length - 1 := ⟨_, rfl⟩
  rw [← hN] at b3
  have w : IntKind.i64.wrap ((N : Int) - 1) = (M : Int) := by rw [IntWalk.i64_in _ (by omega)]; omega
  have k := fun f => rev_loop (l := l) (N := N) (s := dgs v) (b1.lo l rfl).1 hN.symm (by omega) (dd := false) (rs := [.t 2]) (st := [.d (.kb [4] (tlD (tlD (tlD (tlD (tlD (tlD d11)))))))]) (B0 := b11_1) rfl _ 0 M (dgs v) f σ' (by omega) (Nat.le_refl _) (.zero _) b1.gr hH
  simp [tlD, d11, b2, b3, w]
  refine Lands.to (C := fun r => ∃ τ, r = some (CO.ret (.str (textF v)), τ) ∧ Gr σ τ) (k _ (by simp) (by simp) (by simp) (by simp)) ?_
  rintro f2 σ2 ⟨c1, c2, c3, c4⟩
  refine ⟨σ2, ?_, c1⟩
  have hb := c2.str
  simp [tlD, d11, c3, c4, hb, textF, h0]
end Go.Proofs.Yticpkoakbneefaa
namespace Go.Proofs.Yticpkoakbneefaa
open Go.Proofs.Yticpkoakbneefaa.Ab
set_option linter.unusedVariables false
set_option linter.unusedSimpArgs false
attribute [local simp] Gr.refl Gr.new Gr.set Gr.kill Nat.add_assoc r_cks chk wantG
theorem Dg.all {B : Int} {l : List Int} (h : l.all (fun x => decide (0 ≤ x ∧ x < B)) = true) : Dg B l := fun x hx => by
  have := List.all_eq_true.1 h x hx
  simpa using this
/-- A row that was just laid down. -/
theorem New.lit {σ0 σ : St} (g : Gr σ0 σ) (l : List Int) {N : Nat} (hN : N = l.length) : New σ0 (σ.new (.row 1 (l.map nE))) (.slc σ.n 0 N) l :=
  New.row (by simp) hN (g.new _) g.n (by simp)
theorem old_lit {σ : St} {b : Blk} {N : Nat} : (V.slc σ.n 0 N).old (σ.new b) := fun p off len e => by injection e with e1; subst e1; simp
theorem counted_ev (σ : St) : ev ET 4 [] σ = some (.ret (.bool true), σ) := by
  suffices h : ∃ τ, run ET false f4.res [.d f4.body] ⟨envOf [], []⟩ σ = some (.ret (.bool true), τ) ∧ Gr σ τ by
    obtain ⟨τ, h, g⟩ := h
    exact ev_pure (fd := f4) rfl (by simp [f4]) rfl h g.H g.W (by simp)
  obtain ⟨B, hB⟩ : ∃ B : Int, B = 4294967296 := ⟨_, rfl⟩
  have h2 : 2 ≤ B := by omega
  -- the rows of the division
  have n1 := New.lit (Gr.refl σ) [0, 0, 1] (N := 3) rfl
  obtain ⟨s1, hs1⟩ : ∃ s, s = σ.new (.row 1 ([0, 0, 1].map nE)) := ⟨_, rfl⟩
  rw [← hs1] at n1
  have n2 := New.lit n1.gr [1, 1] (N := 2) rfl
  obtain ⟨s2, hs2⟩ : ∃ s, s = s1.new (.row 1 ([1, 1].map nE)) := ⟨_, rfl⟩
  rw [← hs2] at n2
  have n1' := n1.step (σ' := s2) (by rw [hs2]; exact (Gr.refl s1).new _)
  have d1 : Dg B [0, 0, 1] := by rw [hB]; exact Dg.all (by decide)
  have d2 : Dg B [1, 1] := by rw [hB]; exact Dg.all (by decide)
  have d3 : Dg B [0, 1] := by rw [hB]; exact Dg.all (by decide)
  obtain ⟨u, w, τ, k1, k2, k3⟩ := divmod_ev hB n1'.rd n1'.old n2.rd n2.old (by decide) (by decide) d1 d2 (by rw [hB]; decide)
  have e1 : cn B (vl B [0, 0, 1] / vl B [1, 1]) = [4294967295] := by
    rw [show vl B [0, 0, 1] / vl B [1, 1] = vl B [4294967295] by rw [hB]; decide, ← tr_cn h2 (by rw [hB]; exact Dg.all (by decide))]
    decide
  have e2 : cn B (vl B [0, 0, 1] % vl B [1, 1]) = [1] := by
    rw [show vl B [0, 0, 1] % vl B [1, 1] = vl B [1] by rw [hB]; decide, ← tr_cn h2 (by rw [hB]; exact Dg.all (by decide))]
    decide
  rw [e1] at k2; rw [e2] at k3
  have g1 := n2.gr
  have k2 := k2.base g1
  have k3 := k3.base g1
  -- those of the product
  have m1 := New.lit k2.gr [0, 1] (N := 2) rfl
  obtain ⟨t1, ht1⟩ : ∃ s, s = τ.new (.row 1 ([0, 1].map nE)) := ⟨_, rfl⟩
  rw [← ht1] at m1
  have m2 := New.lit m1.gr [0, 1] (N := 2) rfl
  obtain ⟨t2, ht2⟩ : ∃ s, s = t1.new (.row 1 ([0, 1].map nE)) := ⟨_, rfl⟩
  rw [← ht2] at m2
  have m1' := m1.step (σ' := t2) (by rw [ht2]; exact (Gr.refl t1).new _)
  obtain ⟨p, τ2, p1, p2⟩ := mul_ev (E := ET) rfl hB m1'.rd m1'.old m2.rd m2.old (by decide) (by decide) d3 d3
  have e3 : cn B (vl B [0, 1] * vl B [0, 1]) = [0, 0, 1] := by
    rw [show vl B [0, 1] * vl B [0, 1] = vl B [0, 0, 1] by rw [hB]; decide, ← tr_cn h2 d1]
    decide
  rw [e3] at p2
  have gp := p2.gr
  have gA : Gr τ τ2 := by
    have a : Gr τ t2 := by rw [ht2, ht1]; exact ((Gr.refl τ).new _).new _
    exact a.trans gp
  have p2 := p2.base m2.gr
  have u2 := k2.step gA
  have w2 := k3.step gA
  -- the rows that are held beside
  have lit : ∀ (s : St) (l : List Int) (N : Nat), Gr σ s → N = l.length → New σ (s.new (.row 1 (l.map nE))) (.slc s.n 0 N) l ∧ Gr s (s.new (.row 1 (l.map nE))) := fun s l N g hN => ⟨New.lit g l hN, (Gr.refl s).new _⟩
  obtain ⟨c1, g1'⟩ := lit τ2 [0, 0, 1] 3 p2.gr rfl
  obtain ⟨t3, ht3⟩ : ∃ s, s = τ2.new (.row 1 ([0, 0, 1].map nE)) := ⟨_, rfl⟩
  rw [← ht3] at c1 g1'
  have W1 := words_ev (p2.step g1').rd c1.rd (by decide)
  have u3 := u2.step g1'
  have w3 := w2.step g1'
  obtain ⟨c2, g2'⟩ := lit t3 [4294967295] 1 c1.gr rfl
  obtain ⟨t4, ht4⟩ : ∃ s, s = t3.new (.row 1 ([4294967295].map nE)) := ⟨_, rfl⟩
  rw [← ht4] at c2 g2'
  have W2 := words_ev (u3.step g2').rd c2.rd (by decide)
  have w4 := w3.step g2'
  obtain ⟨c3, g3'⟩ := lit t4 [1] 1 c2.gr rfl
  obtain ⟨t5, ht5⟩ : ∃ s, s = t4.new (.row 1 ([1].map nE)) := ⟨_, rfl⟩
  rw [← ht5] at c3 g3'
  have W3 := words_ev (w4.step g3').rd c3.rd (by decide)
  obtain ⟨c4, g4'⟩ := lit t5 [0, 1] 2 c3.gr rfl
  obtain ⟨t6, ht6⟩ : ∃ s, s = t5.new (.row 1 ([0, 1].map nE)) := ⟨_, rfl⟩
  rw [← ht6] at c4 g4'
  have W4 := text_ev hB c4.rd c4.old (by decide) d3
  have e4 : textF (vl B [0, 1]) = [52, 50, 57, 52, 57, 54, 55, 50, 57, 54] := by
    have : cn 10 (vl B [0, 1]) = [6, 9, 2, 7, 6, 9, 4, 9, 2, 4] := by
      rw [show vl B [0, 1] = vl 10 [6, 9, 2, 7, 6, 9, 4, 9, 2, 4] by rw [hB]; decide, ← tr_cn (by decide) (Dg.all (by decide))]
      decide
    unfold textF dgs
    rw [this, if_neg (by rw [hB]; decide)]
    decide
  rw [e4] at W4
  refine ⟨t6, ?_, c4.gr⟩
  simp only [List.map_cons, List.map_nil, nE] at hs1 hs2 ht1 ht2 ht3 ht4 ht5 ht6
  clear n1 n2 n1' k2 k3 m1 m2 m1' p2 u2 w2 u3 w3 w4 c1 c2 c3 c4 g1' g2' g3' g4' gA gp lit
  have a1 : s1.n = σ.n + 1 := by rw [hs1]; simp
  have x1 : t1.n = τ.n + 1 := by rw [ht1]; simp
  have kk : ∀ (v : List V) , v = [] → v = [] := fun v h => h
  simp [f4, d4, ← hs1, ← hs2, k1, ← ht1, ← ht2, p1, ← ht3, W1, ← ht4, W2, ← ht5, W3, ← ht6, W4]
end Go.Proofs.Yticpkoakbneefaa
