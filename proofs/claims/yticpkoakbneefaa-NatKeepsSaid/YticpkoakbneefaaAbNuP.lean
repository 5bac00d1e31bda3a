/-
The walk over the program's texts, told with what its values say: a part of it. No further condition.
-/
import Derived.Test.YticpkoakbneefaaAbNuL
import Derived.Lib.BitFns
namespace Go.Proofs.Yticpkoakbneefaa
open Go.Proofs.Yticpkoakbneefaa.Ab
set_option linter.unusedVariables false
set_option linter.unusedSimpArgs false
attribute [local simp] Gr.refl Gr.new Gr.set Gr.kill Nat.add_assoc r_cks chk wantG
variable {E : En Try.prog} {B : Int}
theorem or_n {c y : Int} {n : Nat} (hn : n < 32) (hc : 0 ≤ c ∧ c < 2 ^ n) (hy : 0 ≤ y ∧ y < 4294967296) (hd : y % 2 ^ n = 0) : IntKind.u32.wrap ↑((c % 2 ^ IntKind.u32.bits).toNat ||| (y % 2 ^ IntKind.u32.bits).toNat) = c + y := by
  have hp : (2 : Int) ^ n ≤ 2 ^ 31 := pow_le (by omega) (by omega)
  have e : (2 : Int) ^ IntKind.u32.bits = 4294967296 := by simp [IntKind.bits]
  rw [e, Int.emod_eq_of_lt (by omega) (by omega), Int.emod_eq_of_lt (by omega) (by omega), wrap_u32]
  have p2 : (2 : Int) ^ n = ((2 ^ n : Nat) : Int) := by simp
  have h4 : y.toNat = 2 ^ n * (y / 2 ^ n).toNat := by
    have e := Int.emod_add_mul_ediv y (2 ^ n)
    have h0 : 0 ≤ y / 2 ^ n := Int.ediv_nonneg hy.1 (by have := pow_pos' (show (0 : Int) < 2 by omega) n; omega)
    rw [hd, Int.zero_add, p2] at e
    have : (((2 ^ n * (y / 2 ^ n).toNat : Nat)) : Int) = y := by
      rw [Int.natCast_mul, Int.toNat_of_nonneg h0]
      rw [p2]
      exact e
    omega
  have h5 := Nat.two_pow_add_eq_or_of_lt (i := n) (b := c.toNat) (by have h6 := hc.2; rw [p2] at h6; omega) (y / 2 ^ n).toNat
  have h6 : c + y < 4294967296 := by
    have e3 : (4294967296 : Int) = 2 ^ (32 - n) * 2 ^ n := by rw [← Int.pow_add, Nat.sub_add_cancel (by omega)]; rfl
    have hp0 := pow_pos' (show (0 : Int) < 2 by omega) n
    have h1 := Int.emod_add_mul_ediv y (2 ^ n)
    rw [hd, Int.zero_add] at h1
    have h2 : y / 2 ^ n < 2 ^ (32 - n) := Int.ediv_lt_of_lt_mul hp0 (by rw [Int.mul_comm, Int.mul_comm (2 ^ n), ← e3]; omega)
    have h3 := Int.mul_le_mul_of_nonneg_left (show y / 2 ^ n + 1 ≤ 2 ^ (32 - n) by omega) (show 0 ≤ (2 : Int) ^ n by omega)
    rw [Int.mul_comm (2 ^ n) (2 ^ (32 - n)), ← e3, Int.mul_add, h1] at h3
    omega
  rw [h4, Nat.or_comm, ← h5]
  omega
theorem shl_n {x : Int} {n : Nat} (hx : 0 ≤ x ∧ x < 4294967296) (hn : n < 32) : IntKind.u64.wrap (x * 2 ^ min n IntKind.u64.bits) = x * 2 ^ n := by
  have hp : (2 : Int) ^ n ≤ 2 ^ 31 := pow_le (by omega) (by omega)
  have hp0 := pow_pos' (show (0 : Int) < 2 by omega) n
  rw [show min n IntKind.u64.bits = n from Nat.min_eq_left (by simp [IntKind.bits]; omega)]
  have h1 := Int.mul_le_mul_of_nonneg_left hp hx.1
  have h2 := Int.mul_nonneg hx.1 (show 0 ≤ (2 : Int) ^ n by omega)
  exact u64id h2 (by omega)
def LeQ (B : Int) (σ0 : St) (l : Nat) (a : List Int) (n : Nat) (f' : Fr) (σ' : St) : Prop := ∃ R : List Int, R.length = a.length + 1 ∧ Dg B R ∧ vl B R = vl B a * 2 ^ n ∧ Gr σ0 σ' ∧ σ'.H l = some (.row 1 (R.map nE)) ∧ l < σ'.n ∧ f'.ds = [] ∧ f'.env 5 = .slc l 0 (a.length + 1)
set_option maxHeartbeats 400000 in
theorem left_loop (hB : B = 4294967296) {σ0 : St} {va : V} {a : List Int} (ha : Nm σ0 va a) (hao : va.old σ0) (hal : a.length < 2 ^ 30) (da : Dg B a) {n : Nat} (hn : n < 32) {l : Nat} (hl0 : σ0.n ≤ l) {dd : Bool} {rs : List RC} {st : List SE} {B0 : D} (hB0 : B0 = b19_0) :
    ∀ (m : Nat) (p : List Int) (c : Int) (f : Fr) (σ : St), p.length + m = a.length → Dg B p → 0 ≤ c ∧ c < 2 ^ n → vl B p + B ^ p.length * c = vl B (a.take p.length) * 2 ^ n → Gr σ0 σ → σ.H l = some (.row 1 (((p ++ [c]) ++ List.replicate m 0).map nE)) → l < σ.n →
      f.ds = [] → f.env 1 = .int .u64 n → f.env 5 = .slc l 0 (a.length + 1) → f.env 13 = va → f.env 14 = .int .i64 a.length → f.env 15 = .int .i64 p.length →
      Lands E dd rs st (LeQ B σ0 l a n) (run E dd rs (.d (.loop [1, 5, 13, 14, 15] B0) :: .blk 0 :: st) f σ)
  | 0, p, c, f, σ, hp, dp, hc, hv, hg, hH, hln, hd, e1, e5, e13, e14, e15 => by
    have hpn : (2 : Int) ^ n ≤ 2 ^ 31 := pow_le (by omega) (by omega)
    rw [r_loopU hB0]
    have h : ¬ p.length < a.length := by omega
    simp [b19_0, hd, e1, e5, e13, e14, e15, h]
    exact .here ⟨p ++ [c], by simp; omega, dp.snoc hc.1 (by omega), by rw [vl_snoc, hv, List.take_of_length_le (by omega)], hg, by simpa using hH, hln, by simp, by simp⟩
  | m + 1, p, c, f, σ, hp, dp, hc, hv, hg, hH, hln, hd, e1, e5, e13, e14, e15 => by
    have hpn : (2 : Int) ^ n ≤ 2 ^ 31 := pow_le (by omega) (by omega)
    have hp0 := pow_pos' (show (0 : Int) < 2 by omega) n
    have h : p.length < a.length := by omega
    have hx := da.place (show 0 < B by omega) (p.length : Int)
    have hs := left_step (x := rd a p.length) B hv
    rw [← vl_take_succ] at hs
    have hxs := Int.mul_nonneg hx.1 (show 0 ≤ (2 : Int) ^ n by omega)
    have hxs2 := Int.mul_le_mul_of_nonneg_left hpn hx.1
    have hlow := shift_low (x := rd a p.length) hn
    have hhi : rd a p.length * 2 ^ n / 4294967296 < 2 ^ n := Int.ediv_lt_of_lt_mul (by omega) (by rw [Int.mul_comm]; exact Int.mul_lt_mul_of_pos_left (by omega) hp0)
    have w1 : IntKind.u64.wrap (rd a p.length) = rd a p.length := u64id (by omega) (by omega)
    have w2 := shl_n (x := rd a p.length) (by omega) hn
    have ha' := ha.gr hg hao
    have i1 := ha'.at (k := .i64) h
    have l1 := ha'.ld h
    obtain ⟨x, hxx⟩ : ∃ x, x = rd a p.length := ⟨_, rfl⟩
    rw [← hxx] at w1 w2 l1 hx hs hxs hxs2 hlow hhi
    obtain ⟨t, ht⟩ : ∃ t, t = x * 2 ^ n := ⟨_, rfl⟩
    rw [← ht] at w2 hs hxs hxs2 hlow hhi
    have w3 := or_n hn hc (y := t % 4294967296) (by omega) hlow
    have w4 : IntKind.u32.wrap t = t % 4294967296 := wrap_u32 t
    have w5 : t.fdiv (2 ^ min 32 IntKind.u64.bits) = t / 4294967296 := fd32 t hxs
    have w6 : IntKind.u32.wrap (t / 4294967296) = t / 4294967296 := by rw [wrap_u32]; omega
    have hsum : 0 ≤ c + t % 4294967296 ∧ c + t % 4294967296 < 4294967296 := by
      rw [← w3, wrap_u32]; omega
    have hXl : ((p ++ [c]) ++ List.replicate (m + 1) 0).length = a.length + 1 := by simp; omega
    have i3 : iaV σ 1 (.slc l 0 (a.length + 1)) (.int .i64 p.length) = some (.ptr l p.length 0) := row_at hH hXl.symm (by omega)
    have l3 := row_ld hH (i := p.length) (by rw [hXl]; omega)
    have erd : rd ((p ++ [c]) ++ List.replicate (m + 1) 0) (p.length : Int) = c := by
      rw [rd_nat, List.append_assoc, List.getElem?_append_right (by simp)]; simp
    rw [erd] at l3
    obtain ⟨lo, hlo⟩ : ∃ lo, lo = c + t % 4294967296 := ⟨_, rfl⟩
    obtain ⟨hi, hhi'⟩ : ∃ hi, hi = t / 4294967296 := ⟨_, rfl⟩
    rw [← hlo] at w3 hsum
    rw [← hhi'] at w5 w6 hhi
    have s1 := row_st hH (i := p.length) (by rw [hXl]; omega) lo
    obtain ⟨X1, hX1⟩ : ∃ X1, X1 = ((p ++ [c]) ++ List.replicate (m + 1) 0).set p.length lo := ⟨_, rfl⟩
    rw [← hX1] at s1
    have hX1l : X1.length = a.length + 1 := by rw [hX1]; simp; omega
    obtain ⟨q, hq⟩ : ∃ q, q = p.length + 1 := ⟨_, rfl⟩
    have hw : IntKind.i64.wrap ((p.length : Int) + 1) = (q : Int) := by rw [IntWalk.i64_in _ (by omega)]; omega
    have hH1 : (σ.set l (.row 1 (X1.map nE))).H l = some (.row 1 (X1.map nE)) := by simp
    have i4 : iaV (σ.set l (.row 1 (X1.map nE))) 1 (.slc l 0 (a.length + 1)) (.int .i64 q) = some (.ptr l q 0) := row_at hH1 hX1l.symm (by omega)
    have s2 := row_st hH1 (i := q) (by omega) hi
    obtain ⟨X2, hX2⟩ : ∃ X2, X2 = X1.set q hi := ⟨_, rfl⟩
    rw [← hX2] at s2
    have eset : X2 = ((p ++ [lo]) ++ [hi]) ++ List.replicate m 0 := by
      rw [hX2, hX1, hq, List.append_assoc, List.set_append_right _ _ (by simp), Nat.sub_self]
      simp only [List.replicate_succ, List.singleton_append, List.set_cons_zero]
      rw [List.set_append_right _ _ (by simp)]
      simp
    have ih := fun f => left_loop hB ha hao hal da hn hl0 (dd := dd) (rs := rs) (st := st) hB0 m (p ++ [lo]) hi f (σ.set l (.row 1 (X2.map nE))) (by simp; omega) (dp.snoc (by omega) (by omega)) ⟨by omega, hhi⟩ (by
      rw [vl_snoc, List.length_append, List.length_singleton, Int.pow_succ, hlo, hhi', ← hB]; exact hs) (hg.set hl0 _) (by rw [← eset]; simp) (by simpa using hln)
    simp only [List.length_append, List.length_singleton, ← hq] at ih
    rw [r_loopU hB0]
    clear hs hv
    have ha2 := ha.gr (hg.set hl0 (.row 1 (X1.map nE))) hao
    have hn0 : ¬ (n : Int) < 0 := by omega
    simp [b19_0, hd, e1, e5, e13, e14, e15, h, hn0, i1, l1, w1, w2, i3, l3, w4, w3, s1, hw, i4, w5, w6, s2, -stV_ptr, -ldV_ptr]
    exact ih _ (by simp) (by simp) (by simp) (by simp) (by simp) (by simp)
def LeE (B : Int) (σ : St) (a : List Int) (n : Nat) (r : Option (CO × St)) : Prop := ∃ l R τ, r = some (.ret (.slc l 0 (a.length + 1)), τ) ∧ R.length = a.length + 1 ∧ Dg B R ∧ vl B R = vl B a * 2 ^ n ∧ Gr σ τ ∧ τ.H l = some (.row 1 (R.map nE)) ∧ σ.n ≤ l ∧ l < τ.n
theorem left_ev (hT : E.T = T) (hB : B = 4294967296) {σ : St} {va : V} {a : List Int} (ha : Nm σ va a) (hao : va.old σ) (hal : a.length < 2 ^ 29) (da : Dg B a) {n : Nat} (hn : n < 32) :
    ∃ l R τ, ev E 19 [va, .int .u64 n] σ = some (.ret (.slc l 0 (a.length + 1)), τ) ∧ R.length = a.length + 1 ∧ Dg B R ∧ vl B R = vl B a * 2 ^ n ∧ Gr σ τ ∧ τ.H l = some (.row 1 (R.map nE)) ∧ σ.n ≤ l ∧ l < τ.n := by
  suffices h : LeE B σ a n (run E false f19.res [.d f19.body] ⟨envOf [va, .int .u64 n], []⟩ σ) by
    obtain ⟨l, R, τ, h, k⟩ := h
    exact ⟨l, R, τ, ev_raw (fd := f19) (by rw [hT]; rfl) (by simp [f19]) rfl h, k⟩
  obtain ⟨k, hk⟩ : ∃ n, n = a.length + 1 := ⟨_, rfl⟩
  have hw : IntKind.i64.wrap ((a.length : Int) + 1) = (k : Int) := by rw [IntWalk.i64_in _ (by omega)]; omega
  obtain ⟨s1, hs1⟩ : ∃ s1, s1 = σ.new (.row 1 (List.replicate k [.int .u32 0])) := ⟨_, rfl⟩
  have g1 : Gr σ s1 := by rw [hs1]; exact (Gr.refl σ).new _
  have hrb : (4 : Int) * k ≤ reach := by simp [reach]; omega
  have hrb2 : (k : Int) ≤ reach := by simp [reach]; omega
  have hmk : mkslV σ 4 [.int .u32 0] (.int .i64 k) (.int .i64 k) = some (.slc σ.n 0 k, s1) := by
    rw [mkslV_int, hs1, if_pos ⟨by omega, by omega, hrb, hrb2⟩]; simp
  have hH : s1.H σ.n = some (.row 1 (((([] : List Int) ++ [0]) ++ List.replicate a.length 0).map nE)) := by rw [hs1]; simp [hk, nE, List.replicate_succ]
  have ha' := ha.gr g1 hao
  simp [f19, d19, ha.len, ha'.len, hw, hmk, -mkslV_int]
  refine Lands.to (C := LeE B σ a n) (left_loop hB ha hao (by omega) da hn (Nat.le_refl σ.n) rfl a.length [] 0 _ s1 (by simp) .nil ⟨by omega, pow_pos' (by omega) n⟩ (by simp [vl]) g1 hH (by rw [hs1]; simp) (by simp) (by simp) (by simp [hk]) (by simp) (by simp) (by simp)) ?_
  rintro f' σ' ⟨R, h1, h2, h3, h4, h5, h6, h7, h8⟩
  refine ⟨σ.n, R, σ', ?_, h1, h2, h3, h4, h5, Nat.le_refl _, h6⟩
  simp [h7, h8]
end Go.Proofs.Yticpkoakbneefaa
namespace Go.Proofs.Yticpkoakbneefaa
open Go.Proofs.Yticpkoakbneefaa.Ab
set_option linter.unusedVariables false
set_option linter.unusedSimpArgs false
attribute [local simp] Gr.refl Gr.new Gr.set Gr.kill Nat.add_assoc r_cks chk wantG
variable {E : En Try.prog} {B : Int}
theorem join_n' {x y : Int} (hx : 0 ≤ x ∧ x < 4294967296) (hy : 0 ≤ y ∧ y < 4294967296) : IntKind.u64.wrap ↑((y % 2 ^ IntKind.u64.bits).toNat ||| (x * 4294967296 % 2 ^ IntKind.u64.bits).toNat) = x * 4294967296 + y := by
  rw [Nat.or_comm]; exact join_n hx hy
theorem fdn {n : Nat} (hn : n < 32) (z : Int) : z.fdiv (2 ^ min n IntKind.u64.bits) = z / 2 ^ n := by
  have hp0 := pow_pos' (show (0 : Int) < 2 by omega) n
  rw [show min n IntKind.u64.bits = n from Nat.min_eq_left (by simp [IntKind.bits]; omega), Int.fdiv_eq_ediv_of_nonneg _ (by omega)]
def RiQ (B : Int) (σ0 : St) (l : Nat) (a : List Int) (n : Nat) (f' : Fr) (σ' : St) : Prop := ∃ R : List Int, R.length = a.length ∧ Dg B R ∧ vl B R = vl B a / 2 ^ n ∧ Gr σ0 σ' ∧ σ'.H l = some (.row 1 (R.map nE)) ∧ l < σ'.n ∧ f'.ds = [] ∧ f'.env 5 = .slc l 0 a.length
set_option maxHeartbeats 400000 in
theorem right_loop (hB : B = 4294967296) {σ0 : St} {va : V} {a : List Int} (ha : Nm σ0 va a) (hao : va.old σ0) (hal : a.length < 2 ^ 30) (da : Dg B a) {n : Nat} (hn : n < 32) {l : Nat} (hl0 : σ0.n ≤ l) {dd : Bool} {rs : List RC} {st : List SE} {B0 : D} (hB0 : B0 = b23_0) :
    ∀ (m : Nat) (p : List Int) (f : Fr) (σ : St), p.length + m = a.length → Dg B p → vl B p = (vl B a / 2 ^ n) % B ^ p.length → Gr σ0 σ → σ.H l = some (.row 1 ((p ++ List.replicate m 0).map nE)) → l < σ.n →
      f.ds = [] → f.env 0 = va → f.env 1 = .int .u64 n → f.env 5 = .slc l 0 a.length → f.env 12 = .int .i64 a.length → f.env 13 = .int .i64 p.length →
      Lands E dd rs st (RiQ B σ0 l a n) (run E dd rs (.d (.loop [0, 1, 5, 12, 13] B0) :: .blk 0 :: st) f σ)
  | 0, p, f, σ, hp, dp, hv, hg, hH, hln, hd, e0, e1, e5, e12, e13 => by
    rw [r_loopU hB0]
    have h : ¬ p.length < a.length := by omega
    have h0 := vl_nonneg (show 0 ≤ B by omega) da
    have h1 := vl_lt (show 0 < B by omega) da
    have hp0 := pow_pos' (show (0 : Int) < 2 by omega) n
    have h2 : vl B a / 2 ^ n ≤ vl B a := Int.ediv_le_self _ h0
    simp [b23_0, hd, e0, e1, e5, e12, e13, h]
    exact .here ⟨p, by omega, dp, by rw [hv, Int.emod_eq_of_lt (Int.ediv_nonneg h0 (by omega)) (by rw [show p.length = a.length by omega]; omega)], hg, by simpa using hH, hln, by simp, by simp⟩
  | m + 1, p, f, σ, hp, dp, hv, hg, hH, hln, hd, e0, e1, e5, e12, e13 => by
    have hp0 := pow_pos' (show (0 : Int) < 2 by omega) n
    have h : p.length < a.length := by omega
    have hx := da.place (show 0 < B by omega) (p.length : Int)
    have hy := da.place (show 0 < B by omega) ((p.length + 1 : Nat) : Int)
    have hl := right_limb hB hn da (i := p.length) (by omega)
    have hs : vl B (p ++ [(rd a p.length + rd a ((p.length + 1 : Nat) : Int) * B) / 2 ^ n % B]) = (vl B a / 2 ^ n) % B ^ (p.length + 1) := by
      rw [vl_snoc, mod_pow_succ (by omega), hl, hv]
    have hm0 := Int.emod_nonneg ((rd a p.length + rd a ((p.length + 1 : Nat) : Int) * B) / 2 ^ n) (show B ≠ 0 by omega)
    have hm1 := Int.emod_lt_of_pos ((rd a p.length + rd a ((p.length + 1 : Nat) : Int) * B) / 2 ^ n) (show 0 < B by omega)
    have ha' := ha.gr hg hao
    have i1 := ha'.at (k := .i64) h
    have l1 := ha'.ld h
    have i2 := fun h => ha'.at (k := .i64) (i := p.length + 1) h
    have l2 := fun h => ha'.ld (i := p.length + 1) h
    have ho : ¬ p.length + 1 < a.length → rd a ((p.length + 1 : Nat) : Int) = 0 := fun h => rd_out (by omega)
    have hXl : (p ++ List.replicate (m + 1) 0).length = a.length := by simp; omega
    have i3 : iaV σ 1 (.slc l 0 a.length) (.int .i64 p.length) = some (.ptr l p.length 0) := row_at hH hXl.symm (by omega)
    obtain ⟨q, hq⟩ : ∃ q, q = p.length + 1 := ⟨_, rfl⟩
    have hw : IntKind.i64.wrap ((p.length : Int) + 1) = (q : Int) := by rw [IntWalk.i64_in _ (by omega)]; omega
    rw [← hq] at i2 l2 hy hs hm0 hm1 ho
    obtain ⟨x, hxx⟩ : ∃ x, x = rd a p.length := ⟨_, rfl⟩
    obtain ⟨y, hyy⟩ : ∃ y, y = rd a q := ⟨_, rfl⟩
    rw [← hxx] at l1 hx hs hm0 hm1
    rw [← hyy] at l2 hy hs hm0 hm1 ho
    have w1 : IntKind.u64.wrap x = x := u64id (by omega) (by omega)
    have w2 : IntKind.u64.wrap y = y := u64id (by omega) (by omega)
    have w3 : IntKind.u64.wrap (y * 2 ^ min 32 IntKind.u64.bits) = y * 4294967296 := shl32 (by omega)
    have w4 := join_n' (x := y) (y := x) (by omega) (by omega)
    obtain ⟨lo, hlo⟩ : ∃ lo, lo = (x + y * B) / 2 ^ n % B := ⟨_, rfl⟩
    rw [← hlo] at hs hm0 hm1
    have w5 : ∀ t : Int, t = x + y * B → IntKind.u32.wrap (t.fdiv (2 ^ min n IntKind.u64.bits)) = lo := fun t ht => by rw [fdn hn, wrap_u32, ht, hlo, hB]
    have s1 := row_st hH (i := p.length) (by rw [hXl]; omega) lo
    rw [rep_set] at s1
    obtain ⟨X1, hX1⟩ : ∃ X1, X1 = (p ++ [lo]) ++ List.replicate m 0 := ⟨_, rfl⟩
    rw [← hX1] at s1
    have ih := fun f => right_loop hB ha hao hal da hn hl0 (dd := dd) (rs := rs) (st := st) hB0 m (p ++ [lo]) f (σ.set l (.row 1 (X1.map nE))) (by simp; omega) (dp.snoc hm0 hm1) (by rw [List.length_append, List.length_singleton, ← hq]; exact hs) (hg.set hl0 _) (by rw [← hX1]; simp) (by simpa using hln)
    simp only [List.length_append, List.length_singleton, ← hq] at ih
    have hn0 : ¬ (n : Int) < 0 := by omega
    rw [r_loopU hB0]
    clear hs hv
    by_cases hlt : q < a.length
    · have i2 := i2 hlt
      have l2 := l2 hlt
      have w6 := w5 (y * 4294967296 + x) (by rw [hB]; omega)
      obtain ⟨z, hz⟩ : ∃ z, z = y * 4294967296 := ⟨_, rfl⟩
      rw [← hz] at w3 w4 w6
      simp [b23_0, hd, e0, e1, e5, e12, e13, h, hn0, ha'.len, hw, hlt, i1, l1, i2, l2, w1, w2, w3, w4, w6, i3, s1, -stV_ptr, -ldV_ptr]
      exact ih _ (by simp) (by simp) (by simp) (by simp) (by simp) (by simp)
    · have w6 := w5 x (by rw [ho (by omega)]; omega)
      simp [b23_0, hd, e0, e1, e5, e12, e13, h, hn0, ha'.len, hw, hlt, i1, l1, w1, w6, i3, s1, -stV_ptr, -ldV_ptr]
      exact ih _ (by simp) (by simp) (by simp) (by simp) (by simp) (by simp)
theorem right_ev (hT : E.T = T) (hB : B = 4294967296) {σ : St} {va : V} {a : List Int} (ha : Nm σ va a) (hao : va.old σ) (hal : a.length < 2 ^ 29) (da : Dg B a) {n : Nat} (hn : n < 32) :
    ∃ u τ, ev E 23 [va, .int .u64 n] σ = some (.ret u, τ) ∧ New σ τ u (cn B (vl B a / 2 ^ n)) := by
  suffices h : ∃ u τ, run E false f23.res [.d f23.body] ⟨envOf [va, .int .u64 n], []⟩ σ = some (.ret u, τ) ∧ New σ τ u (cn B (vl B a / 2 ^ n)) by
    obtain ⟨u, τ, h, k⟩ := h
    exact ⟨u, τ, ev_raw (fd := f23) (by rw [hT]; rfl) (by simp [f23]) rfl h, k⟩
  obtain ⟨s1, hs1⟩ : ∃ s1, s1 = σ.new (.row 1 (List.replicate a.length [.int .u32 0])) := ⟨_, rfl⟩
  have g1 : Gr σ s1 := by rw [hs1]; exact (Gr.refl σ).new _
  have hrb : (4 : Int) * a.length ≤ reach := by simp [reach]; omega
  have hrb2 : (a.length : Int) ≤ reach := by simp [reach]; omega
  have hmk : mkslV σ 4 [.int .u32 0] (.int .i64 a.length) (.int .i64 a.length) = some (.slc σ.n 0 a.length, s1) := by
    rw [mkslV_int, hs1, if_pos ⟨by omega, by omega, hrb, hrb2⟩]; simp
  have hH : s1.H σ.n = some (.row 1 ((([] : List Int) ++ List.replicate a.length 0).map nE)) := by rw [hs1]; simp [nE]
  have ha' := ha.gr g1 hao
  show ∃ u τ, _ ∧ New σ τ u _
  simp [f23, d23, ha.len, ha'.len, hmk, -mkslV_int]
  refine Lands.to (C := fun r => ∃ u τ, r = some (CO.ret u, τ) ∧ New σ τ u (cn B (vl B a / 2 ^ n))) (right_loop hB ha hao (by omega) da hn (Nat.le_refl σ.n) rfl a.length [] _ s1 (by simp) .nil (by simp [vl]) g1 hH (by rw [hs1]; simp) (by simp) (by simp) (by simp) (by simp) (by simp) (by simp)) ?_
  rintro f' σ' ⟨R, h1, h2, h3, h5, h6, h7, h8, h9⟩
  have hnew := New.row (N := a.length) h6 h1.symm h5 (Nat.le_refl _) h7
  have htr := trim_ev hT hnew.rd (by omega)
  have hfin := hnew.trim
  have hcn : tr R = cn B (vl B a / 2 ^ n) := by rw [tr_cn (B := B) (by omega) h2, h3]
  rw [hcn] at htr hfin
  exact ⟨_, σ', by simp [h8, h9, htr], hfin⟩
end Go.Proofs.Yticpkoakbneefaa
namespace Go.Proofs.Yticpkoakbneefaa
open Go.Proofs.Yticpkoakbneefaa.Ab
set_option linter.unusedVariables false
set_option linter.unusedSimpArgs false
attribute [local simp] Gr.refl Gr.new Gr.set Gr.kill Nat.add_assoc r_cks chk wantG
variable {E : En Try.prog} {B : Int}
theorem of_ev (hT : E.T = T) (hB : B = 4294967296) {σ : St} {x : Int} (h0 : 0 ≤ x) (h1 : x < 18446744073709551616) : ∃ u τ, ev E 17 [.int .u64 x] σ = some (.ret u, τ) ∧ New σ τ u (cn B x) := by
  suffices h : ∃ u τ, run E false f17.res [.d f17.body] ⟨envOf [.int .u64 x], []⟩ σ = some (.ret u, τ) ∧ New σ τ u (cn B x) by
    obtain ⟨u, τ, h, k⟩ := h
    exact ⟨u, τ, ev_raw (fd := f17) (by rw [hT]; rfl) (by simp [f17]) rfl h, k⟩
  have w1 : IntKind.u32.wrap x = x % B := by rw [wrap_u32, hB]
  have w2 : x.fdiv (2 ^ min 32 IntKind.u64.bits) = x / B := by rw [fd32 x h0, hB]
  have w3 : IntKind.u32.wrap (x / B) = x / B := by rw [wrap_u32, hB]; omega
  obtain ⟨lo, hlo⟩ : ∃ y, y = x % B := ⟨_, rfl⟩
  obtain ⟨hi, hhi⟩ : ∃ y, y = x / B := ⟨_, rfl⟩
  rw [← hlo] at w1; rw [← hhi] at w2 w3
  have d : Dg B [lo, hi] := by
    intro y hy
    simp only [List.mem_cons, List.not_mem_nil, or_false] at hy
    subst hB
    rcases hy with rfl | rfl <;> omega
  have hv : vl B [lo, hi] = x := by simp [vl]; subst hB; omega
  obtain ⟨s1, hs1⟩ : ∃ s1, s1 = σ.new (.row 1 [[.int .u32 lo], [.int .u32 hi]]) := ⟨_, rfl⟩
  have hH : s1.H σ.n = some (.row 1 ([lo, hi].map nE)) := by rw [hs1]; simp [nE]
  have hnew := New.row (N := 2) hH rfl (show Gr σ s1 by rw [hs1]; exact (Gr.refl σ).new _) (Nat.le_refl _) (by rw [hs1]; simp)
  obtain ⟨u, τ, k1, k2⟩ := norm_ev hT hnew.rd (by simp)
  rw [tr_cn (B := B) (by omega) d, hv] at k2
  refine ⟨u, τ, ?_, k2.base hnew.gr⟩
  simp [f17, d17, w1, w2, w3, ← hs1, k1]
def tab25 : List UInt8 := [0, 1, 2, 2, 3, 3, 3, 3, 4, 4, 4, 4, 4, 4, 4, 4, 5, 5, 5, 5, 5, 5, 5, 5, 5, 5, 5, 5, 5, 5, 5, 5, 6, 6, 6, 6, 6, 6, 6, 6, 6, 6, 6, 6, 6, 6, 6, 6, 6, 6, 6, 6, 6, 6, 6, 6, 6, 6, 6, 6, 6, 6, 6, 6, 7, 7, 7, 7, 7, 7, 7, 7, 7, 7, 7, 7, 7, 7, 7, 7, 7, 7, 7, 7, 7, 7, 7, 7, 7, 7, 7, 7, 7, 7, 7, 7, 7, 7, 7, 7, 7, 7, 7, 7, 7, 7, 7, 7, 7, 7, 7, 7, 7, 7, 7, 7, 7, 7, 7, 7, 7, 7, 7, 7, 7, 7, 7, 7, 8, 8, 8, 8, 8, 8, 8, 8, 8, 8, 8, 8, 8, 8, 8, 8, 8, 8, 8, 8, 8, 8, 8, 8, 8, 8, 8, 8, 8, 8, 8, 8, 8, 8, 8, 8, 8, 8, 8, 8, 8, 8, 8, 8, 8, 8, 8, 8, 8, 8, 8, 8, 8, 8, 8, 8, 8, 8, 8, 8, 8, 8, 8, 8, 8, 8, 8, 8, 8, 8, 8, 8, 8, 8, 8, 8, 8, 8, 8, 8, 8, 8, 8, 8, 8, 8, 8, 8, 8, 8, 8, 8, 8, 8, 8, 8, 8, 8, 8, 8, 8, 8, 8, 8, 8, 8, 8, 8, 8, 8, 8, 8, 8, 8, 8, 8, 8, 8, 8, 8, 8, 8, 8, 8, 8, 8, 8, 8]
def D25 (L : List UInt8) : D := .seq (.reg [⟨some 2, none, .mv (.c (.int .i64 0))⟩]) (.kb [0, 2] (.seq (.seq (.reg [⟨some 3, none, .mv (.t 0)⟩,
  ⟨some 4, none, .bin .geq (.t 3) (.c (.int .u32 65536))⟩]) (.kb [0, 2, 4] (.cond (.t 4) (.seq (.reg [⟨some 5, none, .mv (.t 0)⟩,
  ⟨some 6, none, .bin .shr (.t 5) (.c (.int .u64 16))⟩,
  ⟨some 0, none, .mv (.t 6)⟩]) (.kb [0] (.reg [⟨some 2, none, .mv (.c (.int .i64 16))⟩]))) .skip))) (.kb [0, 2] (.seq (.seq (.reg [⟨some 7, none, .mv (.t 0)⟩,
  ⟨some 8, none, .bin .geq (.t 7) (.c (.int .u32 256))⟩]) (.kb [0, 2, 8] (.cond (.t 8) (.seq (.reg [⟨some 9, none, .mv (.t 0)⟩,
  ⟨some 10, none, .bin .shr (.t 9) (.c (.int .u64 8))⟩,
  ⟨some 0, none, .mv (.t 10)⟩]) (.kb [0, 2] (.reg [⟨some 11, none, .mv (.t 2)⟩,
  ⟨some 12, none, .bin .add (.t 11) (.c (.int .i64 8))⟩,
  ⟨some 2, none, .mv (.t 12)⟩]))) .skip))) (.kb [0, 2] (.seq (.reg [⟨some 13, none, .mv (.t 2)⟩,
  ⟨some 14, none, .mv (.t 0)⟩,
  ⟨some 15, none, .cvi .u8 (.t 14)⟩,
  ⟨some 16, none, .sx (.c (.str L)) (.t 15)⟩,
  ⟨some 17, none, .cvi .i64 (.t 16)⟩,
  ⟨some 18, none, .bin .add (.t 13) (.t 17)⟩,
  ⟨some 2, none, .mv (.t 18)⟩]) .ret))))))
theorem d25_eq : d25 = D25 tab25 := by kernel_rfl
theorem len_tab : ∀ b : Fin 256, tab25[b.1]?.map UInt8.toNat = some (Lib.bitLen b.1) := by decide +kernel
theorem len32_ev (hT : E.T = T) {σ : St} {x : Int} (h0 : 0 ≤ x) (h1 : x < 4294967296) : ev E 25 [.int .u32 x] σ = some (.ret (.int .i64 (Lib.bitLen x.toNat : Nat)), σ) := by
  refine ev_same (fd := f25) (o := .ret (.int .i64 (Lib.bitLen x.toNat : Nat))) (by rw [hT]; rfl) (by simp [f25]) rfl ?_ (by simp)
  have tab := fun (b : Nat) (h : b < 256) => len_tab ⟨b, h⟩
  rw [show f25.body = D25 tab25 from d25_eq, show f25.res = [.t 2] from rfl]
  generalize tab25 = L at *
  unfold D25
  have tl : ∀ b : Nat, b < 256 → ∃ c : UInt8, L[b]? = some c ∧ c.toNat = Lib.bitLen b ∧ Lib.bitLen b ≤ 8 := fun b hb => by
    have := tab b hb
    obtain ⟨c, e1, e2⟩ := Option.map_eq_some_iff.1 this
    exact ⟨c, e1, e2, Lib.bitLen_le8 ⟨b, hb⟩⟩
  have go : ∀ (y s : Int) (b : Nat), y = b → b < 256 → 0 ≤ s ∧ s ≤ 24 → ∃ c : UInt8, 0 ≤ IntKind.u8.wrap y ∧ L[(IntKind.u8.wrap y).toNat]? = some c ∧ IntKind.i64.wrap (s + IntKind.i64.wrap (c.toNat : Int)) = s + Lib.bitLen b := fun y s b e hb hs => by
    obtain ⟨c, e1, e2, e3⟩ := tl b hb
    have : IntKind.u8.wrap y = y := by simp [IntKind.wrap, IntKind.signed, IntKind.bits]; omega
    refine ⟨c, by omega, by rw [this, e]; exact e1, ?_⟩
    rw [e2, IntWalk.i64_in (Lib.bitLen b : Int) (by omega), IntWalk.i64_in _ (by omega)]
  clear tab tl
  have f16' : x.fdiv (2 ^ min 16 IntKind.u32.bits) = x / 65536 := by
    rw [show min 16 IntKind.u32.bits = 16 from by simp [IntKind.bits], Int.fdiv_eq_ediv_of_nonneg _ (by decide)]; rfl
  have f8' : ∀ z : Int, 0 ≤ z → z.fdiv (2 ^ min 8 IntKind.u32.bits) = z / 256 := fun z hz => by
    rw [show min 8 IntKind.u32.bits = 8 from by simp [IntKind.bits], Int.fdiv_eq_ediv_of_nonneg _ (by decide)]; rfl
  have w24 : IntKind.i64.wrap 24 = 24 := by decide
  by_cases a : (65536 : Int) ≤ x
  · by_cases b : (256 : Int) ≤ x / 65536
    · obtain ⟨c, c1, c2, c3⟩ := go (x / 65536 / 256) 24 (x.toNat / 16777216) (by omega) (by omega) (by omega)
      have s := Lib.bitLen_shift24 x.toNat (by omega) (by omega)
      have g8 := f8' (x / 65536) (by omega)
      have w8 : IntKind.i64.wrap 8 = 8 := by decide
      simp [a, b, f16', g8, c1, c2, c3, w24, s]
    · obtain ⟨c, c1, c2, c3⟩ := go (x / 65536) 16 (x.toNat / 65536) (by omega) (by omega) (by omega)
      have s := Lib.bitLen_shift16 x.toNat (by omega) (by omega)
      simp [a, b, f16', c1, c2, c3, s]
  · by_cases b : (256 : Int) ≤ x
    · obtain ⟨c, c1, c2, c3⟩ := go (x / 256) 8 (x.toNat / 256) (by omega) (by omega) (by omega)
      have s := Lib.bitLen_shift8 x.toNat (by omega) (by omega)
      have g8 := f8' x (by omega)
      have w8 : IntKind.i64.wrap 8 = 8 := by decide
      simp [a, b, g8, c1, c2, w8, c3, s]
    · obtain ⟨c, c1, c2, c3⟩ := go x 0 x.toNat (by omega) (by omega) (by omega)
      simp at c3
      simp [a, b, c1, c2, c3]
theorem bitlen_spec : ∀ (x : Nat), x < 2 ^ 64 → x < 2 ^ Lib.bitLen x ∧ (x ≠ 0 → 2 ^ Lib.bitLen x ≤ 2 * x) := by
  intro x
  induction x using Nat.strongRecOn with
  | _ x ih =>
    intro h
    by_cases h0 : x = 0
    · subst h0; exact ⟨by decide, fun h => absurd rfl h⟩
    · rw [Lib.bitLen_half x h0 h]
      obtain ⟨i1, i2⟩ := ih (x / 2) (by omega) (by omega)
      rw [Nat.pow_add]
      by_cases h1 : x / 2 = 0
      · have hx : x = 1 := by omega
        subst hx
        decide
      · have i3 := i2 h1
        generalize 2 ^ Lib.bitLen (x / 2) = p at *
        exact ⟨by omega, fun _ => by omega⟩
theorem lead_ev (hT : E.T = T) {σ : St} {x : Int} (h0 : 0 < x) (h1 : x < 4294967296) : ∃ n : Nat, n < 32 ∧ ev E 18 [.int .u32 x] σ = some (.ret (.int .i64 n), σ) ∧ x * 2 ^ n < 4294967296 := by
  obtain ⟨s1, s2⟩ := bitlen_spec x.toNat (by omega)
  have hle : Lib.bitLen x.toNat ≤ 32 := Lib.bitLen_le _ 32 (by omega) (by omega)
  have hpos : 1 ≤ Lib.bitLen x.toNat := by
    rcases Nat.eq_zero_or_pos (Lib.bitLen x.toNat) with h | h
    · rw [h] at s1; omega
    · exact h
  refine ⟨32 - Lib.bitLen x.toNat, by omega, ?_, ?_⟩
  · refine ev_same (fd := f18) (o := .ret (.int .i64 (32 - Lib.bitLen x.toNat : Nat))) (by rw [hT]; rfl) (by simp [f18]) rfl ?_ (by simp)
    have k := len32_ev hT (σ := σ) (by omega) h1
    have w : IntKind.i64.wrap (32 - (Lib.bitLen x.toNat : Int)) = ((32 - Lib.bitLen x.toNat : Nat) : Int) := by rw [IntWalk.i64_in _ (by omega)]; omega
    generalize Lib.bitLen x.toNat = y at *
    obtain ⟨z, hz⟩ : ∃ z, z = 32 - y := ⟨_, rfl⟩
    rw [← hz] at w ⊢
    simp [f18, d18, k, w]
  · have e : (4294967296 : Int) = 2 ^ Lib.bitLen x.toNat * 2 ^ (32 - Lib.bitLen x.toNat) := by
      rw [← Int.pow_add, show Lib.bitLen x.toNat + (32 - Lib.bitLen x.toNat) = 32 by omega]; rfl
    have hp := pow_pos' (show (0 : Int) < 2 by omega) (32 - Lib.bitLen x.toNat)
    have hx : x < 2 ^ Lib.bitLen x.toNat := by rw [pow2_nat]; omega
    have k1 := Int.mul_lt_mul_of_pos_right hx hp
    rw [← e] at k1
    exact k1
end Go.Proofs.Yticpkoakbneefaa
namespace Go.Proofs.Yticpkoakbneefaa
open Go.Proofs.Yticpkoakbneefaa.Ab
set_option linter.unusedVariables false
set_option linter.unusedSimpArgs false
attribute [local simp] Gr.refl Gr.new Gr.set Gr.kill Nat.add_assoc r_cks chk wantG
variable {B : Int}
/-- One limb of the quotient. -/
theorem div_round (hB : B = 4294967296) {σ : St} {vv : V} {l N : Nat} {u v : List Int} {i m : Nat} (hH : σ.H l = some (.row 1 (u.map nE))) (hvv : Nm σ vv v) (hbr : ∀ k, vv.row = some k → k ≠ l) (hN : u.length = N) (du : Dg B u) (dv : Dg B v) (hvn : v.length = m + 2) (hu : i + (m + 2) < u.length) (hul : N < 2 ^ 30) (hv1 : 0 < rd v ((m + 1 : Nat) : Int)) (hUV : vl B u < vl B v * (B ^ i * B)) :
    ∃ (x : Int) (b : Bool) (r : List Int) (τ : St), ev ET 20 [.slc l 0 N, .int .i64 i, vv] σ = some (.ret (.int .u64 x), σ) ∧ ev ET 21 [.slc l 0 N, .int .i64 i, .int .u64 x, vv] σ = some (.ret (.bool b), τ) ∧ Ch σ τ l r ∧ (0 ≤ x ∧ x < B) ∧
      (b = false → Dg B r ∧ r.length = u.length ∧ vl B u = x * (B ^ i * vl B v) + vl B r ∧ vl B r < B ^ i * vl B v) ∧
      (b = true → 1 ≤ x ∧ ∃ r' τ', ev ET 22 [.slc l 0 N, .int .i64 i, vv] τ = some (.ret (.tup []), τ') ∧ Ch τ τ' l r' ∧ Dg B r' ∧ r'.length = u.length ∧ vl B u = (x - 1) * (B ^ i * vl B v) + vl B r' ∧ vl B r' < B ^ i * vl B v) := by
  have hB0 : 0 < B := by rw [hB]; decide
  have hVm := vl_lt hB0 dv
  have hPi := pow_pos' hB0 i
  have hPm := pow_pos' hB0 m
  have hz : vl B (u.drop (i + m + 3)) = 0 := by
    refine high_zero hB0 du (Int.lt_of_lt_of_le hUV ?_)
    have k1 := Int.mul_le_mul_of_nonneg_right (Int.le_of_lt hVm) (Int.le_of_lt (Int.mul_pos hPi hB0))
    rw [hvn] at k1
    have k2 : B ^ (m + 2) * (B ^ i * B) = B ^ (i + m + 3) := by rw [← Int.pow_succ, ← Int.pow_add]; congr 1; omega
    rw [k2] at k1
    exact k1
  have hV0 : 0 < vl B v := by
    have h0 := vl_nonneg (Int.le_of_lt hB0) dv
    obtain ⟨lo, l1, l2, l3⟩ := top2 hB0 dv hvn.symm
    have h1 := dv.place hB0 (m : Int)
    have h2 : 0 < B ^ m * (rd v ((m + 1 : Nat) : Int) * B + rd v (m : Int)) := Int.mul_pos hPm (Int.add_pos_of_pos_of_nonneg (Int.mul_pos hv1 hB0) h1.1)
    rw [l3]; exact Int.add_pos_of_nonneg_of_pos l1 h2
  obtain ⟨lo, l1, l2, l3⟩ := top3 hB0 du (m := i + m) (by omega) hz
  obtain ⟨lo', l1', l2', l3'⟩ := top2 hB0 dv hvn.symm
  have hu0 := du.place hB0 ((i + m + 2 : Nat) : Int)
  have hu1 := du.place hB0 ((i + m + 1 : Nat) : Int)
  have hu2 := du.place hB0 ((i + m : Nat) : Int)
  have hv2 := dv.place hB0 (m : Int)
  have epow : B ^ (i + m) = B ^ i * B ^ m := Int.pow_add _ _ _
  rw [epow] at l2 l3
  have h01 : rd u ((i + m + 2 : Nat) : Int) ≤ rd v ((m + 1 : Nat) : Int) := by
    refine claimC (R := 0) hB0 hPi hPm ?_ l3' l2' hv2.2 hUV
    have k1 : 0 ≤ B ^ i * B ^ m * (rd u ((i + m + 1 : Nat) : Int) * B + rd u ((i + m : Nat) : Int)) := Int.mul_nonneg (Int.le_of_lt (Int.mul_pos hPi hPm)) (Int.add_nonneg (Int.mul_nonneg hu1.1 (Int.le_of_lt hB0)) hu2.1)
    have k2 : vl B u = lo + B ^ i * B ^ m * (rd u ((i + m + 1 : Nat) : Int) * B + rd u ((i + m : Nat) : Int)) + B ^ i * B ^ m * B * B * rd u ((i + m + 2 : Nat) : Int) := by
      rw [l3]
      generalize rd u ((i + m + 2 : Nat) : Int) = x
      generalize rd u ((i + m + 1 : Nat) : Int) = y
      generalize rd u ((i + m : Nat) : Int) = z
      grind
    rw [k2]
    exact Int.le_add_of_nonneg_left (Int.add_nonneg l1 k1)
  obtain ⟨x, gx, x0, xB, g1, g2⟩ := guess_ev hB (row_nm hH hN.symm) hvv (u := u) (v := v) (j := i) (n := m + 2) du dv (by omega) hvn (by omega) (by omega) rfl rfl rfl rfl rfl hv1 h01
  have hA := claimA hB0 hPi hPm l3 l1 l3' l1' l2' hv1 hv2.1 x0 xB g1
  have hBb := claimB hPi hPm l3 l2 l3' l1' x0 hV0 hUV g2
  clear g1 g2 h01 l3 l3' l2 l2' l1 l1' hu0 hu1 hu2 hv2 epow hUV hVm
  obtain ⟨b, r, τ, e1, ec, e2, e3, e4, e5⟩ := lower_ev hB hH hvv hbr ⟨x0, xB⟩ du dv hN (j := i) (by omega) hul
  have hnn : i + v.length + 1 = i + m + 3 := by omega
  rw [hnn] at e4 e5
  have hr := low_all hB0 e2 (m := i + m + 3) (by rw [e4]; exact hz)
  have hU0 := vl_nonneg (Int.le_of_lt hB0) du
  have hPV := Int.mul_pos hPi hV0
  obtain ⟨c', r', τ', f1, fc, f2, f3, f4, f5, f6⟩ := raise_ev hB ec.row (ec.nm hvv hbr) hbr (u := r) (j := i) (v := v) e2 dv (by rw [e3, hN]) (by omega) hul
  rw [hnn] at f4 f6
  refine ⟨x, b, r, τ, gx, e1, ec, ⟨x0, xB⟩, fun hb => ?_, fun hb => ?_⟩
  · subst hb
    refine ⟨e2, e3, ?_, ?_⟩
    · clear hA hBb f6; generalize x * (B ^ i * vl B v) = Z at *; simp at e5; omega
    · clear hA f6; generalize x * (B ^ i * vl B v) = Z at *; simp at e5; omega
  · subst hb
    simp only [if_true, Int.mul_one] at e5
    have x1 : 1 ≤ x := by
      rcases (show x = 0 ∨ 1 ≤ x by clear hA hBb f6 e5; omega) with h | h
      · subst h
        rw [Int.zero_mul] at e5
        clear hA hBb f6; omega
      · exact h
    refine ⟨x1, ?_⟩
    have hr' := low_all hB0 f2 (m := i + m + 3) (by rw [f4, e4]; exact hz)
    have f3' : r'.length = u.length := by rw [f3]; exact e3
    have hc' : c' = 1 := by
      rcases (show c' = 0 ∨ c' = 1 by clear hA hBb e5 f6; omega) with h | h
      · exfalso
        rw [h, Int.mul_zero] at f6
        clear e4 f4 hBb
        generalize x * (B ^ i * vl B v) = Z at *
        generalize B ^ i * vl B v = Y at *
        omega
      · exact h
    rw [hc', Int.mul_one] at f6
    have ex : (x - 1) * (B ^ i * vl B v) = x * (B ^ i * vl B v) - B ^ i * vl B v := by rw [Int.sub_mul, Int.one_mul]
    refine ⟨r', τ', f1, fc, f2, f3', ?_, ?_⟩
    · rw [ex]
      clear hA hBb ex
      generalize x * (B ^ i * vl B v) = Z at *
      generalize B ^ i * vl B v = Y at *
      omega
    · clear ex hBb
      generalize x * (B ^ i * vl B v) = Z at *
      generalize B ^ i * vl B v = Y at *
      omega
def DmQ (B : Int) (σ0 : St) (lq lu Nq N s : Nat) (V0 U : Int) (f' : Fr) (σ' : St) : Prop := ∃ q u : List Int, q.length = Nq ∧ u.length = N ∧ Dg B q ∧ Dg B u ∧ U = V0 * vl B q + vl B u ∧ vl B u < V0 ∧ Gr σ0 σ' ∧ σ'.H lq = some (.row 1 (q.map nE)) ∧ σ'.H lu = some (.row 1 (u.map nE)) ∧ lq < σ'.n ∧ lu < σ'.n ∧
  f'.ds = [] ∧ f'.env 4 = .slc lq 0 Nq ∧ f'.env 9 = .int .u64 s ∧ f'.env 10 = .slc lu 0 N
theorem dm_val {U P V Q Z Q' d z : Int} (hU : U = V * (P * B * Q) + Z) (he : Z = d * (P * V) + z) (hq : Q' = d + B * Q) : U = V * (P * Q') + z := by
  subst hq he hU; grind
set_option maxHeartbeats 400000 in
theorem dm_loop (hB : B = 4294967296) {σ0 : St} {vv : V} {v : List Int} {m : Nat} (dv : Dg B v) (hvn : v.length = m + 2) (hv1 : 0 < rd v ((m + 1 : Nat) : Int)) {s N Nq lq lu : Nat} (hul : N < 2 ^ 29) (hql : Nq < 2 ^ 29) (hbu : ∀ k, vv.row = some k → k ≠ lu) (hbq : ∀ k, vv.row = some k → k ≠ lq) (hne : lq ≠ lu) (hq0 : σ0.n ≤ lq) (hu0 : σ0.n ≤ lu) (U : Int) {dd : Bool} {rs : List RC} {st : List SE} {B0 : D} (hB0 : B0 = b8_0) :
    ∀ (i : Nat) (qs u : List Int) (f : Fr) (σ : St), i + qs.length = Nq → u.length = N → i + (m + 2) ≤ N → Dg B qs → Dg B u → Hid (U = vl B v * (B ^ i * vl B qs) + vl B u) → Hid (vl B u < B ^ i * vl B v) → Gr σ0 σ → Nm σ vv v → σ.H lq = some (.row 1 ((List.replicate i 0 ++ qs).map nE)) → σ.H lu = some (.row 1 (u.map nE)) → lq < σ.n → lu < σ.n →
      f.ds = [] → f.env 4 = .slc lq 0 Nq → f.env 9 = .int .u64 s → f.env 10 = .slc lu 0 N → f.env 11 = vv → f.env 12 = .int .i64 ((i : Int) - 1) →
      Lands ET dd rs st (DmQ B σ0 lq lu Nq N s (vl B v) U) (run ET dd rs (.d (.loop [4, 9, 10, 11, 12] B0) :: .blk 1 :: st) f σ)
  | 0, qs, u, f, σ, hi, hu, him, dq, du, hU, hlt, hg, hvv, hHq, hHu, hqn, hun, hd, e4, e9, e10, e11, e12 => by
    have hU := hU.out
    have hlt := hlt.out
    rw [Int.pow_zero, Int.one_mul] at hU hlt
    rw [r_loopU hB0]
    simp [b8_0, hd, e4, e9, e10, e11, e12]
    exact .here ⟨qs, u, by omega, hu, dq, du, hU, hlt, hg, by simpa using hHq, hHu, hqn, hun, by simp, by simp, by simp, by simp⟩
  | i + 1, qs, u, f, σ, hi, hu, him, dq, du, hU, hlt, hg, hvv, hHq, hHu, hqn, hun, hd, e4, e9, e10, e11, e12 => by
    have hPi : B ^ (i + 1) = B ^ i * B := Int.pow_succ _ _
    obtain ⟨x, b, r, τ, g1, g2, gc, g3, g4, g5⟩ := div_round hB hHu hvv hbu hu du dv hvn (i := i) (m := m) (by omega) (by omega) hv1 (by
      have := hlt.out; rw [hPi, Int.mul_comm] at this; exact this)
    have hB0' : 0 < B := by omega
    have ei : (((i + 1 : Nat) : Int) - 1) = (i : Int) := by omega
    rw [ei] at e12
    have wi : IntKind.i64.wrap ((i : Int) - 1) = (i : Int) - 1 := IntWalk.i64_in _ (by omega)
    have wd : ∀ d : Int, 0 ≤ d → d < B → IntKind.u32.wrap d = d := fun d h h' => by rw [wrap_u32, ← hB]; exact Int.emod_eq_of_lt h h'
    have hXl : (List.replicate (i + 1) (0 : Int) ++ qs).length = Nq := by simp; omega
    -- what a round leaves
    have next : ∀ (d : Int) (u' : List Int) (σ' : St), 0 ≤ d → d < B → Dg B u' → u'.length = u.length → Hid (vl B u = d * (B ^ i * vl B v) + vl B u') → vl B u' < B ^ i * vl B v → Ch σ σ' lu u' →
        iaV σ' 1 (.slc lq 0 Nq) (.int .i64 i) = some (.ptr lq i 0) ∧ ∃ X : List Int, stV σ' 1 (.ptr lq i 0) (.int .u32 d) = some (σ'.set lq (.row 1 (X.map nE))) ∧ ∀ f : Fr, f.ds = [] → f.env 4 = .slc lq 0 Nq → f.env 9 = .int .u64 s → f.env 10 = .slc lu 0 N → f.env 11 = vv → f.env 12 = .int .i64 ((i : Int) - 1) →
        Lands ET dd rs st (DmQ B σ0 lq lu Nq N s (vl B v) U) (run ET dd rs (.d (.loop [4, 9, 10, 11, 12] B0) :: .blk 1 :: st) f (σ'.set lq (.row 1 (X.map nE)))) := by
      intro d u' σ' d0 dB du' hl he hlt' hc
      have hq' : σ'.H lq = some (.row 1 ((List.replicate (i + 1) 0 ++ qs).map nE)) := by rw [hc.H lq hne]; exact hHq
      refine ⟨row_at hq' hXl.symm (by omega), (List.replicate (i + 1) 0 ++ qs).set i d, row_st hq' (by omega) d, fun f a0 a1 a2 a3 a4 a5 => ?_⟩
      have eset : (List.replicate (i + 1) (0 : Int) ++ qs).set i d = List.replicate i 0 ++ ([d] ++ qs) := by
        rw [List.replicate_succ', List.append_assoc, List.set_append_right _ _ (by simp)]; simp
      rw [eset]
      have hvv' := hc.nm hvv hbu
      refine dm_loop hB dv hvn hv1 hul hql hbu hbq hne hq0 hu0 U hB0 i ([d] ++ qs) u' f _ (by simp; omega) (by omega) (by omega) (Dg.app (.one d0 dB) dq) du' ⟨?_⟩ ⟨hlt'⟩ ((hc.gr hg hu0).set hq0 _) ((Ch.set (σ := σ') (l := lq) (List.replicate i 0 ++ ([d] ++ qs))).nm hvv' hbq) (by simp) (by simp [Ne.symm hne, hc.row]) (by simp [hc.n, hqn]) (by simp [hc.n, hun]) a0 a1 a2 a3 a4 a5
      have hU := hU.out
      have he := he.out
      rw [hPi] at hU
      exact dm_val hU he (by rw [vl_app, vl_one]; simp only [List.length_singleton, Int.pow_one])
    rw [r_loopU hB0]
    cases b with
    | false =>
      obtain ⟨h2, h3, h4, h5⟩ := g4 rfl
      obtain ⟨k1, X, k2, k3⟩ := next x r τ g3.1 g3.2 h2 h3 ⟨h4⟩ h5 gc
      have w := wd x g3.1 g3.2
      clear next hU hlt g4 g5 h4 h5
      simp [b8_0, hd, e4, e9, e10, e11, e12, g1, g2, w, k1, k2, wi, -stV_ptr]
      exact k3 _ (by simp) (by simp) (by simp) (by simp) (by simp) (by simp)
    | true =>
      obtain ⟨x1, r', τ', f1, fc, h2, h3, h4, h5⟩ := g5 rfl
      obtain ⟨k1, X, k2, k3⟩ := next (x - 1) r' τ' (by omega) (by omega) h2 h3 ⟨h4⟩ h5 (gc.trans fc)
      have w := wd (x - 1) (by omega) (by omega)
      have w2 : IntKind.u64.wrap (x - 1) = x - 1 := u64id (by omega) (by omega)
      clear next hU hlt g4 g5 h4 h5
      simp [b8_0, hd, e4, e9, e10, e11, e12, g1, g2, f1, w, w2, k1, k2, wi, -stV_ptr]
      exact k3 _ (by simp) (by simp) (by simp) (by simp) (by simp) (by simp)
end Go.Proofs.Yticpkoakbneefaa
