/-
The walk over the program's texts, told with what its values say: a part of it. No further condition.
-/
import Derived.Test.YticpkoakbneefaaAbNuH
namespace Go.Proofs.Yticpkoakbneefaa
open Go.Proofs.Yticpkoakbneefaa.Ab
set_option linter.unusedVariables false
set_option linter.unusedSimpArgs false
attribute [local simp] Gr.refl Gr.new Gr.set Gr.kill Nat.add_assoc r_cks chk wantG
variable {B : Int}
theorem low_n {x : Int} (hx : 0 ≤ x ∧ x < 18446744073709551616) : IntKind.u64.wrap ↑((x % 2 ^ IntKind.u64.bits).toNat &&& 4294967295 % 2 ^ IntKind.u64.bits) = x % 4294967296 := by
  have e : (2 : Int) ^ IntKind.u64.bits = 18446744073709551616 := by simp [IntKind.bits]
  have e2 : 4294967295 % 2 ^ IntKind.u64.bits = 2 ^ 32 - 1 := by simp [IntKind.bits]
  rw [e, e2, Int.emod_eq_of_lt (by omega) (by omega), Nat.and_two_pow_sub_one_eq_mod, wrap_u64]
  omega
theorem fd63 (z : Int) (hz : 0 ≤ z) : z.fdiv (2 ^ min 63 IntKind.u64.bits) = z / 9223372036854775808 := by
  rw [show min 63 IntKind.u64.bits = 63 from by simp [IntKind.bits], Int.fdiv_eq_ediv_of_nonneg _ (by decide)]; rfl
def LoQ (B : Int) (σ : St) (l : Nat) (u v : List Int) (j : Nat) (q : Int) (r : Option (CO × St)) : Prop := ∃ (b : Bool) (x : List Int) (τ : St), r = some (.ret (.bool b), τ) ∧ Ch σ τ l x ∧ Dg B x ∧ x.length = u.length ∧ x.drop (j + v.length + 1) = u.drop (j + v.length + 1) ∧ vl B x = vl B u - q * (B ^ j * vl B v) + B ^ (j + v.length + 1) * (if b then 1 else 0)
def X21 : D := tlD (tlD (tlD d21))
set_option maxHeartbeats 1000000 in
theorem lower_loop (hB : B = 4294967296) (u : List Int) {j l N : Nat} {q : Int} {vv : V} {v : List Int} (hq : 0 ≤ q ∧ q < B) (dv : Dg B v) (hN : u.length = N) (hu : j + v.length < N) (hul : N < 2 ^ 30) (hbr : ∀ k, vv.row = some k → k ≠ l) {B0 : D} (hB0 : B0 = b21_0) :
    ∀ (m i : Nat) (x : List Int) (bo ca : Int) (f : Fr) (σ : St), i + m = v.length → x.length = u.length → Dg B x → x.drop (j + v.length + 1) = u.drop (j + v.length + 1) → (0 ≤ bo ∧ bo ≤ 1) → (0 ≤ ca ∧ ca < B) → Hid (vl B x - B ^ (i + j) * (bo + ca) = vl B u - q * (B ^ j * vl B (v.take i))) → Nm σ vv v → σ.H l = some (.row 1 (x.map nE)) →
      f.ds = [] → f.env 0 = .slc l 0 N → f.env 1 = .int .i64 j → f.env 2 = .int .u64 q → f.env 3 = vv → f.env 9 = .int .u64 bo → f.env 10 = .int .u64 ca → f.env 16 = vv → f.env 17 = .int .i64 v.length → f.env 18 = .int .i64 i →
      LoQ B σ l u v j q (run ET false [.t 8] (.d (.loop [0, 1, 2, 3, 9, 10, 16, 17, 18] B0) :: .blk 0 :: [.d (.kb [0, 1, 3, 9, 10] X21)]) f σ)
  | 0, i, x, bo, ca, f, σ, hi, hx, dx, hdr, hbo, hca, hv, hvv, hH, hd, e0, e1, e2, e3, e9, e10, e16, e17, e18 => by
    have hr := dx.place (show 0 < B by omega) ((j + v.length : Nat) : Int)
    obtain ⟨u', b', k1, k2, k3, h4, h5⟩ := lower_diff (r := rd x ((j + v.length : Nat) : Int)) (m := ca) (b := bo) (by omega) (by omega) hbo
    obtain ⟨k, hk⟩ : ∃ k, k = j + v.length := ⟨_, rfl⟩
    have hi' : ¬ i < v.length := by omega
    have w1 : IntKind.i64.wrap ((j : Int) + v.length) = (k : Int) := by rw [IntWalk.i64_in _ (by omega)]; omega
    rw [← hk] at k1 k2 k3 hr
    have i1 : iaV σ 1 (.slc l 0 N) (.int .i64 k) = some (.ptr l k 0) := row_at hH (by omega) (by omega)
    have l1 := row_ld hH (i := k) (by omega)
    have w2 : IntKind.u64.wrap (rd x k) = rd x k := u64id (by omega) (by omega)
    obtain ⟨y, hy⟩ : ∃ y, y = rd x k := ⟨_, rfl⟩
    rw [← hy] at k1 k2 k3 hr l1 w2
    obtain ⟨a, ha⟩ : ∃ a, a = IntKind.u64.wrap (y - ca) := ⟨_, rfl⟩
    obtain ⟨dd, hdd⟩ : ∃ a, a = IntKind.u64.wrap (IntKind.u64.wrap (y - ca) - bo) := ⟨_, rfl⟩
    have k1 := k1.out
    have k2 := k2.out
    rw [← hdd] at k1 k2
    rw [← ha] at hdd
    have hd0 : 0 ≤ dd := by rw [hdd, wrap_u64]; omega
    have w3 : IntKind.u32.wrap dd = u' := by rw [wrap_u32, k1]
    have w4 : dd.fdiv (2 ^ min 63 IntKind.u64.bits) = b' := by rw [fd63 dd hd0, k2]
    have s1 := row_st hH (i := k) (by omega) u'
    rw [r_loopU hB0]
    refine ⟨decide (b' = 1), x.set k u', σ.set l (.row 1 ((x.set k u').map nE)), ?_, Ch.set _, dx.set h4.1 (by omega), by simpa using hx, ?_, ?_⟩
    · simp [b21_0, hd, e0, e1, e2, e3, e9, e10, e16, e17, e18, hi', X21, tlD, d21, hvv.len, w1, i1, l1, w2, ← ha, ← hdd, w3, w4, s1, -stV_ptr, -ldV_ptr]
    · rw [List.drop_set_of_lt (by omega)]; exact hdr
    · rw [vl_set x k u' (by omega), ← hy]
      have ei : i + j = k := by omega
      have et : v.take i = v := List.take_of_length_le (by omega)
      replace hv := hv.out
      rw [et, ei] at hv
      rw [← hk, Int.pow_succ]
      have hb : (if (decide (b' = 1)) = true then (1 : Int) else 0) = b' := by
        rcases (show b' = 0 ∨ b' = 1 by omega) with rfl | rfl <;> simp
      rw [hb]
      rw [← hB] at k3
      clear hb hr h4 h5 w1 w2 w3 w4 k1 k2 hd0 hdd ha i1 l1 s1 hH
      generalize B ^ k = P at *
      generalize vl B x = V at *
      generalize q * (B ^ j * vl B v) = Q at *
      generalize vl B u = U at *
      grind
  | m + 1, i, x, bo, ca, f, σ, hi, hx, dx, hdr, hbo, hca, hv, hvv, hH, hd, e0, e1, e2, e3, e9, e10, e16, e17, e18 => by
    have hB0' : 0 < B := by omega
    have hix : i + j < x.length := by omega
    have hij : i + 1 + j = (i + j) + 1 := by omega
    have hiv : i < v.length := by omega
    have hr := dx.place hB0' ((i + j : Nat) : Int)
    have hy := dv.place hB0' (i : Int)
    have i0 := hvv.at (k := .i64) hiv
    have l0 := hvv.ld hiv
    obtain ⟨k, hk⟩ : ∃ k, k = i + j := ⟨_, rfl⟩
    have i1 : iaV σ 1 (.slc l 0 N) (.int .i64 k) = some (.ptr l k 0) := row_at hH (by omega) (by omega)
    have l1 := row_ld hH (i := k) (by omega)
    have w1 : IntKind.i64.wrap ((i : Int) + j) = (k : Int) := by rw [IntWalk.i64_in _ (by omega)]; omega
    have w0 : IntKind.i64.wrap ((i : Int) + 1) = ((i + 1 : Nat) : Int) := by rw [IntWalk.i64_in _ (by omega)]; omega
    obtain ⟨⟨a1, a2⟩, a3, a4⟩ := lower_limb hB hq hy hca
    have hm := Int.emod_add_mul_ediv (q * rd v i + ca) B
    have hm0 := Int.emod_nonneg (q * rd v i + ca) (Int.ne_of_gt hB0')
    have hm1 := Int.emod_lt_of_pos (q * rd v i + ca) hB0'
    rw [← hk] at hr hix hij
    obtain ⟨u', b', k1, k2, k3, h4, h5⟩ := lower_diff (r := rd x (k : Int)) (m := (q * rd v i + ca) % B) (b := bo) ⟨hr.1, Int.lt_of_lt_of_le hr.2 (Int.le_of_eq hB)⟩ ⟨hm0, Int.lt_of_lt_of_le hm1 (Int.le_of_eq hB)⟩ hbo
    rw [← hB] at k3 h4
    have hs : vl B (x.set k u') - B ^ (i + 1 + j) * (b' + (q * rd v i + ca) / B) = vl B u - q * (B ^ j * vl B (v.take (i + 1))) := by
      rw [vl_set x k _ hix, vl_take_succ, hij, Int.pow_succ]
      have h2 : B ^ k = B ^ j * B ^ i := by rw [hk, Nat.add_comm]; exact Int.pow_add _ _ _
      have hv' := hv.out
      rw [← hk] at hv'
      have hs := lower_step (B := B) (y := rd v i) (r := rd x (k : Int)) (u' := u') (bo' := b') (ca' := (q * rd v i + ca) / B) hv' rfl hm k3
      rw [hs, h2, Int.mul_assoc, ← Int.mul_add]
    have hdr' : (x.set k u').drop (j + v.length + 1) = u.drop (j + v.length + 1) := by rw [List.drop_set_of_lt (by clear hs hm k1 k2 k3; omega)]; exact hdr
    have hBs : B ≤ 18446744073709551616 := by rw [hB]; decide
    have ih := fun f => lower_loop (l := l) (N := N) hB u hq dv hN hu hul hbr hB0 m (i + 1) (x.set k u') b' ((q * rd v i + ca) / B) f (σ.set l (.row 1 ((x.set k u').map nE))) (by clear hs hm k1 k2 k3; omega) (by simpa using hx) (dx.set h4.1 h4.2) hdr' h5 ⟨a3, a4⟩ ⟨hs⟩ ((Ch.set _).nm hvv hbr) (by simp)
    have s1 := row_st hH (i := k) hix u'
    generalize hyy : rd v i = y at *
    generalize hz : rd x k = z at *
    have w2 : IntKind.u64.wrap y = y := u64id hy.1 (Int.lt_of_lt_of_le hy.2 hBs)
    have w3 : IntKind.u64.wrap z = z := u64id hr.1 (Int.lt_of_lt_of_le hr.2 hBs)
    have w4 : IntKind.u64.wrap (q * y) = q * y := u64id a1 (Int.lt_of_le_of_lt (Int.le_add_of_nonneg_right hca.1) a2)
    have w5 : IntKind.u64.wrap (q * y + ca) = q * y + ca := u64id (Int.add_nonneg a1 hca.1) a2
    have ht0 : 0 ≤ q * y + ca := Int.add_nonneg a1 hca.1
    generalize hp : q * y = p at *
    generalize ht : p + ca = t at *
    have w6 : t.fdiv (2 ^ min 32 IntKind.u64.bits) = t / B := by rw [fd32 t ht0, hB]
    have w7 : IntKind.u64.wrap ↑((t % 2 ^ IntKind.u64.bits).toNat &&& 4294967295 % 2 ^ IntKind.u64.bits) = t % B := by rw [low_n ⟨ht0, a2⟩, hB]
    generalize htm : t % B = tm at *
    generalize htd : t / B = td at *
    have k1 := k1.out
    have k2 := k2.out
    obtain ⟨a, ha⟩ : ∃ a, a = IntKind.u64.wrap (z - tm) := ⟨_, rfl⟩
    obtain ⟨dd, hdd⟩ : ∃ a, a = IntKind.u64.wrap (IntKind.u64.wrap (z - tm) - bo) := ⟨_, rfl⟩
    rw [← hdd] at k1 k2
    rw [← ha] at hdd
    have hd0 : 0 ≤ dd := by rw [hdd, wrap_u64]; omega
    have w8 : IntKind.u32.wrap dd = u' := by rw [wrap_u32, k1]
    have w9 : dd.fdiv (2 ^ min 63 IntKind.u64.bits) = b' := by rw [fd63 dd hd0, k2]
    obtain ⟨R, hR⟩ : ∃ R, R = x.set k u' := ⟨_, rfl⟩
    simp only [← hR] at ih s1
    obtain ⟨i', hi'⟩ : ∃ k, k = i + 1 := ⟨_, rfl⟩
    simp only [← hi'] at w0 ih
    have fin : ∀ f : Fr, f.ds = [] → f.env 0 = .slc l 0 N → f.env 1 = .int .i64 j → f.env 2 = .int .u64 q → f.env 3 = vv → f.env 9 = .int .u64 b' → f.env 10 = .int .u64 td → f.env 16 = vv → f.env 17 = .int .i64 v.length → f.env 18 = .int .i64 i' → LoQ B σ l u v j q (run ET false [.t 8] (.d (.loop [0, 1, 2, 3, 9, 10, 16, 17, 18] B0) :: .blk 0 :: [.d (.kb [0, 1, 3, 9, 10] X21)]) f (σ.set l (.row 1 (R.map nE)))) := fun f z0 z1 z2 z3 z4 z5 z6 z7 z8 z9 => by
      obtain ⟨b, xx, τ, y1, y2, y3⟩ := ih f z0 z1 z2 z3 z4 z5 z6 z7 z8 z9
      exact ⟨b, xx, τ, y1, (Ch.set R).trans y2, y3⟩
    clear ih
    rw [r_loopU hB0]
    simp [b21_0, hd, e0, e1, e2, e3, e9, e10, e16, e17, e18, hiv, i0, l0, i1, l1, w0, w1, w2, w3, hp, w4, ht, w5, w6, w7, ← ha, ← hdd, w8, w9, s1, -stV_ptr, -ldV_ptr]
    exact fin _ (by simp) (by simp) (by simp) (by simp) (by simp) (by simp) (by simp) (by simp) (by simp) (by simp)
theorem lower_ev (hB : B = 4294967296) {σ : St} {u : List Int} {j l N : Nat} {q : Int} {vv : V} {v : List Int} (hH : σ.H l = some (.row 1 (u.map nE))) (hvv : Nm σ vv v) (hbr : ∀ k, vv.row = some k → k ≠ l) (hq : 0 ≤ q ∧ q < B) (du : Dg B u) (dv : Dg B v) (hN : u.length = N) (hu : j + v.length < N) (hul : N < 2 ^ 30) :
    LoQ B σ l u v j q (ev ET 21 [.slc l 0 N, .int .i64 j, .int .u64 q, vv] σ) := by
  suffices h : LoQ B σ l u v j q (run ET false f21.res [.d f21.body] ⟨envOf [.slc l 0 N, .int .i64 j, .int .u64 q, vv], []⟩ σ) by
    obtain ⟨b, x, τ, h, k⟩ := h
    exact ⟨b, x, τ, ev_raw (fd := f21) rfl (by simp [f21]) rfl h, k⟩
  have k := fun f => lower_loop (l := l) (N := N) hB u hq dv hN hu hul hbr rfl v.length 0 u 0 0 f σ (by omega) rfl du rfl (by omega) (by omega) ⟨by simp [vl]⟩ hvv hH
  have hX : f21.body = subD 3 d21 X21 := rfl
  rw [hX]
  simp [f21, d21, subD, hvv.len]
  exact k _ (by simp) (by simp) (by simp) (by simp) (by simp) (by simp) (by simp) (by simp) (by simp) (by simp)
end Go.Proofs.Yticpkoakbneefaa
namespace Go.Proofs.Yticpkoakbneefaa
open Go.Proofs.Yticpkoakbneefaa.Ab
set_option linter.unusedVariables false
set_option linter.unusedSimpArgs false
attribute [local simp] Gr.refl Gr.new Gr.set Gr.kill Nat.add_assoc r_cks chk wantG
variable {B : Int}
def RaQ (B : Int) (σ : St) (l : Nat) (u v : List Int) (j : Nat) (r : Option (CO × St)) : Prop := ∃ (c' : Int) (x : List Int) (τ : St), r = some (.ret (.tup []), τ) ∧ Ch σ τ l x ∧ Dg B x ∧ x.length = u.length ∧ x.drop (j + v.length + 1) = u.drop (j + v.length + 1) ∧ (0 ≤ c' ∧ c' ≤ 1) ∧ vl B x = vl B u + B ^ j * vl B v - B ^ (j + v.length + 1) * c'
def X22 : D := tlD (tlD d22)
theorem raise_loop (hB : B = 4294967296) (u : List Int) {j l N : Nat} {vv : V} {v : List Int} (dv : Dg B v) (hN : u.length = N) (hu : j + v.length < N) (hul : N < 2 ^ 30) (hbr : ∀ k, vv.row = some k → k ≠ l) {B0 : D} (hB0 : B0 = b22_0) :
    ∀ (m i : Nat) (x : List Int) (c : Int) (f : Fr) (σ : St), i + m = v.length → x.length = u.length → Dg B x → x.drop (j + v.length + 1) = u.drop (j + v.length + 1) → (0 ≤ c ∧ c ≤ 1) → Hid (vl B x + B ^ (i + j) * c = vl B u + B ^ j * vl B (v.take i)) → Nm σ vv v → σ.H l = some (.row 1 (x.map nE)) →
      f.ds = [] → f.env 0 = .slc l 0 N → f.env 1 = .int .i64 j → f.env 2 = vv → f.env 6 = .int .u32 c → f.env 9 = vv → f.env 10 = .int .i64 v.length → f.env 11 = .int .i64 i →
      RaQ B σ l u v j (run ET false [] (.d (.loop [0, 1, 2, 6, 9, 10, 11] B0) :: .blk 0 :: [.d (.kb [0, 1, 2, 6] X22)]) f σ)
  | 0, i, x, c, f, σ, hi, hx, dx, hdr, hc, hv, hvv, hH, hd, e0, e1, e2, e6, e9, e10, e11 => by
    have hr := dx.place (show 0 < B by omega) ((j + v.length : Nat) : Int)
    obtain ⟨k, hk⟩ : ∃ k, k = j + v.length := ⟨_, rfl⟩
    rw [← hk] at hr
    have hi' : ¬ i < v.length := by omega
    have w1 : IntKind.i64.wrap ((j : Int) + v.length) = (k : Int) := by rw [IntWalk.i64_in _ (by omega)]; omega
    have i1 : iaV σ 1 (.slc l 0 N) (.int .i64 k) = some (.ptr l k 0) := row_at hH (by omega) (by omega)
    have l1 := row_ld hH (i := k) (by omega)
    have w2 : IntKind.u32.wrap (rd x k + c) = (rd x k + c) % B := by rw [wrap_u32, hB]
    have s1 := row_st hH (i := k) (by omega) ((rd x k + c) % B)
    have hm0 : 0 ≤ (rd x k + c) % B ∧ (rd x k + c) % B < B := by subst hB; omega
    have hc1 : 0 ≤ (rd x k + c) / B ∧ (rd x k + c) / B ≤ 1 := by subst hB; omega
    rw [r_loopU hB0]
    refine ⟨(rd x k + c) / B, x.set k ((rd x k + c) % B), σ.set l (.row 1 ((x.set k ((rd x k + c) % B)).map nE)), ?_, Ch.set _, dx.set hm0.1 hm0.2, by simpa using hx, ?_, hc1, ?_⟩
    · obtain ⟨q, hq⟩ : ∃ q, q = (rd x k + c) % B := ⟨_, rfl⟩
      rw [← hq] at w2 s1 ⊢
      obtain ⟨R, hR⟩ : ∃ R, R = x.set k q := ⟨_, rfl⟩
      rw [← hR] at s1 ⊢
      simp [b22_0, hd, e0, e1, e2, e6, e9, e10, e11, hi', X22, tlD, d22, hvv.len, w1, i1, l1, w2, s1, -stV_ptr, -ldV_ptr]
    · rw [List.drop_set_of_lt (by omega)]; exact hdr
    · rw [vl_set x k _ (by omega)]
      have ei : i + j = k := by omega
      have et : v.take i = v := List.take_of_length_le (by omega)
      replace hv := hv.out
      rw [et, ei] at hv
      rw [← hk, Int.pow_succ]
      have hm := Int.emod_add_mul_ediv (rd x k + c) B
      clear hm0 hc1 w1 w2 i1 l1 s1 hr hH
      generalize (rd x k + c) % B = mm at *
      generalize (rd x k + c) / B = dd at *
      generalize rd x k = rr at *
      generalize B ^ k = P at *
      generalize vl B x = V at *
      generalize B ^ j * vl B v = Q at *
      generalize vl B u = U at *
      grind
  | m + 1, i, x, c, f, σ, hi, hx, dx, hdr, hc, hv, hvv, hH, hd, e0, e1, e2, e6, e9, e10, e11 => by
    have hB0' : 0 < B := by omega
    have hix : i + j < x.length := by omega
    have hij : i + 1 + j = (i + j) + 1 := by omega
    have hiv : i < v.length := by omega
    have hr := dx.place hB0' ((i + j : Nat) : Int)
    have hy := dv.place hB0' (i : Int)
    have i0 := hvv.at (k := .i64) hiv
    have l0 := hvv.ld hiv
    obtain ⟨k, hk⟩ : ∃ k, k = i + j := ⟨_, rfl⟩
    have i1 : iaV σ 1 (.slc l 0 N) (.int .i64 k) = some (.ptr l k 0) := row_at hH (by omega) (by omega)
    have l1 := row_ld hH (i := k) (by omega)
    have w1 : IntKind.i64.wrap ((i : Int) + j) = (k : Int) := by rw [IntWalk.i64_in _ (by omega)]; omega
    have w0 : IntKind.i64.wrap ((i : Int) + 1) = ((i + 1 : Nat) : Int) := by rw [IntWalk.i64_in _ (by omega)]; omega
    rw [← hk] at hr hix hij
    have hm := Int.emod_add_mul_ediv (rd x k + rd v i + c) B
    have ad := add32_ev (E := ET) rfl (σ := σ) (x := rd x k) (y := rd v i) (c := c) ⟨hr.1, Int.lt_of_lt_of_le hr.2 (Int.le_of_eq hB)⟩ ⟨hy.1, Int.lt_of_lt_of_le hy.2 (Int.le_of_eq hB)⟩ hc
    rw [← hB] at ad
    have b1 : 0 ≤ (rd x k + rd v i + c) % B ∧ (rd x k + rd v i + c) % B < B := ⟨Int.emod_nonneg _ (Int.ne_of_gt hB0'), Int.emod_lt_of_pos _ hB0'⟩
    have b2 : 0 ≤ (rd x k + rd v i + c) / B ∧ (rd x k + rd v i + c) / B ≤ 1 := half_limb hB hr hy hc
    have hs : vl B (x.set k ((rd x k + rd v i + c) % B)) + B ^ (i + 1 + j) * ((rd x k + rd v i + c) / B) = vl B u + B ^ j * vl B (v.take (i + 1)) := by
      rw [vl_set x k _ hix, vl_take_succ, hij, Int.pow_succ]
      have h2 : B ^ k = B ^ j * B ^ i := by rw [hk, Nat.add_comm]; exact Int.pow_add _ _ _
      have hv := hv.out
      rw [← hk] at hv
      clear ad b1 b2 i0 l0 i1 l1 w0 w1 hr hy hH hvv
      generalize (rd x k + rd v i + c) % B = mm at *
      generalize (rd x k + rd v i + c) / B = dd at *
      generalize rd x k = rr at *
      generalize rd v i = y at *
      rw [h2] at hv ⊢
      generalize B ^ j = P at *
      generalize B ^ i = I at *
      grind
    have hdr' : (x.set k ((rd x k + rd v i + c) % B)).drop (j + v.length + 1) = u.drop (j + v.length + 1) := by rw [List.drop_set_of_lt (by clear hs hm; omega)]; exact hdr
    have ih := fun f => raise_loop (l := l) (N := N) hB u dv hN hu hul hbr hB0 m (i + 1) (x.set k ((rd x k + rd v i + c) % B)) ((rd x k + rd v i + c) / B) f (σ.set l (.row 1 ((x.set k ((rd x k + rd v i + c) % B)).map nE))) (by clear hs hm; omega) (by simpa using hx) (dx.set b1.1 b1.2) hdr' b2 ⟨hs⟩ ((Ch.set _).nm hvv hbr) (by simp)
    have s1 := row_st hH (i := k) hix ((rd x k + rd v i + c) % B)
    generalize htm : (rd x k + rd v i + c) % B = tm at *
    generalize htd : (rd x k + rd v i + c) / B = td at *
    obtain ⟨R, hR⟩ : ∃ R, R = x.set k tm := ⟨_, rfl⟩
    simp only [← hR] at ih s1
    obtain ⟨i', hi'⟩ : ∃ k, k = i + 1 := ⟨_, rfl⟩
    simp only [← hi'] at w0 ih
    have fin : ∀ f : Fr, f.ds = [] → f.env 0 = .slc l 0 N → f.env 1 = .int .i64 j → f.env 2 = vv → f.env 6 = .int .u32 td → f.env 9 = vv → f.env 10 = .int .i64 v.length → f.env 11 = .int .i64 i' → RaQ B σ l u v j (run ET false [] (.d (.loop [0, 1, 2, 6, 9, 10, 11] B0) :: .blk 0 :: [.d (.kb [0, 1, 2, 6] X22)]) f (σ.set l (.row 1 (R.map nE)))) := fun f z0 z1 z2 z3 z4 z5 z6 z7 => by
      obtain ⟨b, xx, τ, y1, y2, y3⟩ := ih f z0 z1 z2 z3 z4 z5 z6 z7
      exact ⟨b, xx, τ, y1, (Ch.set R).trans y2, y3⟩
    clear ih
    rw [r_loopU hB0]
    simp [b22_0, hd, e0, e1, e2, e6, e9, e10, e11, hiv, i0, l0, i1, l1, w0, w1, ad, s1, -stV_ptr, -ldV_ptr]
    exact fin _ (by simp) (by simp) (by simp) (by simp) (by simp) (by simp) (by simp) (by simp)
theorem raise_ev (hB : B = 4294967296) {σ : St} {u : List Int} {j l N : Nat} {vv : V} {v : List Int} (hH : σ.H l = some (.row 1 (u.map nE))) (hvv : Nm σ vv v) (hbr : ∀ k, vv.row = some k → k ≠ l) (du : Dg B u) (dv : Dg B v) (hN : u.length = N) (hu : j + v.length < N) (hul : N < 2 ^ 30) :
    RaQ B σ l u v j (ev ET 22 [.slc l 0 N, .int .i64 j, vv] σ) := by
  suffices h : RaQ B σ l u v j (run ET false f22.res [.d f22.body] ⟨envOf [.slc l 0 N, .int .i64 j, vv], []⟩ σ) by
    obtain ⟨b, x, τ, h, k⟩ := h
    exact ⟨b, x, τ, ev_raw (fd := f22) rfl (by simp [f22]) rfl h, k⟩
  have k := fun f => raise_loop (l := l) (N := N) hB u dv hN hu hul hbr rfl v.length 0 u 0 f σ (by omega) rfl du rfl (by omega) ⟨by simp [vl]⟩ hvv hH
  have hX : f22.body = subD 2 d22 X22 := rfl
  rw [hX]
  simp [f22, d22, subD, hvv.len]
  exact k _ (by simp) (by simp) (by simp) (by simp) (by simp) (by simp) (by simp) (by simp)
end Go.Proofs.Yticpkoakbneefaa
namespace Go.Proofs.Yticpkoakbneefaa
open Go.Proofs.Yticpkoakbneefaa.Ab
set_option linter.unusedVariables false
set_option linter.unusedSimpArgs false
attribute [local simp] Gr.refl Gr.new Gr.set Gr.kill Nat.add_assoc r_cks chk wantG
variable {B : Int}
def GuP (B u0 u1 u2 v1 v2 x : Int) : Prop := 0 ≤ x ∧ x < B ∧ x * (v1 * B + v2) ≤ (u0 * B + u1) * B + u2 ∧ ((x + 1) * (v1 * B + v2) > (u0 * B + u1) * B + u2 ∨ x + 1 ≥ B)
def GuQ (B u0 u1 u2 v1 v2 : Int) (σ : St) (r : Option (CO × St)) : Prop := ∃ x, r = some (.ret (.int .u64 x), σ) ∧ GuP B u0 u1 u2 v1 v2 x
def gueX : D := .kb [9] (.seq (.reg [⟨some 82, none, .mv (.t 9)⟩, ⟨some 6, none, .mv (.t 82)⟩]) .ret)
set_option maxHeartbeats 1000000 in
theorem guess_loop (hB : B = 4294967296) {σ : St} {vu vv : V} {u v : List Int} {j n : Nat} (hu : Nm σ vu u) (hv : Nm σ vv v) (du : Dg B u) (dv : Dg B v) (hn : 2 ≤ n) (hvn : v.length = n) (hul : j + n < u.length) (hl : u.length < 2 ^ 30) {u0 u1 u2 v1 v2 : Int} (g2 : u2 = rd u ((j + n - 2 : Nat) : Int)) (f1 : v1 = rd v ((n - 1 : Nat) : Int)) (f2 : v2 = rd v ((n - 2 : Nat) : Int)) (hu1 : 0 ≤ u1 ∧ u1 < B) (h1 : 0 < v1) (h01 : u0 ≤ v1) {B0 : D} (hB0 : B0 = b20_0) :
    ∀ (m : Nat) (q r : Int) (f : Fr), q.toNat ≤ m → 0 ≤ q → q < B * B → 0 ≤ r → r < B → q * v1 + r = u0 * B + u1 → ((q + 1) * (v1 * B + v2) > (u0 * B + u1) * B + u2 ∨ q + 1 ≥ B) →
      f.ds = [] → f.env 0 = vu → f.env 1 = .int .i64 j → f.env 2 = vv → f.env 7 = .int .i64 n → f.env 9 = .int .u64 q → f.env 10 = .int .u64 r →
      GuQ B u0 u1 u2 v1 v2 σ (run ET false [.t 6] (.d (.loop [0, 1, 2, 7, 9, 10] B0) :: .blk 0 :: [.d gueX]) f σ) := by
  have hu2 := du.place (show 0 < B by omega) ((j + n - 2 : Nat) : Int)
  have hv1 := dv.place (show 0 < B by omega) ((n - 1 : Nat) : Int)
  have hv2 := dv.place (show 0 < B by omega) ((n - 2 : Nat) : Int)
  obtain ⟨a1, ha1⟩ : ∃ k, k = n - 1 := ⟨_, rfl⟩
  obtain ⟨a2, ha2⟩ : ∃ k, k = n - 2 := ⟨_, rfl⟩
  obtain ⟨a3, ha3⟩ : ∃ k, k = j + n := ⟨_, rfl⟩
  obtain ⟨a4, ha4⟩ : ∃ k, k = j + n - 2 := ⟨_, rfl⟩
  rw [← ha4] at g2 hu2; rw [← ha1] at f1 hv1; rw [← ha2] at f2 hv2
  have x1 : IntKind.i64.wrap ((n : Int) - 1) = (a1 : Int) := by rw [IntWalk.i64_in _ (by omega)]; omega
  have x2 : IntKind.i64.wrap ((n : Int) - 2) = (a2 : Int) := by rw [IntWalk.i64_in _ (by omega)]; omega
  have x3 : IntKind.i64.wrap ((j : Int) + n) = (a3 : Int) := by rw [IntWalk.i64_in _ (by omega)]; omega
  have x4 : IntKind.i64.wrap ((a3 : Int) - 2) = (a4 : Int) := by rw [IntWalk.i64_in _ (by omega)]; omega
  have i1 := hv.at (k := .i64) (i := a1) (by omega)
  have l1 := hv.ld (i := a1) (by omega)
  have i2 := hv.at (k := .i64) (i := a2) (by omega)
  have l2 := hv.ld (i := a2) (by omega)
  have i4 := hu.at (k := .i64) (i := a4) (by omega)
  have l4 := hu.ld (i := a4) (by omega)
  rw [← f1] at l1 hv1; rw [← f2] at l2 hv2; rw [← g2] at l4 hu2
  have hB0' : 0 < B := by omega
  have w1 : IntKind.u64.wrap v1 = v1 := u64id hv1.1 (by omega)
  have w2 : IntKind.u64.wrap v2 = v2 := u64id hv2.1 (by omega)
  have w3 : IntKind.u64.wrap u2 = u2 := u64id hu2.1 (by omega)
  have wa : ∀ r, 0 ≤ r → r < B → IntKind.u64.wrap (r + v1) = r + v1 := fun r h h' => u64id (by omega) (by omega)
  have wq : ∀ q, 1 ≤ q → q < B * B → IntKind.u64.wrap (q - 1) = q - 1 := fun q h h' => u64id (by omega) (by subst hB; omega)
  have wB : ∀ q : Int, (q ≥ 4294967296 ↔ q ≥ B) := fun q => by rw [hB]
  clear ha1 ha2 ha3 ha4
  intro m
  induction m with
  | zero =>
    intro q r f hm q0 qB r0 rB e g hd e0 e1 e2 e7 e9 e10
    have hq : q = 0 := by omega
    have hng : ¬ q * v2 > r * B + u2 := by
      have := Int.mul_nonneg r0 (show 0 ≤ B by omega)
      rw [hq, Int.zero_mul]; omega
    subst hq
    have hge : ¬ (4294967296 : Int) ≤ 0 := by omega
    have s1 : IntKind.u64.wrap (r * 2 ^ min 32 IntKind.u64.bits) = r * 4294967296 := shl32 (by omega)
    have s2 := join_n (x := r) (y := u2) (by omega) (by omega)
    have hp0 : (0 : Int) * v2 = 0 := Int.zero_mul _
    have s3 : IntKind.u64.wrap 0 = 0 := u64id (by omega) (by omega)
    generalize hrr : r * 4294967296 = rr at *
    have hlt : ¬ rr + u2 < 0 := by omega
    rw [r_loopU hB0]
    refine ⟨0, ?_, q0, by omega, gs5 e (by rw [hB]; omega), g⟩
    simp [b20_0, hd, e0, e1, e2, e7, e9, e10, x1, x2, x3, x4, i1, l1, i2, l2, i4, l4, w1, w2, w3, s1, hrr, s2, s3, hlt, gueX]
  | succ m ih =>
    intro q r f hm q0 qB r0 rB e g hd e0 e1 e2 e7 e9 e10
    have s1 : IntKind.u64.wrap (r * 2 ^ min 32 IntKind.u64.bits) = r * 4294967296 := shl32 (by omega)
    have s2 := join_n (x := r) (y := u2) (by omega) (by omega)
    have down : 1 ≤ q → (q ≥ B ∨ q * v2 > r * B + u2) → (q - 1) * v1 + (r + v1) = u0 * B + u1 ∧ ((q - 1 + 1) * (v1 * B + v2) > (u0 * B + u1) * B + u2 ∨ q - 1 + 1 ≥ B) := by
      intro q1 hg
      refine ⟨gs1 e, ?_⟩
      rcases hg with h | h
      · exact Or.inr (by rw [Int.sub_add_cancel]; exact h)
      · exact Or.inl (gs2 e h)
    by_cases hq : q ≥ B
    · have q1 : 1 ≤ q := by clear down g e; omega
      obtain ⟨eq1, gg1⟩ := down q1 (Or.inl hq)
      have hge : (4294967296 : Int) ≤ q := (wB q).2 hq
      have y1 := wq q q1 qB
      have y2 := wa r r0 rB
      by_cases hb : r + v1 ≥ B
      · have hqB := gs3 (Int.le_of_lt hB0') eq1 hu1.2 h01 hv1.1 hb
        have hge2 : (4294967296 : Int) ≤ r + v1 := (wB _).2 hb
        rw [r_loopU hB0]
        refine ⟨q - 1, ?_, Int.sub_nonneg_of_le q1, hqB, gs4 eq1 hB0' hqB hv2 hu2.1 hb, gg1⟩
        clear down g e eq1 gg1 ih
        simp [b20_0, hd, e0, e1, e2, e7, e9, e10, x1, x2, x3, x4, i1, l1, w1, hge, y1, y2, hge2, gueX]
      · have hge2 : ¬ (4294967296 : Int) ≤ r + v1 := fun h => hb ((wB _).1 h)
        have ih := fun f => ih (q - 1) (r + v1) f (nat_pred q1 hm) (Int.sub_nonneg_of_le q1) (Int.lt_of_le_of_lt (Int.sub_le_self q (by decide)) qB) (Int.add_nonneg r0 hv1.1) (Int.lt_of_not_ge hb) eq1 gg1
        clear down g e eq1 gg1
        rw [r_loopU hB0]
        simp [b20_0, hd, e0, e1, e2, e7, e9, e10, x1, x2, x3, x4, i1, l1, w1, hge, y1, y2, hge2]
        exact ih _ (by simp) (by simp) (by simp) (by simp) (by simp) (by simp) (by simp)
    · have hqB : q < B := Int.lt_of_not_ge hq
      have hge : ¬ (4294967296 : Int) ≤ q := fun h => hq ((wB q).1 h)
      have h6 := gs6 hB q0 hqB hv2
      have s3 : IntKind.u64.wrap (q * v2) = q * v2 := u64id h6.1 h6.2
      by_cases hg : q * v2 > r * B + u2
      · have q1 := gs7 (Int.le_of_lt hB0') q0 r0 hu2.1 hg
        obtain ⟨eq1, gg1⟩ := down q1 (Or.inr hg)
        have y1 := wq q q1 qB
        have y2 := wa r r0 rB
        have hg' : r * 4294967296 + u2 < q * v2 := by rw [← hB]; exact hg
        generalize hp : q * v2 = p at *
        by_cases hb : r + v1 ≥ B
        · have hqB2 := gs3 (Int.le_of_lt hB0') eq1 hu1.2 h01 hv1.1 hb
          have hge2 : (4294967296 : Int) ≤ r + v1 := (wB _).2 hb
          rw [r_loopU hB0]
          refine ⟨q - 1, ?_, Int.sub_nonneg_of_le q1, hqB2, gs4 eq1 hB0' hqB2 hv2 hu2.1 hb, gg1⟩
          clear down g e eq1 gg1 ih
          generalize hrr : r * 4294967296 = rr at *
          simp [b20_0, hd, e0, e1, e2, e7, e9, e10, x1, x2, x3, x4, i1, l1, i2, l2, i4, l4, w1, w2, w3, s1, hrr, s2, hp, s3, hge, hg', y1, y2, hge2, gueX]
        · have hge2 : ¬ (4294967296 : Int) ≤ r + v1 := fun h => hb ((wB _).1 h)
          have ih := fun f => ih (q - 1) (r + v1) f (nat_pred q1 hm) (Int.sub_nonneg_of_le q1) (Int.lt_of_le_of_lt (Int.sub_le_self q (by decide)) qB) (Int.add_nonneg r0 hv1.1) (Int.lt_of_not_ge hb) eq1 gg1
          clear down g e eq1 gg1
          generalize hrr : r * 4294967296 = rr at *
          rw [r_loopU hB0]
          simp [b20_0, hd, e0, e1, e2, e7, e9, e10, x1, x2, x3, x4, i1, l1, i2, l2, i4, l4, w1, w2, w3, s1, hrr, s2, hp, s3, hge, hg', y1, y2, hge2]
          exact ih _ (by simp) (by simp) (by simp) (by simp) (by simp) (by simp) (by simp)
      · have hg' : ¬ r * 4294967296 + u2 < q * v2 := by rw [← hB]; exact hg
        rw [r_loopU hB0]
        refine ⟨q, ?_, q0, hqB, gs5 e (Int.le_of_not_gt hg), g⟩
        clear down g e ih hg
        generalize hp : q * v2 = p at *
        generalize hrr : r * 4294967296 = rr at *
        simp [b20_0, hd, e0, e1, e2, e7, e9, e10, x1, x2, x3, x4, i1, l1, i2, l2, i4, l4, w1, w2, w3, s1, hrr, s2, hp, s3, hge, hg', gueX]
end Go.Proofs.Yticpkoakbneefaa
namespace Go.Proofs.Yticpkoakbneefaa
open Go.Proofs.Yticpkoakbneefaa.Ab
set_option linter.unusedVariables false
set_option linter.unusedSimpArgs false
attribute [local simp] Gr.refl Gr.new Gr.set Gr.kill Nat.add_assoc r_cks chk wantG
variable {B : Int}
theorem guess_ev (hB : B = 4294967296) {σ : St} {vu vv : V} {u v : List Int} {j n : Nat} (hu : Nm σ vu u) (hv : Nm σ vv v) (du : Dg B u) (dv : Dg B v) (hn : 2 ≤ n) (hvn : v.length = n) (hul : j + n < u.length) (hl : u.length < 2 ^ 30) {u0 u1 u2 v1 v2 : Int} (g0 : u0 = rd u ((j + n : Nat) : Int)) (g1 : u1 = rd u ((j + n - 1 : Nat) : Int)) (g2 : u2 = rd u ((j + n - 2 : Nat) : Int)) (f1 : v1 = rd v ((n - 1 : Nat) : Int)) (f2 : v2 = rd v ((n - 2 : Nat) : Int)) (h1 : 0 < v1) (h01 : u0 ≤ v1) :
    ∃ x, ev ET 20 [vu, .int .i64 j, vv] σ = some (.ret (.int .u64 x), σ) ∧ GuP B u0 u1 u2 v1 v2 x := by
  have hB0 : 0 < B := by rw [hB]; decide
  have hBs : B ≤ 18446744073709551616 := by rw [hB]; decide
  have hu0 := du.place hB0 ((j + n : Nat) : Int)
  have hu1 := du.place hB0 ((j + n - 1 : Nat) : Int)
  have hu2 := du.place hB0 ((j + n - 2 : Nat) : Int)
  have hv1 := dv.place hB0 ((n - 1 : Nat) : Int)
  have hv2 := dv.place hB0 ((n - 2 : Nat) : Int)
  rw [← g0] at hu0; rw [← g1] at hu1; rw [← g2] at hu2; rw [← f1] at hv1; rw [← f2] at hv2
  suffices h : GuQ B u0 u1 u2 v1 v2 σ (run ET false f20.res [.d f20.body] ⟨envOf [vu, .int .i64 j, vv], []⟩ σ) by
    obtain ⟨x, h, k⟩ := h
    refine ⟨x, ?_, k⟩
    exact ev_same (fd := f20) rfl (by simp [f20]) rfl h (by simp)
  have w0 : IntKind.u64.wrap u0 = u0 := u64id hu0.1 (Int.lt_of_lt_of_le hu0.2 hBs)
  have w1 : IntKind.u64.wrap u1 = u1 := u64id hu1.1 (Int.lt_of_lt_of_le hu1.2 hBs)
  have w2 : IntKind.u64.wrap v1 = v1 := u64id hv1.1 (Int.lt_of_lt_of_le hv1.2 hBs)
  have ht0 : 0 ≤ u0 * B + u1 := Int.add_nonneg (Int.mul_nonneg hu0.1 (Int.le_of_lt hB0)) hu1.1
  have htB : u0 * B + u1 < B * B := two_limbs hB0 hu0.2 hu1.2
  have hm := Int.emod_add_mul_ediv (u0 * B + u1) v1
  have hm0 := Int.emod_nonneg (u0 * B + u1) (Int.ne_of_gt h1)
  have hm1 := Int.emod_lt_of_pos (u0 * B + u1) h1
  have hq0 : 0 ≤ (u0 * B + u1) / v1 := Int.ediv_nonneg ht0 hv1.1
  have hq1 : (u0 * B + u1) / v1 ≤ u0 * B + u1 := Int.ediv_le_self _ ht0
  have gg := gs8 (B := B) (t := u0 * B + u1) (v1 := v1) (v2 := v2) (u2 := u2) (Int.le_of_lt hB0) h1 ht0 hv2.1 hu2.2
  have hqw : IntKind.u64.wrap ((u0 * B + u1) / v1) = (u0 * B + u1) / v1 := u64id hq0 (Int.lt_of_lt_of_le (Int.lt_of_le_of_lt hq1 htB) (show B * B ≤ 18446744073709551616 by rw [hB]; omega))
  have k := fun f => guess_loop (σ := σ) hB hu hv du dv hn hvn hul hl g2 f1 f2 hu1 h1 h01 (B0 := b20_0) rfl _ ((u0 * B + u1) / v1) ((u0 * B + u1) % v1) f (Nat.le_refl _) hq0 (Int.lt_of_le_of_lt hq1 htB) hm0 (Int.lt_trans hm1 hv1.2) (by rw [Int.mul_comm, Int.add_comm]; exact hm) (Or.inl gg)
  obtain ⟨a3, ha3⟩ : ∃ k, k = j + n := ⟨_, rfl⟩
  obtain ⟨a4, ha4⟩ : ∃ k, k = j + n - 1 := ⟨_, rfl⟩
  obtain ⟨a1, ha1⟩ : ∃ k, k = n - 1 := ⟨_, rfl⟩
  rw [← ha3] at g0; rw [← ha4] at g1; rw [← ha1] at f1
  have x1 : IntKind.i64.wrap ((n : Int) - 1) = (a1 : Int) := by rw [IntWalk.i64_in _ (by omega)]; omega
  have x3 : IntKind.i64.wrap ((j : Int) + n) = (a3 : Int) := by rw [IntWalk.i64_in _ (by omega)]; omega
  have x4 : IntKind.i64.wrap ((a3 : Int) - 1) = (a4 : Int) := by rw [IntWalk.i64_in _ (by omega)]; omega
  have i1 := hv.at (k := .i64) (i := a1) (by omega)
  have l1 := hv.ld (i := a1) (by omega)
  have i3 := hu.at (k := .i64) (i := a3) (by omega)
  have l3 := hu.ld (i := a3) (by omega)
  have i4 := hu.at (k := .i64) (i := a4) (by omega)
  have l4 := hu.ld (i := a4) (by omega)
  rw [← f1] at l1; rw [← g0] at l3; rw [← g1] at l4
  have s1 : IntKind.u64.wrap (u0 * 2 ^ min 32 IntKind.u64.bits) = u0 * 4294967296 := shl32 (by omega)
  have s2 := join_n (x := u0) (y := u1) (by omega) (by omega)
  have t1 := tdiv10 (y := v1) ht0
  have t2 := tmod10 (y := v1) ht0
  have hmw : IntKind.u64.wrap ((u0 * B + u1) % v1) = (u0 * B + u1) % v1 := u64id hm0 (Int.lt_of_lt_of_le hm1 (Int.le_of_lt (Int.lt_of_lt_of_le hv1.2 hBs)))
  have hne : ¬ v1 = 0 := Int.ne_of_gt h1
  clear gg hm hm0 hm1 hq0 hq1 htB
  rw [← hB] at s1 s2
  obtain ⟨b0, hb0⟩ : ∃ b, b = u0 * B := ⟨_, rfl⟩
  simp only [← hb0] at *
  obtain ⟨t, ht⟩ : ∃ b, b = b0 + u1 := ⟨_, rfl⟩
  simp only [← ht] at *
  obtain ⟨q, hq⟩ : ∃ b, b = t / v1 := ⟨_, rfl⟩
  obtain ⟨r, hr⟩ : ∃ b, b = t % v1 := ⟨_, rfl⟩
  simp only [← hq, ← hr] at *
  have hX : f20.body = subD 4 d20 (tlD (tlD (tlD (tlD d20)))) := rfl
  simp [f20, d20, hv.len, hvn, x1, x3, x4, i1, i3, i4, l1, l3, l4, w0, w1, w2, s1, s2, t1, t2, hqw, hmw, hne, -stV_ptr, -ldV_ptr]
  exact k _ (by simp) (by simp) (by simp) (by simp) (by simp) (by simp) (by simp)
end Go.Proofs.Yticpkoakbneefaa
