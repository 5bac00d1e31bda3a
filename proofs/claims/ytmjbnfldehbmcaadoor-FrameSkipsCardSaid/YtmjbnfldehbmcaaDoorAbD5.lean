/-
The walk over the program's texts, told with what its values say: a part of it. No further condition.
-/
import Derived.Test.YtmjbnfldehbmcaaDoorAbD4
namespace Go.Proofs.YtmjbnfldehbmcaaDoor
open Go.Proofs.YtmjbnfldehbmcaaDoor.Ab
def sp (c : UInt8) : Bool := c == 32 || c == 9
def trimL (s : List UInt8) : List UInt8 := s.dropWhile sp
def trimR (s : List UInt8) : List UInt8 := (s.reverse.dropWhile sp).reverse
def digs : List UInt8 → Int → Option Int
  | [], n => some n
  | c :: s, n => if c.toNat < 48 ∨ c.toNat > 57 then none else digs s (n * 10 + (c.toNat - 48))
def numS (s : List UInt8) : Option Int :=
  if (trimR (trimL s)).length < 1 ∨ (trimR (trimL s)).length > 10 then none else digs (trimR (trimL s)) 0
def numR (s : List UInt8) : V :=
  match numS s with
  | some n => .tup [.int .i64 n, .bool true]
  | none => .tup [.int .i64 0, .bool false]
theorem trimL_cons {c : UInt8} {s : List UInt8} : trimL (c :: s) = if sp c = true then trimL s else c :: s := by
  simp [trimL, List.dropWhile_cons]
theorem trimR_app {c : UInt8} {s : List UInt8} : trimR (s ++ [c]) = if sp c = true then trimR s else s ++ [c] := by
  unfold trimR
  rw [List.reverse_append, List.reverse_singleton, List.singleton_append, List.dropWhile_cons]
  split <;> simp
theorem sp_iff {c : UInt8} : sp c = true ↔ (c.toNat : Int) = 32 ∨ (c.toNat : Int) = 9 := by
  have a := u8n (c := c) (n := 32) (by omega)
  have b := u8n (c := c) (n := 9) (by omega)
  simp only [Int.cast_ofNat_Int] at a b
  unfold sp
  rw [Bool.or_eq_true, beq_iff_eq, beq_iff_eq]
  exact or_congr a.symm b.symm
theorem number_c (v : V) (s : List UInt8) (σ : St) (hv : Bs σ v s) (hb : s.length < 2 ^ 40) : CCalls Tryd.prog 24 [v] σ (fun o σ' => o = .ret (numR s) ∧ σ' = σ) := by
  refine w_fn ok24 (by simp [c24]) fun Q hn hr hp => ?_
  simp only [c24] at *
  have hq : ∀ f, f.ds = [] → V.tup [f.env 2, f.env 3] = numR s → Q .ret f σ := fun f h1 h2 => hr f σ ⟨h1, by simp [retV, resL, resV, one, h2]⟩
  clear hn hr hp
  refine w_seq ?_
  refine w_regk [0] fun K KP hk hkp => ?_
  simp
  apply hk; clear hk hkp K KP
  refine w_seq ?_
  refine w_block fun Q0 hn0 he0 hx0 hr0 hp0 => ?_
  refine w_loopk [0] (fun n vs σ' => σ' = σ ∧ ∃ v' s', s'.length = n ∧ vs = [v'] ∧ Bs σ v' s' ∧ s'.length < 2 ^ 40 ∧ trimL s' = trimL s) s.length ⟨rfl, v, s, rfl, by simp, hv, hb, rfl⟩ ?_
  rintro n vs σ' ⟨rfl, v', s', hn, rfl, hv', hb', htr⟩ Qz z1 z2 z3 z4
  have hlen := hv'.len
  have exit0 : trimL s' = s' → ∀ x, Qz (.exit 0) ⟨lk [0, 21] [v', x], []⟩ σ' := by
    intro hts x
    refine z2 _ _ _ (he0 _ _ ?_)
    refine w_keep [0] ?_
    rw [hts] at htr
    clear hlen z1 z2 z3 z4 hn
    refine w_seq ?_
    refine w_block fun Q2 hn2 he2 hx2 hr2 hp2 => ?_
    refine w_loopk [0] (fun n vs σ'' => σ'' = σ' ∧ ∃ v'' s'', s''.length = n ∧ vs = [v''] ∧ Bs σ' v'' s'' ∧ s''.length < 2 ^ 40 ∧ trimR s'' = trimR (trimL s)) s'.length ⟨rfl, v', s', rfl, by simp, hv', hb', by rw [htr]⟩ ?_
    rintro n vs σ'' ⟨rfl, v'', s'', hn, rfl, hv'', hb'', htr''⟩ Qz z1 z2 z3 z4
    have hlen := hv''.len
    have exit2 : trimR s'' = s'' → ∀ x, Qz (.exit 2) ⟨lk [0, 44] [v'', x], []⟩ σ'' := by
      intro hts x
      refine z2 _ _ _ (he2 _ _ ?_)
      refine w_keep [0] ?_
      rw [hts] at htr''
      clear z1 z2 z3 z4 hn
      refine w_seq ?_
      refine w_seq ?_
      refine w_regk [0, 57] fun K KP hk hkp => ?_
      have hc : K [v'', .bool (decide ((s''.length : Int) < 1 ∨ 10 < (s''.length : Int)))] [] σ'' := by
        apply hk; clear hk hkp K KP
        by_cases hbad : (s''.length : Int) < 1 ∨ 10 < (s''.length : Int)
        · refine w_yes (vT hbad) ?_
          refine w_seq ?_
          refine w_regk [2, 3] fun K KP hk hkp => ?_
          simp
          apply hk; clear hk hkp K KP
          refine w_ret (hq _ (by simp) ?_)
          have : numS s = none := by unfold numS; rw [← htr'', if_pos (by omega)]
          simp [numR, this]
        refine w_no (vF hbad) ?_
        refine w_skip ?_
        refine w_seq ?_
        refine w_regk [0, 4] fun K KP hk hkp => ?_
        simp
        apply hk; clear hk hkp K KP
        refine w_seq ?_
        refine w_seq ?_
        refine w_regk [4, 58, 59, 60] fun K KP hk hkp => ?_
        simp [hlen]
        apply hk; clear hk hkp K KP
        have hnum : numS s = digs s'' 0 := by unfold numS; rw [← htr'', if_neg (by omega)]
        refine w_block fun Q4 hn4 he4 hx4 hr4 hp4 => ?_
        refine w_loopk [4, 58, 59, 60] (fun n vs σ3 => σ3 = σ'' ∧ ∃ i m, i + n = s''.length ∧ vs = [.int .i64 m, v'', .int .i64 s''.length, .int .i64 i] ∧ 0 ≤ m ∧ m < 10 ^ i ∧ digs (s''.drop i) m = numS s) s''.length ⟨rfl, 0, 0, by simp, by simp, by simp, by simp, by simp [hnum]⟩ ?_
        rintro n vs σ3 ⟨rfl, i, m, hn, rfl, hm0, hm1, hdg⟩ Qz z1 z2 z3 z4
        have hp10 : i < s''.length → (10 : Int) ^ i ≤ 10 ^ 9 := fun h => by exact_mod_cast Nat.pow_le_pow_right (n := 10) (by omega) (show i ≤ 9 by omega)
        refine w_seq ?_
        refine w_regk [4, 58, 59, 60, 61] fun K KP hk hkp => ?_
        simp
        apply hk; clear hk hkp K KP
        refine w_seq ?_
        by_cases hc : i < s''.length
        rotate_left
        · refine w_no (by simp [hc]) ?_
          refine w_exit (z2 _ _ _ (he4 _ _ ?_))
          refine w_keep [4] ?_
          refine w_seq ?_
          refine w_regk [2, 3] fun K KP hk hkp => ?_
          simp
          apply hk; clear hk hkp K KP
          refine w_ret (hq _ (by simp) ?_)
          rw [List.drop_eq_nil_of_le (by omega)] at hdg
          simp [numR, ← hdg, digs]
        refine w_yes (by simp [hc]) ?_
        refine w_skip ?_
        refine w_seq ?_
        rw [List.drop_eq_getElem_cons hc] at hdg
        refine w_block fun Q5 hn5 he5 hx5 hr5 hp5 => ?_
        refine w_seq ?_
        refine w_regk [4, 6, 58, 59, 60] fun K KP hk hkp => ?_
        simp [hv''.at hc, hv''.ld (List.getElem?_eq_getElem hc)]
        apply hk; clear hk hkp K KP
        have hbnd : (s''[i].toNat : Int) < 256 := by have := s''[i].toNat_lt; omega
        have hdd : digs (s''[i] :: s''.drop (i + 1)) m = if s''[i].toNat < 48 ∨ s''[i].toNat > 57 then none else digs (s''.drop (i + 1)) (m * 10 + (s''[i].toNat - 48)) := rfl
        rw [hdd] at hdg
        generalize s''[i].toNat = c at hbnd hdg hdd
        refine w_seq ?_
        refine w_seq ?_
        refine w_regk [4, 6, 58, 59, 60, 69] fun K KP hk hkp => ?_
        have hgo : K [.int .i64 m, .int .u8 c, v'', .int .i64 s''.length, .int .i64 i, .bool (decide ((c : Int) < 48 ∨ 57 < (c : Int)))] [] σ3 := by
          apply hk; clear hk hkp K KP
          by_cases hbad2 : (c : Int) < 48 ∨ 57 < (c : Int)
          · refine w_yes (vT hbad2) ?_
            refine w_seq ?_
            refine w_regk [2, 3] fun K KP hk hkp => ?_
            simp
            apply hk; clear hk hkp K KP
            refine w_ret (hr5 _ _ (z3 _ _ (hr4 _ _ (hq _ (by simp) ?_))))
            rw [if_pos (by omega)] at hdg
            simp [numR, ← hdg]
          rw [if_neg (by omega)] at hdg
          refine w_no (vF hbad2) ?_
          have hp := hp10 hc
          have hc48 : 48 ≤ (c : Int) := by omega
          refine w_skip ?_
          refine w_reg fun K KP hk hkp => ?_
          simp (disch := omega) [IntWalk.i64_in, IntWalk.u8_in]
          refine hk _ _ (w_end (hn5 _ _ ?_))
          clear hk hkp K KP
          refine w_keep [4, 58, 59, 60] ?_
          refine w_reg fun K KP hk hkp => ?_
          simp (disch := omega) [IntWalk.i64_in]
          refine hk _ _ (w_end (z1 (n - 1) _ _ rfl (by omega) ⟨rfl, i + 1, m * 10 + (c - 48), by omega, by simp, by omega, ?_, hdg⟩))
          rw [Int.pow_succ]
          omega
        by_cases h1 : (c : Int) < 48 <;> simpa [h1] using hgo
      by_cases h1 : (s''.length : Int) < 1 <;> simpa [hlen, h1] using hc
    -- the second loop's round
    refine w_seq ?_
    refine w_seq ?_
    refine w_regk [0, 44] fun K KP hk hkp => ?_
    have hcat : s'' = [] ∨ ∃ t c, s'' = t ++ [c] := by
      rcases List.eq_nil_or_concat s'' with h | ⟨t, c, h⟩
      · exact .inl h
      · exact .inr ⟨t, c, by simpa using h⟩
    rcases hcat with rfl | ⟨t, c, rfl⟩
    · simp [hlen]
      apply hk; clear hk hkp K KP
      exact w_no rfl (w_exit (exit2 rfl _))
    rw [List.length_append, List.length_singleton] at hlen hb'' hn
    have hat : (t ++ [c])[t.length]? = some c := by simp
    have hgo : K [v'', .bool (decide ((c.toNat : Int) = 32 ∨ (c.toNat : Int) = 9))] [] σ'' := by
      apply hk; clear hk hkp K KP
      by_cases hs : (c.toNat : Int) = 32 ∨ (c.toNat : Int) = 9
      rotate_left
      · exact w_no (vF hs) (w_exit (exit2 (by rw [trimR_app, if_neg (by rw [sp_iff]; exact hs)]) _))
      refine w_yes (vT hs) ?_
      refine w_skip ?_
      refine w_block fun Q3 hn3 he3 hx3 hr3 hp3 => ?_
      refine w_reg fun K KP hk hkp => ?_
      simp (disch := omega) [hlen, IntWalk.i64_in]
      rw [hv''.lslTo (b := t.length) (k := .i64) (by simp) (by simp)]
      simp
      refine hk _ _ (w_end (hn3 _ _ (w_end (z1 t.length _ _ rfl (by omega) ⟨rfl, cutV v'' 0 t.length, t, rfl, by simp, ?_, by omega, ?_⟩))))
      · have := hv''.cut (a := 0) (b := t.length) (by omega) (by simp)
        simpa using this
      · rw [← htr'', trimR_app, if_pos (sp_iff.2 hs)]
    have hpos : (0 : Int) < ↑t.length + 1 := by omega
    have h64 : IntKind.i64.wrap (↑t.length) = ↑t.length := by rw [IntWalk.i64_in _ (by omega)]
    by_cases h1 : (c.toNat : Int) = 32 <;> simpa [hlen, hpos, h64, hv''.at (k := .i64) (i := t.length) (by simp), hv''.ld hat, h1] using hgo
  -- the first loop's round
  refine w_seq ?_
  refine w_seq ?_
  refine w_regk [0, 21] fun K KP hk hkp => ?_
  cases s' with
  | nil =>
    simp [hlen]
    apply hk; clear hk hkp K KP
    exact w_no rfl (w_exit (exit0 rfl _))
  | cons c t =>
    simp only [List.length_cons] at hlen hb' hn
    have hgo : K [v', .bool (decide ((c.toNat : Int) = 32 ∨ (c.toNat : Int) = 9))] [] σ' := by
      apply hk; clear hk hkp K KP
      by_cases hs : (c.toNat : Int) = 32 ∨ (c.toNat : Int) = 9
      rotate_left
      · exact w_no (vF hs) (w_exit (exit0 (by rw [trimL_cons, if_neg (by rw [sp_iff]; exact hs)]) _))
      refine w_yes (vT hs) ?_
      refine w_skip ?_
      refine w_block fun Q3 hn3 he3 hx3 hr3 hp3 => ?_
      refine w_reg fun K KP hk hkp => ?_
      simp
      rw [hv'.lslFrom (a := 1) (k := .i64) (by simp) (by simp)]
      simp
      refine hk _ _ (w_end (hn3 _ _ (w_end (z1 t.length _ _ rfl (by omega) ⟨rfl, cutV v' 1 (t.length + 1), t, rfl, by simp, ?_, by omega, ?_⟩))))
      · have := hv'.cut (a := 1) (b := t.length + 1) (by omega) (by simp)
        simpa using this
      · rw [← htr, trimL_cons, if_pos (sp_iff.2 hs)]
    have hpos : (0 : Int) < ↑t.length + 1 := by omega
    by_cases h1 : (c.toNat : Int) = 32 <;> simpa [hlen, hpos, hv'.at0 (k := .i64) (by simp), hv'.ld (i := 0) (c := c) (by simp), h1] using hgo
end Go.Proofs.YtmjbnfldehbmcaaDoor
