/-
The walk over the program's texts, told with what its values say: a part of it. No further condition.
-/
import Derived.Test.YtmjbnfldehbmcaaDoorAbDA
namespace Go.Proofs.YtmjbnfldehbmcaaDoor
open Go.Proofs.YtmjbnfldehbmcaaDoor.Ab
set_option linter.unusedVariables false
theorem digs_bound : ∀ (s : List UInt8) (m n : Int), 0 ≤ m → digs s m = some n → 0 ≤ n ∧ n < (m + 1) * 10 ^ s.length
  | [], m, n, hm, h => by simp [digs] at h; subst h; simp; omega
  | c :: s, m, n, hm, h => by
    unfold digs at h
    split at h
    · simp at h
    · rename_i hc
      have := digs_bound s _ n (by omega) h
      refine ⟨this.1, Int.lt_of_lt_of_le this.2 ?_⟩
      rw [List.length_cons, Int.pow_succ, Int.mul_comm (10 ^ s.length) 10, ← Int.mul_assoc]
      exact Int.mul_le_mul_of_nonneg_right (by omega) (Int.le_of_lt (Int.pow_pos (by omega)))
theorem numS_bound {s : List UInt8} {n : Int} (h : numS s = some n) : 0 ≤ n ∧ n < 2 ^ 40 := by
  unfold numS at h
  split at h
  · simp at h
  · rename_i hc
    have := digs_bound _ _ _ (by omega) h
    refine ⟨this.1, Int.lt_trans this.2 ?_⟩
    have h10 : (10 : Int) ^ (trimR (trimL s)).length ≤ 10 ^ 10 := by exact_mod_cast Nat.pow_le_pow_right (n := 10) (by omega) (show (trimR (trimL s)).length ≤ 10 by omega)
    omega
/-- What a reader may be. -/
structure Good (r : R) : Prop where
  st : r.st = 0 ∨ r.st = 1 ∨ r.st = 2 ∨ r.st = 3
  size : 0 ≤ r.size ∧ (r.st = 0 → r.size ≤ 4096)
  line : r.st = 0 → r.line.length ≤ r.size
  length : -1 ≤ r.length ∧ r.length < 2 ^ 40
  left : -1 ≤ r.left ∧ r.left < 2 ^ 40
  body : r.st = 1 → 0 < r.left ∧ r.body.length + r.left ≤ 16777216
  skip : r.st = 2 → 0 < r.left
  mid : r.st = 1 ∨ r.st = 2 → r.size ≤ 4096 ∧ r.line = []
def headerS (r : R) (c : UInt8) : R × List Msg :=
  if 4096 < r.size + 1 then brk { r with size := r.size + 1 }
  else if c ≠ 10 then ({ r with size := r.size + 1, line := r.line ++ [c] }, [])
  else if r.line.length + 1 < 2 ∨ (r.line ++ [c])[r.line.length - 1]? ≠ some 13 then brk { r with size := r.size + 1, line := r.line ++ [c] }
  else if r.line.length = 1 then beginS { r with size := r.size + 1, line := [] }
  else match fieldS { r with size := r.size + 1, line := [] } ((r.line ++ [c]).take (r.line.length - 1)) with
    | none => brk { r with size := r.size + 1, line := [] }
    | some r' => (r', [])
section
variable {σ : St} {p : Nat} {r : R} {ms : List Msg} {lv bv ov : V} {oes : List (List V)}
theorem Goes.of {σ' σ'' : St} {L L' : List Nat} {r' : R} {ms' : List Msg} (h : Fm σ σ' L L') (k : Goes σ' p L' r' ms' σ'') : Goes σ p L r' ms' σ'' := by
  obtain ⟨lv, bv, ov, oes, h1, h2⟩ := k
  exact ⟨lv, bv, ov, oes, h1, h.trans h2⟩
theorem header_o (h : Own σ p r ms lv bv ov oes) (hs : r.st = 0) (hg : Good r) (hl : ms.length < 2 ^ 40) (c : UInt8) :
    CCalls Tryd.prog 14 [.ptr p 0 0, .int .u8 c.toNat] σ (fun o σ' => o = .ret (.tup []) ∧ Goes σ p (names p lv bv ov oes) (headerS r c).1 (ms ++ (headerS r c).2) σ') := by
  obtain ⟨rfl, hbody⟩ := h.bodyNil (by omega)
  refine w_fn ok14 (by simp [c14]) fun Q hn hr' hpq => ?_
  simp only [c14] at *
  have hq : ∀ f' σ', f'.ds = [] → Goes σ p (names p lv .nils ov oes) (headerS r c).1 (ms ++ (headerS r c).2) σ' → Q .ret f' σ' := fun f σ' h1 h2 => hr' f _ ⟨h1, _, by simp [retV, resL, one], rfl, h2⟩
  have hq' : ∀ f' σ', f'.ds = [] → Goes σ p (names p lv .nils ov oes) (headerS r c).1 (ms ++ (headerS r c).2) σ' → Q .normal f' σ' := fun f σ' h1 h2 => hn f _ ⟨h1, _, by simp [retV, resL, one], rfl, h2⟩
  clear hn hr' hpq
  have hsz : 0 ≤ r.size ∧ r.size ≤ 4096 := ⟨hg.size.1, hg.size.2 hs⟩
  have hln := hg.line hs
  have h64 : IntKind.i64.wrap (r.size + 1) = r.size + 1 := IntWalk.i64_in _ (by omega)
  have h7 := h.at_
  simp only [cel] at h7
  refine w_seq ?_
  refine w_regk [0, 1] fun K KP hk hkp => ?_
  simp [h7, h64]
  apply hk; clear hk hkp K KP
  obtain ⟨h1, f1⟩ := h.nums { r with size := r.size + 1 } rfl rfl h.bn h.ln
  simp only [cel] at h1 f1
  generalize σ.set p (.row 7 [[.int .i64 r.st, lv, .int .i64 (r.size + 1), .int .i64 r.length, .int .i64 r.left, .nils, ov]]) = σ1 at h1 f1
  have h17 := h1.at_
  simp only [cel] at h17
  refine w_seq ?_
  refine w_seq ?_
  refine w_regk [0, 1, 17] fun K KP hk hkp => ?_
  simp [h17]
  apply hk; clear hk hkp K KP
  by_cases hbig : 4096 < r.size + 1
  · refine w_yes (vT hbig) ?_
    refine w_seq ?_
    refine w_regk [] fun K KP hk hkp => ?_
    simp
    refine (broken_o h1 (by simp [hs]) hl).mono ?_
    rintro _ σ2 ⟨rfl, g2⟩
    apply hk; clear hk hkp K KP
    refine w_ret (hq _ _ (by simp) ?_)
    have e : headerS r c = brk { r with size := r.size + 1 } := by unfold headerS; rw [if_pos hbig]
    rw [e]
    exact Goes.of f1 g2
  refine w_no (vF hbig) ?_
  refine w_skip ?_
  refine w_seq ?_
  refine w_regk [0, 1] fun K KP hk hkp => ?_
  simp [h17]
  have hpn : p < σ1.n := h1.lt p (by simp [names])
  have hlvn : ∀ l, lv.row = some l → l < σ1.n ∧ l ≠ p := fun l e => by
    refine ⟨h1.lt l (by simp [names, mem_rowL, e]), fun e' => ?_⟩
    have := h1.nd
    unfold names at this
    rw [List.nodup_cons] at this
    exact this.1 (by rw [← e']; simp [mem_rowL, e])
  have hline' : Sl (σ1.new (.row 1 [[.int .u8 c.toNat]])) 1 lv (r.line.map byteE) := h1.line.mono fun l e => by
    have := hlvn l e
    rw [new_H, if_neg (by omega)]
  have hsrc : srcOf (σ1.new (.row 1 [[.int .u8 c.toNat]])) 1 (.slc σ1.n 0 1) = some [[.int .u8 c.toNat]] := srcOf_rd (by simp [Rd, cont])
  rw [hline'.app hsrc (by simp) (by simp only [reach, List.length_singleton, List.length_map]; omega) (by simp only [reach, List.length_singleton, List.length_map]; omega)]
  have hH : ((grown (σ1.new (.row 1 [[.int .u8 c.toNat]])) lv).new (.row 1 (r.line.map byteE ++ [[.int .u8 c.toNat]]))).H p = some (.row 7 [[.int .i64 r.st, lv, .int .i64 (r.size + 1), .int .i64 r.length, .int .i64 r.left, .nils, ov]]) := by
    rw [new_H, if_neg (by simp; omega), grown_H, if_neg (fun e => (hlvn p e).2 rfl), new_H, if_neg (by omega), h17]
  simp [hH, -new_H]
  apply hk; clear hk hkp K KP
  have hll : (r.line ++ [c]).length = r.line.length + 1 := by simp
  obtain ⟨h2, f2⟩ := own_line h1 (σ' := (((grown (σ1.new (.row 1 [[.int .u8 c.toNat]])) lv).new (.row 1 (r.line.map byteE ++ [[.int .u8 c.toNat]]))).set p (.row 7 [[.int .i64 r.st, .slc (σ1.n + 1) 0 (r.line.length + 1), .int .i64 (r.size + 1), .int .i64 r.length, .int .i64 r.left, .nils, ov]])))
    (q := σ1.n + 1) (r' := { r with size := r.size + 1, line := r.line ++ [c] }) rfl h1.bn hs (by omega) (by simp) (by simp; omega) (by simp [cel]) (by simp; rw [if_neg (by omega)]; simp [byteE])
    (fun l hlt hne hrow => by rw [set_H, if_neg hne, new_H, if_neg (by simp; omega), grown_H, if_neg hrow, new_H, if_neg (by omega)])
  simp only [hll, cel] at h2 f2
  generalize (((grown (σ1.new (.row 1 [[.int .u8 c.toNat]])) lv).new (.row 1 (r.line.map byteE ++ [[.int .u8 c.toNat]]))).set p (.row 7 [[.int .i64 r.st, .slc (σ1.n + 1) 0 (r.line.length + 1), .int .i64 (r.size + 1), .int .i64 r.length, .int .i64 r.left, .nils, ov]])) = σ2 at h2 f2
  generalize V.slc (σ1.n + 1) 0 (r.line.length + 1) = lv2 at h2 f2
  have f12 := f1.trans f2
  clear hH hsrc hline' hlvn hpn f1 f2 h1 h17
  have h27 := h2.at_
  simp only [cel] at h27
  have hbs : Bs σ2 lv2 (r.line ++ [c]) := h2.line.rd
  have hlen2 := hbs.len
  rw [hll] at hlen2
  refine w_seq ?_
  refine w_regk [0, 1, 4] fun K KP hk hkp => ?_
  simp [h27, hlen2]
  apply hk; clear hk hkp K KP
  refine w_seq ?_
  refine w_seq ?_
  refine w_regk [0, 4, 36] fun K KP hk hkp => ?_
  simp
  apply hk; clear hk hkp K KP
  have hc10 : (c.toNat : Int) = 10 ↔ c = 10 := u8n (n := 10) (by omega)
  by_cases hc : c = 10
  rotate_left
  · refine w_yes (by simp [hc10, hc]) ?_
    refine w_ret (hq _ _ (by simp) ?_)
    have e : headerS r c = ({ r with size := r.size + 1, line := r.line ++ [c] }, []) := by unfold headerS; rw [if_neg hbig, if_pos hc]
    rw [e, List.append_nil]
    exact ⟨_, _, _, _, h2, f12⟩
  refine w_no (by simp [hc10, hc]) ?_
  refine w_skip ?_
  refine w_seq ?_
  refine w_seq ?_
  refine w_regk [0, 4, 49] fun K KP hk hkp => ?_
  have hgo : K [.ptr p 0 0, .int .i64 (r.line.length + 1), .bool (decide (r.line.length + 1 < 2 ∨ (r.line ++ [c])[r.line.length - 1]? ≠ some 13))] [] σ2 := by
    apply hk; clear hk hkp K KP
    by_cases hbad : r.line.length + 1 < 2 ∨ (r.line ++ [c])[r.line.length - 1]? ≠ some 13
    · refine w_yes (vT hbad) ?_
      refine w_seq ?_
      refine w_regk [] fun K KP hk hkp => ?_
      simp
      refine (broken_o h2 (by simp [hs]) hl).mono ?_
      rintro _ σ3 ⟨rfl, g3⟩
      apply hk; clear hk hkp K KP
      refine w_ret (hq _ _ (by simp) ?_)
      have e : headerS r c = brk { r with size := r.size + 1, line := r.line ++ [c] } := by unfold headerS; rw [if_neg hbig, if_neg (by simp [hc]), if_pos hbad]
      rw [e]
      exact Goes.of f12 g3
    refine w_no (vF hbad) ?_
    refine w_skip ?_
    have hl1 : 1 ≤ r.line.length := by omega
    refine w_seq ?_
    refine w_regk [0, 5] fun K KP hk hkp => ?_
    have hw : IntKind.i64.wrap (r.line.length + 1 - 2) = (r.line.length - 1 : Nat) := by rw [IntWalk.i64_in _ (by omega)]; omega
    simp [h27, hw]
    rw [hbs.lslTo (b := r.line.length - 1) (k := .i64) (by simp) (by simp; omega)]
    simp
    apply hk; clear hk hkp K KP
    have hcut := hbs.cut (a := 0) (b := r.line.length - 1) (by omega) (by simp; omega)
    rw [List.drop_zero] at hcut
    generalize hlw : cutV lv2 0 (r.line.length - 1) = lw at hcut
    obtain ⟨h3, f3⟩ := own_noline h2 (r' := { r with size := r.size + 1, line := [] }) rfl rfl h2.bn
    simp only [cel] at h3 f3
    refine w_seq ?_
    refine w_regk [0, 5] fun K KP hk hkp => ?_
    simp [h27]
    apply hk; clear hk hkp K KP
    have hcut3 : Bs (σ2.set p (.row 7 [[.int .i64 r.st, .nils, .int .i64 (r.size + 1), .int .i64 r.length, .int .i64 r.left, .nils, ov]])) lw ((r.line ++ [c]).take (r.line.length - 1)) := by
      refine hcut.mono fun l off len e => ?_
      rw [set_H, if_neg]
      rintro rfl
      have : lv2.row = some l := by
        rw [← hlw] at e
        cases lv2 <;> simp [cutV, V.row] at e ⊢
        exact e.1
      have hnd := h2.nd
      unfold names at hnd
      rw [List.nodup_cons] at hnd
      exact hnd.1 (by simp [mem_rowL, this])
    generalize σ2.set p (.row 7 [[.int .i64 r.st, .nils, .int .i64 (r.size + 1), .int .i64 r.length, .int .i64 r.left, .nils, ov]]) = σ3 at h3 f3 hcut3
    have f13 := f12.trans f3
    have hlen3 := hcut3.len
    have hll3 : ((r.line ++ [c]).take (r.line.length - 1)).length = r.line.length - 1 := by simp; omega
    rw [hll3] at hlen3
    refine w_seq ?_
    refine w_seq ?_
    refine w_regk [0, 5, 64] fun K KP hk hkp => ?_
    simp [hlen3]
    apply hk; clear hk hkp K KP
    by_cases hl0 : r.line.length = 1
    · refine w_yes (by simp [hl0]) ?_
      refine w_seq ?_
      refine w_regk [] fun K KP hk hkp => ?_
      simp
      refine (begin_o h3 hs hg.length hl).mono ?_
      rintro _ σ4 ⟨rfl, g4⟩
      apply hk; clear hk hkp K KP
      refine w_ret (hq _ _ (by simp) ?_)
      have e : headerS r c = beginS { r with size := r.size + 1, line := [] } := by unfold headerS; rw [if_neg hbig, if_neg (by simp [hc]), if_neg hbad, if_pos hl0]
      rw [e]
      exact Goes.of f13 g4
    refine w_no (by simp; omega) ?_
    refine w_skip ?_
    refine w_seq ?_
    refine w_regk [0, 70] fun K KP hk hkp => ?_
    simp
    refine (field_o h3 hcut3 (by rw [hll3]; omega)).mono ?_
    rintro _ σ4 ⟨rfl, h4, f4⟩
    simp
    apply hk; clear hk hkp K KP
    have e : headerS r c = match fieldS { r with size := r.size + 1, line := [] } ((r.line ++ [c]).take (r.line.length - 1)) with
      | none => brk { r with size := r.size + 1, line := [] }
      | some r' => (r', []) := by unfold headerS; rw [if_neg hbig, if_neg (by simp [hc]), if_neg hbad, if_neg hl0]
    have f14 := f13.trans f4
    cases hf : fieldS { r with size := r.size + 1, line := [] } ((r.line ++ [c]).take (r.line.length - 1)) with
    | none =>
      rw [hf] at h4 e
      refine w_yes (by simp) ?_
      refine w_reg fun K KP hk hkp => ?_
      simp
      refine (broken_o h4 (by simp [hs]) hl).mono ?_
      rintro _ σ5 ⟨rfl, g5⟩
      refine hk _ _ (w_end (hq' _ _ (by simp) ?_))
      rw [e]
      exact Goes.of f14 g5
    | some r' =>
      rw [hf] at h4 e
      refine w_no (by simp) (w_skip (w_end (hq' _ _ (by simp) ?_)))
      rw [e, List.append_nil]
      exact ⟨_, _, _, _, h4, f14⟩
  by_cases hb1 : (r.line.length : Int) + 1 < 2
  · have hb2 : r.line.length + 1 < 2 := by omega
    simpa [hb1, hb2] using hgo
  · have hb2 : ¬ r.line.length + 1 < 2 := by omega
    have hl1 : 1 ≤ r.line.length := by omega
    have hw : IntKind.i64.wrap (r.line.length + 1 - 2) = (r.line.length - 1 : Nat) := by rw [IntWalk.i64_in _ (by omega)]; omega
    obtain ⟨d, hd⟩ : ∃ d, (r.line ++ [c])[r.line.length - 1]? = some d := ⟨_, List.getElem?_eq_getElem (by simp; omega)⟩
    have hd13 : (d.toNat : Int) = 13 ↔ d = 13 := u8n (n := 13) (by omega)
    rw [hd] at hgo
    simpa [hb1, hb2, h27, hw, hbs.at (k := .i64) (i := r.line.length - 1) (by simp; omega), hbs.ld hd, hd13] using hgo
end
end Go.Proofs.YtmjbnfldehbmcaaDoor
