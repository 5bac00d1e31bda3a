/-
The walk over the program's texts, told with what its values say: a part of it. No further condition.
-/
import Derived.Test.YtmjbnfldehbmcaaDoorAbDB
namespace Go.Proofs.YtmjbnfldehbmcaaDoor
open Go.Proofs.YtmjbnfldehbmcaaDoor.Ab
set_option linter.unusedVariables false
def takeN (r : R) (b : List UInt8) : Nat := min b.length r.left.toNat
def takeS (r : R) (b : List UInt8) : R × List Msg :=
  if r.left - takeN r b = 0 then ({ r with left := 0, st := 0, body := [] }, if r.st = 1 then [(1, r.body ++ b.take (takeN r b))] else [])
  else ({ r with left := r.left - takeN r b, body := if r.st = 1 then r.body ++ b.take (takeN r b) else r.body }, [])
section
variable {σ : St} {p : Nat} {r : R} {ms : List Msg} {lv bv ov : V} {oes : List (List V)}
theorem take_o (h : Own σ p r ms lv bv ov oes) (hs : r.st = 1 ∨ r.st = 2) (hg : Good r) (hl : ms.length < 2 ^ 40) {v : V} {b : List UInt8} (hv : Bs σ v b) (hvn : ∀ l, v.row = some l → l ∉ names p lv bv ov oes) (hb : 0 < b.length ∧ b.length < 2 ^ 40) :
    CCalls Tryd.prog 15 [.ptr p 0 0, v] σ (fun o σ' => o = .ret (.int .i64 (takeN r b)) ∧ Goes σ p (names p lv bv ov oes) (takeS r b).1 (ms ++ (takeS r b).2) σ') := by
  obtain rfl := h.ln (by omega)
  have hline : r.line = [] := by
    rcases h.line with ⟨_, h⟩ | ⟨l, h, _⟩
    · simpa using h
    · simp at h
  obtain ⟨n, hn⟩ : ∃ n, n = takeN r b := ⟨_, rfl⟩
  have hleft := hg.left
  have hpos : 0 < r.left := by
    rcases hs with hs | hs
    · exact (hg.body hs).1
    · exact hg.skip hs
  have hnn : (n : Int) = if r.left < b.length then r.left else b.length := by rw [hn]; unfold takeN; split <;> omega
  have hn1 : 1 ≤ n := by rw [hn]; unfold takeN; omega
  have hnb : n ≤ b.length := by rw [hn]; unfold takeN; omega
  have hnl : (n : Int) ≤ r.left := by rw [hn]; unfold takeN; omega
  rw [← hn]
  refine w_fn ok15 (by simp [c15]) fun Q hn' hr' hpq => ?_
  simp only [c15] at *
  have hq : ∀ f' σ', f'.ds = [] → f'.env 4 = .int .i64 n → Goes σ p (names p .nils bv ov oes) (takeS r b).1 (ms ++ (takeS r b).2) σ' → Q .ret f' σ' := fun f σ' h1 h2 h3 => hr' f _ ⟨h1, _, by simp [retV, resL, resV, one, h2], rfl, h3⟩
  clear hn' hr' hpq
  have h7 := h.at_
  simp only [cel] at h7
  have hlen := hv.len
  have hw : IntKind.i64.wrap (r.left - n) = r.left - n := IntWalk.i64_in _ (by omega)
  refine w_seq ?_
  refine w_regk [0, 1] fun K KP hk hkp => ?_
  simp
  apply hk; clear hk hkp K KP
  refine w_seq ?_
  refine w_regk [0, 1, 5] fun K KP hk hkp => ?_
  simp [h7, hlen]
  rw [← hnn]
  apply hk; clear hk hkp K KP
  refine w_seq ?_
  refine w_regk [0, 1, 5] fun K KP hk hkp => ?_
  simp [h7, hw]
  apply hk; clear hk hkp K KP
  obtain ⟨h1, f1⟩ := h.nums { r with left := r.left - n } rfl rfl h.bn (fun _ => rfl)
  simp only [cel] at h1 f1
  have hv1 : Bs (σ.set p (.row 7 [[.int .i64 r.st, .nils, .int .i64 r.size, .int .i64 r.length, .int .i64 (r.left - n), bv, ov]])) v b := hv.mono fun l off len e => by
    rw [set_H, if_neg]
    rintro rfl
    exact hvn l (by rw [e]; rfl) (by simp [names])
  generalize σ.set p (.row 7 [[.int .i64 r.st, .nils, .int .i64 r.size, .int .i64 r.length, .int .i64 (r.left - n), bv, ov]]) = σ1 at h1 f1 hv1
  have h17 := h1.at_
  simp only [cel] at h17
  -- behind the first choice
  have rest : ∀ f' σ2 bv2 body2, f'.ds = [] → f'.env 0 = .ptr p 0 0 → f'.env 5 = .int .i64 n → Own σ2 p { r with left := r.left - n, body := body2 } ms .nils bv2 ov oes → Fm σ σ2 (names p .nils bv ov oes) (names p .nils bv2 ov oes) →
      (body2 = if r.st = 1 then r.body ++ b.take n else r.body) → CS planOf Tryd.prog 60 [.seq (.seq (.reg [⟨some 37, none, .mv (.t 0)⟩,
  ⟨some 38, none, .nilck (.t 37)⟩,
  ⟨some 39, none, .fa 4 (.t 38)⟩,
  ⟨some 40, none, .ld (.t 39)⟩,
  ⟨some 41, none, .bin .eql (.t 40) (.c (.int .i64 0))⟩]) (.cond (.t 41) (.seq (.seq (.reg [⟨some 42, none, .mv (.t 0)⟩,
  ⟨some 43, none, .nilck (.t 42)⟩,
  ⟨some 44, none, .fa 0 (.t 43)⟩,
  ⟨some 45, none, .ld (.t 44)⟩,
  ⟨some 46, none, .bin .eql (.t 45) (.c (.int .i64 1))⟩]) (.cond (.t 46) (.reg [⟨some 47, none, .mv (.t 0)⟩,
  ⟨some 48, none, .mv (.t 0)⟩,
  ⟨some 49, none, .nilck (.t 48)⟩,
  ⟨some 50, none, .fa 5 (.t 49)⟩,
  ⟨some 51, none, .ld (.t 50)⟩,
  ⟨some 52, none, .call 20 [.t 47, .c (.int .i64 1), .t 51]⟩]) .skip)) (.reg [⟨some 53, none, .mv (.t 0)⟩,
  ⟨some 54, none, .mv (.t 0)⟩,
  ⟨some 55, none, .nilck (.t 53)⟩,
  ⟨some 56, none, .fa 0 (.t 55)⟩,
  ⟨none, none, .st 1 (.t 56) (.c (.int .i64 0))⟩,
  ⟨some 57, none, .nilck (.t 54)⟩,
  ⟨some 58, none, .fa 5 (.t 57)⟩,
  ⟨none, none, .st 1 (.t 58) (.c (.nils))⟩])) .skip)) (.seq (.reg [⟨some 59, none, .mv (.t 5)⟩,
  ⟨some 4, none, .mv (.t 59)⟩]) .ret)] f' σ2 Q := by
    intro f' σ2 bv2 body2 hd h0 h5 h2 f2 hbody
    have h27 := h2.at_
    simp only [cel] at h27
    refine w_seq ?_
    refine w_seq ?_
    refine w_regk [0, 5, 41] fun K KP hk hkp => ?_
    simp [h0, h5, hd, h27]
    apply hk; clear hk hkp K KP
    have fin : ∀ f' σ', f'.ds = [] → f'.env 5 = .int .i64 n → Goes σ p (names p .nils bv ov oes) (takeS r b).1 (ms ++ (takeS r b).2) σ' → CS planOf Tryd.prog 60 [.seq (.reg [⟨some 59, none, .mv (.t 5)⟩,
      ⟨some 4, none, .mv (.t 59)⟩]) .ret] f' σ' Q := fun f' σ' hd h5 hg => by
      refine w_seq ?_
      refine w_regk [4] fun K KP hk hkp => ?_
      simp [h5, hd]
      exact hk _ _ _ (w_ret (hq _ _ rfl (by simp) hg))
    by_cases hz : r.left - n = 0
    rotate_left
    · refine w_no (vF hz) ?_
      refine w_skip (fin _ _ rfl (by simp) ?_)
      have e : takeS r b = ({ r with left := r.left - n, body := body2 }, []) := by unfold takeS; rw [← hn, if_neg hz, hbody]
      rw [e, List.append_nil]
      exact ⟨_, _, _, _, h2, f2⟩
    refine w_yes (vT hz) ?_
    have e : takeS r b = ({ r with left := 0, st := 0, body := [] }, if r.st = 1 then [(1, body2)] else []) := by
      unfold takeS; rw [← hn, if_pos hz, hbody]
      split <;> rfl
    refine w_seq ?_
    refine w_seq ?_
    refine w_regk [0, 5, 46] fun K KP hk hkp => ?_
    simp [h27]
    apply hk; clear hk hkp K KP
    by_cases h1' : r.st = 1
    · refine w_yes (vT h1') ?_
      refine w_regk [0, 5] fun K KP hk hkp => ?_
      simp [h27]
      refine (emit_p (h2.pre hl) 1 bv2 h2.body.scal).mono ?_
      rintro _ σ3 ⟨rfl, hσ3⟩
      apply hk; clear hk hkp K KP
      obtain ⟨h3, f3⟩ := own_emit h2 (r' := { r with left := 0, st := 0, body := [] }) hline rfl 1
      simp only [] at h3 f3
      subst hσ3
      refine w_regk [5] fun K KP hk hkp => ?_
      simp [emitS_re]
      apply hk; clear hk hkp K KP
      refine fin _ _ rfl (by simp) ?_
      rw [e, if_pos h1']
      rw [show r.left - n = 0 from hz]
      exact ⟨_, _, _, _, h3, f2.trans f3⟩
    refine w_no (vF h1') ?_
    refine w_skip ?_
    refine w_regk [5] fun K KP hk hkp => ?_
    simp [h27]
    apply hk; clear hk hkp K KP
    refine fin _ _ rfl (by simp) ?_
    rw [e, if_neg h1', List.append_nil]
    have hbv : bv2 = .nils := h2.bn h1'
    subst hbv
    obtain ⟨h3, f3⟩ := h2.nums { r with left := 0, st := 0, body := [] } rfl (by rw [(h2.bodyNil h1').2]) (fun _ => rfl) (fun h => absurd rfl h)
    simp only [cel] at h3 f3
    rw [hz]
    exact ⟨_, _, _, _, h3, f2.trans f3⟩
  refine w_seq ?_
  refine w_seq ?_
  refine w_regk [0, 1, 5, 25] fun K KP hk hkp => ?_
  simp [h17]
  apply hk; clear hk hkp K KP
  by_cases h1' : r.st = 1
  · refine w_yes (vT h1') ?_
    refine w_drwk [0, 5] fun K KP hk hkp => ?_
    simp [h17]
    rw [hv1.lslTo (b := n) (k := .i64) (by simp) hnb]
    have hcut := hv1.cut (a := 0) (b := n) (by omega) hnb
    rw [List.drop_zero] at hcut
    have hgb := hg.body h1'
    simp
    obtain ⟨ys, hys⟩ : ∃ ys, ys = (b.take n).map byteE := ⟨_, rfl⟩
    have hml : ys.length = n := by rw [hys]; simp; omega
    have hcut' : Rd σ1 1 (cutV v 0 n) ys := by rw [hys]; exact hcut
    have hbl : (r.body.map byteE).length = r.body.length := by simp
    rw [h1.body.app (srcOf_rd hcut') (fun e => by rw [e] at hml; simp at hml; omega) (by rw [hml, hbl]; simp only [reach]; omega) (by rw [hml, hbl]; simp only [reach]; omega)]
    rw [hml, hbl]
    have hpn : p < σ1.n := h1.lt p (by simp [names])
    have hbvn : bv.row ≠ some p := fun e => by
      have := h1.nd
      unfold names at this
      rw [List.nodup_cons] at this
      exact this.1 (by simp [mem_rowL, e])
    have hH : ((grown σ1 bv).new (.row 1 (r.body.map byteE ++ ys))).H p = some (.row 7 [[.int .i64 r.st, .nils, .int .i64 r.size, .int .i64 r.length, .int .i64 (r.left - n), bv, ov]]) := by
      rw [new_H, if_neg (by simp; omega), grown_H, if_neg hbvn, h17]
    simp [hH, -new_H]
    apply hk; clear hk hkp K KP
    have hbb : (r.body ++ b.take n).length = r.body.length + n := by simp; omega
    obtain ⟨h2, f2⟩ := own_body h1 (σ' := ((grown σ1 bv).new (.row 1 (r.body.map byteE ++ ys))).set p (.row 7 [[.int .i64 r.st, .nils, .int .i64 r.size, .int .i64 r.length, .int .i64 (r.left - n), .slc σ1.n 0 (r.body.length + n), ov]]))
      (q := σ1.n) (r' := { r with left := r.left - n, body := r.body ++ b.take n }) rfl h1' h1' (by omega) (by simp) (by simp) (by simp only [set_H, cel, if_pos, hbb]) (by rw [set_H, if_neg (by omega), hys]; simp)
      (fun l hlt hne hrow => by rw [set_H, if_neg hne, new_H, if_neg (by simp; omega), grown_H, if_neg hrow])
    exact rest _ _ _ _ rfl rfl rfl h2 (f1.trans f2) (by rw [if_pos h1'])
  refine w_no (vF h1') ?_
  refine w_skip ?_
  refine rest _ _ _ _ (by simp) (by simp) (by simp) h1 f1 (by rw [if_neg h1'])
end
end Go.Proofs.YtmjbnfldehbmcaaDoor
