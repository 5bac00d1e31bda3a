/-
The walk over the program's texts, told with what its values say: a part of it. No further condition.
-/
import Derived.Test.YtmjbnfldehbmcaaDoorAbDZ
namespace Go.Proofs.YtmjbnfldehbmcaaDoor
open Go.Proofs.YtmjbnfldehbmcaaDoor.Ab
set_option linter.unusedVariables false
open Lib (decDigits)
theorem urem (a : Int) (m : Nat) (hm : 0 < m) (hm2 : m < 2 ^ 40) : ∃ x : Nat, x < m ∧ (IntKind.u64.wrap a).tmod m = x ∧ IntKind.i64.wrap (x : Int) = x := by
  have h0 : 0 ≤ IntKind.u64.wrap a := by simp [IntKind.wrap, IntKind.signed, IntKind.bits]; omega
  obtain ⟨u, hu⟩ := Int.eq_ofNat_of_zero_le h0
  rw [hu]
  have := Nat.mod_lt u hm
  exact ⟨u % m, this, by rw [Int.tmod_eq_emod_of_nonneg (by omega)]; simp, IntWalk.i64_in _ (by omega)⟩
theorem skips_c (σ : St) (more part : Int) (v : V) (b : List UInt8) (hv : ∀ σ, Bs σ v b) (hr : v.row = none) (ht : Tab σ) : CCalls Tryd.prog 4 [.int .i64 more, .int .i64 part, v] σ (fun o σ' => o = .ret (.bool true)) := by
  refine w_fn ok4 (by simp [c4]) fun Q hn hr' hpq => ?_
  simp only [c4] at *
  have hq : ∀ f' σ', f'.ds = [] → f'.env 6 = .bool true → Q .ret f' σ' := fun f σ' h1 h2 => hr' f _ ⟨h1, _, by simp [retV, resL, resV, one, h2], rfl⟩
  clear hn hr' hpq
  have l1 := (hv σ).len
  have hvn : ∀ (σ : St) l, v.row = some l → l < σ.n := fun σ l e => by rw [hr] at e; simp at e
  refine w_seq ?_
  refine w_regk [0, 1, 2] fun K KP hk hkp => ?_
  simp
  apply hk; clear hk hkp K KP
  refine w_seq ?_
  refine w_seq ?_
  refine w_regk [0, 1, 2, 22] fun K KP hk hkp => ?_
  simp
  refine (ccalls_base (framed_c σ)).mono ?_
  rintro _ σ1 ⟨rfl, hW1⟩
  simp [l1]
  apply hk; clear hk hkp K KP
  by_cases hc : (2000 : Int) < b.length
  · refine w_yes (vT hc) ?_
    refine w_seq ?_
    refine w_regk [6] fun K KP hk hkp => ?_
    simp
    refine (framed_c σ1).mono ?_
    rintro _ σ2 rfl
    simp
    exact hk _ _ _ (w_ret (hq _ _ rfl (by simp)))
  refine w_no (vF hc) ?_
  refine w_skip ?_
  obtain ⟨x, hx, e1, e2⟩ := urem more 1000 (by omega) (by omega)
  obtain ⟨y, hy, e3, e4⟩ := urem part 60000 (by omega) (by omega)
  replace e1 : (IntKind.u64.wrap more).tmod 1000 = x := e1
  replace e3 : (IntKind.u64.wrap part).tmod 60000 = y := e3
  obtain ⟨n, hn⟩ : ∃ n, n = 16777217 + x := ⟨_, rfl⟩
  obtain ⟨q, hq'⟩ : ∃ q, q = 1000 + y := ⟨_, rfl⟩
  have e5 : IntKind.i64.wrap (16777217 + (x : Int)) = (n : Int) := by rw [IntWalk.i64_in _ (by omega)]; omega
  have e6 : IntKind.i64.wrap (1000 + (y : Int)) = (q : Int) := by rw [IntWalk.i64_in _ (by omega)]; omega
  refine w_seq ?_
  refine w_regk [1, 2, 7] fun K KP hk hkp => ?_
  simp [e1, e2, e5]
  apply hk; clear hk hkp K KP
  refine w_seq ?_
  refine w_regk [1, 2, 7] fun K KP hk hkp => ?_
  simp [e3, e4, e6]
  apply hk; clear hk hkp K KP
  clear e1 e2 e3 e4 e5 e6
  refine w_seq ?_
  refine w_regk [1, 2, 7, 8] fun K KP hk hkp => ?_
  simp
  apply hk; clear hk hkp K KP
  refine w_seq ?_
  refine w_seq ?_
  refine w_regk [1, 2, 7, 8, 9] fun K KP hk hkp => ?_
  simp
  apply hk; clear hk hkp K KP
  have hdl : (decDigits n).length ≤ 10 := dec_len 9 n (by omega)
  refine w_block fun Q0 hn0 he0 hx0 hr0 hp0 => ?_
  refine w_loopk [1, 2, 7, 8, 9] (fun k vs σ' => ∃ (s : List UInt8), vs = [.int .i64 q, v, .int .i64 n, .str s, .int .i64 k] ∧ decDigits n = (if 0 < k then decDigits k else []) ++ s ∧ k ≤ n ∧ σ'.W = σ.W) n ⟨[], by simp, by rw [if_pos (by omega)]; simp, by omega, hW1⟩ ?_
  rintro k vs σ2 ⟨s, rfl, hs, hkn, hW⟩ Qz z1 z2 z3 z4
  refine w_seq ?_
  refine w_seq ?_
  refine w_regk [1, 2, 7, 8, 9, 36] fun K KP hk hkp => ?_
  simp
  apply hk; clear hk hkp K KP
  by_cases hk0 : (0 : Int) < k
  · refine w_yes (by simp; omega) ?_
    refine w_skip ?_
    refine w_seq ?_
    refine w_block fun Q1 hn1 he1 hx1 hr1 hp1 => ?_
    refine w_reg fun K KP hk hkp => ?_
    have hsl : s.length ≤ 10 := by
      have := congrArg List.length hs
      rw [List.length_append] at this
      omega
    have hm10 : (k : Int).tmod 10 = ((k % 10 : Nat) : Int) := by rw [Int.tmod_eq_emod_of_nonneg (by omega)]; omega
    have hw1 : IntKind.i64.wrap (48 + (k : Int).tmod 10) = ((48 + k % 10 : Nat) : Int) := by rw [hm10, IntWalk.i64_in _ (by omega)]; omega
    have hw2 : IntKind.u8.wrap ((48 + k % 10 : Nat) : Int) = ((48 + k % 10 : Nat) : Int) := IntWalk.u8_in _ (by omega)
    obtain ⟨c, hc'⟩ : ∃ c : UInt8, c = UInt8.ofNat (48 + k % 10) := ⟨_, rfl⟩
    have hct : ((48 + k % 10 : Nat) : Int) = (c.toNat : Int) := by rw [hc']; simp; omega
    have hbs : Bs (σ2.new (.row 1 [byteE c])) (.slc σ2.n 0 1) [c] := by simp [Bs, Rd, cont]
    have hb2 := hbs.b2s
    have l3 : 1 + s.length ≤ 9223372036854775807 := by omega
    simp only [byteE] at hb2
    rw [hct] at hw1 hw2
    simp [hw1, hw2, hb2, l3]
    refine hk _ _ (w_end (hn1 _ _ ?_))
    clear hk hkp K KP
    refine w_keep [1, 2, 7, 8, 9] ?_
    refine w_reg fun K KP hk hkp => ?_
    have hd10 : IntKind.i64.wrap ((k : Int) / 10) = ((k / 10 : Nat) : Int) := by rw [IntWalk.i64_in _ (by omega)]; omega
    simp [hd10]
    refine hk _ _ (w_end (z1 (k / 10) _ _ rfl (by omega) ⟨c :: s, by simp, ?_, by omega, by simp [hW]⟩))
    rw [hs, if_pos (by omega)]
    rw [decDigits]
    split
    · rename_i h
      rw [if_neg (by omega), hc', Nat.mod_eq_of_lt h]; rfl
    · rename_i h
      rw [if_pos (by omega), hc']; simp
  refine w_no (by simp; omega) ?_
  refine w_exit (z2 _ _ _ (he0 _ _ ?_))
  obtain rfl : k = 0 := by omega
  rw [if_neg (by omega), List.nil_append] at hs
  subst hs
  clear hk0 hkn z1 z2 z3 z4 Qz hn0 he0 hx0 hr0 hp0 Q0
  refine w_keep [1, 2, 7, 8] ?_
  refine w_seq ?_
  refine w_regk [1, 2, 7, 8, 10] fun K KP hk hkp => ?_
  simp
  refine (ccalls_base (new_c σ2)).mono ?_
  rintro _ σ3 ⟨⟨rfl, o3, n3, k3⟩, hW3⟩
  simp
  apply hk; clear hk hkp K KP
  generalize hp : σ2.n = p at o3 k3 n3
  refine w_seq ?_
  refine w_regk [1, 2, 7, 10, 11] fun K KP hk hkp => ?_
  have l2 : 16 + (decDigits n).length ≤ 9223372036854775807 := by omega
  have l3 : (decDigits n).length + 1 + 1 + 1 + 1 + 1 + 1 + 1 + 1 + 1 + 1 + 1 + 1 + 1 + 1 + 1 + 1 + 4 ≤ 9223372036854775807 := by omega
  obtain ⟨h, hh⟩ : ∃ h, h = hdr n ++ [13, 10] ++ [13, 10] := ⟨_, rfl⟩
  have hhl : h.length ≤ 30 := by rw [hh]; simp [hdr]; omega
  have hgo : CCalls Tryd.prog 11 [.ptr p 0 0, .slc σ3.n 0 h.length] (σ3.new (.row 1 (h.map byteE))) fun o σ' => ∃ v', o = .ret v' ∧ K [.int .i64 q, v, .int .i64 n, .ptr p 0 0, v'] [] σ' := by
    have o4 : Own (σ3.new (.row 1 (h.map byteE))) p r0 [] .nils .nils .nils [] := by
      have keep : ∀ l, l < σ3.n → (σ3.new (.row 1 (h.map byteE))).H l = σ3.H l := fun l hl => by rw [new_H, if_neg (by omega)]
      exact ⟨by rw [keep p (by omega)]; exact o3.at_, .inl ⟨rfl, rfl⟩, .inl ⟨rfl, rfl⟩, .inl ⟨rfl, rfl⟩, trivial, o3.bn, o3.ln, o3.nd, fun l hl => by have := o3.lt l hl; simp; omega⟩
    refine (ccalls_base (feed_c o4 good0 (show Bs (σ3.new (.row 1 (h.map byteE))) (.slc σ3.n 0 h.length) h by simp [Bs, Rd, cont, List.take_of_length_le]) (fun l e => ?_) (by omega))).mono ?_
    · simp [V.row] at e; subst e
      refine ⟨?_, by simp⟩
      simp [names, rowL, V.row]; omega
    rintro _ σ4 ⟨⟨lv, bv, ov, oes, rfl, f4, g4, fm4⟩, hW4⟩
    rw [hh, fed_head (by omega) (by omega)] at f4
    refine ⟨_, rfl, ?_⟩
    apply hk; clear hk hkp K KP
    simp only at f4
    have hoff : Off σ4 (rowL ov ++ oes.flatMap msgRow) (names p lv bv .nils []) := fun l hl => by
      have hnd := f4.nd
      have hlt := f4.lt l (by unfold names; simp only [List.mem_cons, List.mem_append] at hl ⊢; exact .inr (.inr (.inr hl)))
      refine ⟨fun hm => ?_, hlt⟩
      unfold names at hnd hm
      simp only [List.nodup_cons, List.nodup_append, List.mem_append, not_or] at hnd
      simp only [List.flatMap_nil, List.append_nil, List.mem_cons, List.mem_append] at hm hl
      obtain ⟨⟨pl, pb, po, pm⟩, lN, ⟨bN, ⟨oN, mN, dom⟩, db⟩, dl⟩ := hnd
      have hrow : l ∉ rowL V.nils := by simp [rowL, V.row]
      rcases hm with rfl | hm | hm | hm
      · rcases hl with h | h
        · exact po h
        · exact pm h
      · exact dl l hm l (.inr hl) rfl
      · exact db l hm l hl rfl
      · exact hrow hm
    have hown := f4.own
    have hout := f4.out
    have hmsg := f4.msgs
    have hW4' : σ4.W = σ.W := by rw [hW4]; simp [hW3, hW]
    clear f4 g4 fm4 hW4 o4 o3 k3 n3 hW3 hh hhl h hp l2 l3
    obtain ⟨A, hA⟩ : ∃ A, A = rowL ov ++ oes.flatMap msgRow := ⟨_, rfl⟩
    rw [← hA] at hoff
    have hqr : q ≤ 61000 := by omega
    refine w_seq ?_
    refine w_regk [1, 2, 7, 10, 11, 12] fun K KP hk hkp => ?_
    have hq0 : (0 : Int) ≤ q := by omega
    have hq1 : (q : Int) ≤ reach := by simp only [reach]; omega
    simp [hq1]
    apply hk; clear hk hkp K KP
    refine w_seq ?_
    refine w_seq ?_
    refine w_regk [1, 2, 10, 11, 12, 13] fun K KP hk hkp => ?_
    simp
    apply hk; clear hk hkp K KP
    obtain ⟨zz, hzz⟩ : ∃ zz : List UInt8, zz = List.replicate q 0 := ⟨_, rfl⟩
    have hzl : zz.length = q := by rw [hzz]; simp
    have hzm : List.replicate q [V.int .u8 0] = zz.map byteE := by rw [hzz]; simp [byteE]
    rw [hzm]
    obtain ⟨σ5, hσ5⟩ : ∃ σ5, σ5 = σ4.new (.row 1 (zz.map byteE)) := ⟨_, rfl⟩
    rw [← hσ5]
    have hk5 : ∀ l, l < σ4.n → σ5.H l = σ4.H l := fun l hl => by rw [hσ5, new_H, if_neg (by omega)]
    have hz5 : Bs σ5 (.slc σ4.n 0 q) zz := by rw [hσ5]; simp [Bs, Rd, cont, ← hzl, List.take_of_length_le]
    have ho5 : Off σ5 (σ4.n :: A) (names p lv bv .nils []) := fun l hl => by
      rcases List.mem_cons.1 hl with rfl | hl
      · exact ⟨fun hm => by have := hown.lt _ hm; omega, by rw [hσ5]; simp⟩
      · exact ⟨(hoff l hl).1, by have := (hoff l hl).2; rw [hσ5]; simp; omega⟩
    have hown5 : Own σ5 p (rl n) [] lv bv .nils [] := by
      have hlt := hown.lt
      refine ⟨by rw [hk5 p (hlt p (by simp [names]))]; exact hown.at_, hown.line.mono fun l e => hk5 l (hlt l (by simp [names, mem_rowL, e])), hown.body.mono fun l e => hk5 l (hlt l (by simp [names, mem_rowL, e])), .inl ⟨rfl, rfl⟩, trivial, hown.bn, hown.ln, hown.nd, fun l hl => ?_⟩
      have := hlt l hl
      rw [hσ5]; simp; omega
    have hout5 : Sl σ5 2 ov oes := hout.mono fun l e => hk5 l (hoff l (by rw [hA]; simp [mem_rowL, e])).2
    have hmsg5 : Msgs σ5 oes [(2, [])] := hmsg.mono fun l hl => hk5 l (hoff l (by rw [hA]; simp only [List.mem_append]; exact .inr hl)).2
    have hW5 : σ5.W = σ.W := by rw [hσ5]; simp [hW4']
    obtain ⟨z0, hz0⟩ : ∃ z0, z0 = σ4.n := ⟨_, rfl⟩
    rw [← hz0] at hz5 ho5 ⊢
    clear hσ5 hk5 hown hoff hout hmsg hW4' hzm hzz
    clear hz0
    refine w_block fun Q0 hn0 he0 hx0 hr0 hp0 => ?_
    refine w_loopk [1, 2, 10, 11, 12, 13] (fun k vs σ' => ∃ lv' bv', vs = [.int .i64 q, v, .ptr p 0 0, ov, .slc z0 0 q, .int .i64 k] ∧ k ≤ n ∧ Own σ' p (rl k) [] lv' bv' .nils [] ∧ Off σ' (z0 :: A) (names p lv' bv' .nils []) ∧ (∀ l ∈ z0 :: A, σ'.H l = σ5.H l) ∧ σ'.W = σ.W) n
      ⟨lv, bv, by simp, by omega, hown5, ho5, fun _ _ => rfl, hW5⟩ ?_
    rintro k vs σ6 ⟨lv', bv', rfl, hkn, ho6, hof6, hk6, hW6⟩ Qz z1 z2 z3 z4
    have hg6 : Good (rl k) := by
      by_cases h0 : k = 0
      · rw [h0]; exact good0
      · rw [rl, if_neg h0]; exact good_rk (by omega) (by omega)
    refine w_seq ?_
    refine w_seq ?_
    refine w_regk [1, 2, 10, 11, 12, 13, 58] fun K KP hk hkp => ?_
    simp
    apply hk; clear hk hkp K KP
    by_cases hk0 : (0 : Int) < k
    · refine w_yes (by simp; omega) ?_
      refine w_skip ?_
      refine w_block fun Q3 hn3 he3 hx3 hr3 hp3 => ?_
      refine w_seq ?_
      refine w_regk [1, 2, 10, 11, 12, 13, 14] fun K KP hk hkp => ?_
      obtain ⟨m, hm⟩ : ∃ m, m = min k q := ⟨_, rfl⟩
      have hmi : (if q < k then (q : Int) else k) = (m : Int) := by split <;> omega
      simp [hmi]
      apply hk; clear hk hkp K KP
      refine w_seq ?_
      refine w_seq ?_
      refine w_regk [1, 2, 10, 11, 12, 13, 14, 68] fun K KP hk hkp => ?_
      have hz6 : Bs σ6 (.slc z0 0 q) zz := hz5.mono fun l off len e => hk6 l (by simp at e; simp [e.1])
      have hcut := hz6.cut (a := 0) (b := m) (by omega) (by omega)
      have hls := fun (env : Env) (hi : Opd) (h : hi.ev env = .int .i64 m) => hz6.lslTo (env := env) (hi := hi) (b := m) (k := .i64) h (by omega)
      have hbl : ((zz.take m).drop 0).length = m := by simp; omega
      simp [hls]
      refine (ccalls_base (feed_c ho6 hg6 hcut (fun l e => ?_) (by rw [hbl]; omega))).mono ?_
      · simp [cutV, V.row] at e; subst e; exact hof6 _ (by simp)
      rintro _ σ7 ⟨⟨lv7, bv7, ov7, oes7, rfl, f7, g7, fm7⟩, hW7⟩
      rw [fed_skip (by rw [hbl]; omega) (by rw [hbl]; omega) (by omega), hbl] at f7
      obtain ⟨hof7, hk7⟩ := hof6.fm fm7
      have l7 : lenV ov7 = some (.int .i64 0) := by rw [f7.out.rd.len, f7.msgs.len]; rfl
      simp [l7]
      apply hk; clear hk hkp K KP
      refine w_no (by simp) ?_
      refine w_skip ?_
      refine w_reg fun K KP hk hkp => ?_
      have hw : IntKind.i64.wrap ((k : Int) - m) = ((k - m : Nat) : Int) := by rw [IntWalk.i64_in _ (by omega)]; omega
      simp [hw]
      have hsub : Off σ7 (z0 :: A) (names p lv7 bv7 .nils []) := fun l hl => by
        refine ⟨fun hm => (hof7 l hl).1 ?_, (hof7 l hl).2⟩
        unfold names at hm ⊢
        simp only [List.flatMap_nil, List.append_nil, List.mem_cons, List.mem_append] at hm ⊢
        rcases hm with h | h | h | h
        · exact .inl h
        · exact .inr (.inl h)
        · exact .inr (.inr (.inl h))
        · simp [rowL, V.row] at h
      exact hk _ _ (w_end (hn3 _ _ (w_end (z1 (k - m) _ _ rfl (by omega) ⟨lv7, bv7, by simp, by omega, f7.own, hsub, fun l hl => (hk7 l hl).trans (hk6 l hl), hW7.trans hW6⟩))))
    refine w_no (by simp; omega) ?_
    refine w_exit (z2 _ _ _ (he0 _ _ ?_))
    obtain rfl : k = 0 := by omega
    refine w_keep [2, 10, 11] ?_
    refine w_seq ?_
    refine w_regk [2, 11, 15] fun K KP hk hkp => ?_
    simp
    refine (ccalls_base (write_c σ6 v b (hv σ6) (hvn σ6) (by omega) (by unfold Tab; rw [hW6]; exact ht))).mono ?_
    rintro _ σ7 ⟨⟨w, rfl, hw⟩, hW7⟩
    simp
    have keep : ∀ l, l < σ6.n → σ7.H l = σ6.H l := hw.H
    have ho7 : Own σ7 p (rl 0) [] lv' bv' .nils [] := by
      have hlt := ho6.lt
      exact ⟨by rw [keep p (hlt p (by simp [names]))]; exact ho6.at_, ho6.line.mono fun l e => keep l (hlt l (by simp [names, mem_rowL, e])), ho6.body.mono fun l e => keep l (hlt l (by simp [names, mem_rowL, e])), .inl ⟨rfl, rfl⟩, trivial, ho6.bn, ho6.ln, ho6.nd, fun l hl => Nat.lt_of_lt_of_le (hlt l hl) hw.n⟩
    have hof7 : Off σ7 A (names p lv' bv' .nils []) := fun l hl => ⟨(hof6 l (by simp [hl])).1, Nat.lt_of_lt_of_le (hof6 l (by simp [hl])).2 hw.n⟩
    have hwl : (wr b).length < 2 ^ 39 := by have := wr_len b (by omega); omega
    refine (feed_c ho7 hg6 (hw.sl.rd : Bs σ7 w (wr b)) (fun l e => ?_) hwl).mono ?_
    · obtain ⟨h1, h2⟩ := hw.row l e
      exact ⟨fun hm => by have := ho6.lt l hm; omega, h2⟩
    rintro _ σ8 ⟨lv8, bv8, ov8, oes8, rfl, f8, g8, fm8⟩
    rw [show rl 0 = r0 from rfl, show wr b = hdr b.length ++ [13, 10] ++ [13, 10] ++ b from rfl, written_fed b (by omega)] at f8
    obtain ⟨_, hk8⟩ := hof7.fm fm8
    have hall : ∀ l ∈ A, σ8.H l = σ5.H l := fun l hl => (hk8 l hl).trans ((keep l (hof6 l (by simp [hl])).2).trans (hk6 l (by simp [hl])))
    simp
    apply hk; clear hk hkp K KP
    refine w_seq ?_
    refine w_drwk [6] fun K KP hk hkp => ?_
    have hout8 : Sl σ8 2 ov oes := hout5.mono fun l e => hall l (by rw [hA]; simp [mem_rowL, e])
    have hmsg8 : Msgs σ8 oes [(2, [])] := hmsg5.mono fun l hl => hall l (by rw [hA]; simp only [List.mem_append]; exact .inr hl)
    obtain ⟨m1, a1, a2, a3, a4, a5, a6, a7⟩ := hmsg8.cell0 hout8
    obtain ⟨m2, b1, b2, b3, b4, b5, b6, b7⟩ := f8.msgs.cell0 f8.out
    have a6' := a6.len
    have b6' := b6.b2s
    have v6' := (hv σ8).b2s
    simp [a1, a2, a3, a4, a5, a6', a7, b1, b2, b3, b4, b5, b6', b7, v6']
    exact hk _ _ _ (w_ret (hq _ _ rfl (by simp)))
  simp [l2, l3]
  simp [hh, hdr] at hgo
  refine hgo.mono ?_
  rintro _ σ' ⟨v', rfl, h⟩
  exact h
theorem skips_top (W : World) (us : List V) (hu : TypedA [.one (.int .i64 .nil), .one (.int .i64 .nil), .one (.slc (.int .u8 .nil) .nil)] us) (ht : Lib.TabIs Tryd.prog W "internal/strconv.uint64pow10" .u64 Lib.pow10Tab) :
    CCalls Tryd.prog 4 us (σ0 W) (fun o _ => o = .ret (.bool true)) := by
  obtain ⟨v0, _, rfl, ⟨n0, _, e0, _, rfl⟩, v1, _, rfl, ⟨n1, _, e1, _, rfl⟩, v2, _, rfl, h2, rfl⟩ := hu
  simp at e0 e1; subst e0; subst e1
  obtain ⟨b, h1, h2, _⟩ := typed_bytes h2
  exact skips_c _ n0 n1 v2 b h1 h2 ht
end Go.Proofs.YtmjbnfldehbmcaaDoor
