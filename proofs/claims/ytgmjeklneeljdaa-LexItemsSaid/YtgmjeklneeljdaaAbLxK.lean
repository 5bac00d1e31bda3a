/-
The walk over the program's texts, told with what its values say: a part of it. No further condition.
-/
import Derived.Test.YtgmjeklneeljdaaAbY
namespace Go.Proofs.Ytgmjeklneeljdaa
open Go.Proofs.Ytgmjeklneeljdaa.Ab
set_option linter.unusedVariables false
set_option linter.unusedSimpArgs false
attribute [local simp] Gr.refl Gr.new Gr.set Gr.kill Nat.add_assoc r_cks chk wantG
structure LiI (σ0 σ : St) (e : Env) (m p : Nat) (v w : V) (k i : Nat) : Prop where
  q : σ0.n ≤ p ∧ p ≠ m ∧ σ0.n ≤ m ∧ m < σ.n ∧ p < σ.n
  gr : Gr σ0 σ
  hm : σ.H m = some (.lp .busy)
  hp : σ.H p = some (.row 1 [[v]])
  rs : ∃ r3 r4 r5 r6, e 0 = v ∧ e 3 = .ptr r3 0 0 ∧ e 4 = .ptr r4 0 0 ∧ e 5 = .ptr r5 0 0 ∧ e 6 = .ptr r6 0 0 ∧ σ.H r3 = some (.row 1 [[.int .i64 k]]) ∧ σ.H r4 = some (.row 1 [[.bool false]]) ∧ σ.H r5 = some (.row 1 [[w]]) ∧ σ.H r6 = some (.row 1 [[.int .i64 i]]) ∧
    r6 ≠ r3 ∧ r6 ≠ r4 ∧ r6 ≠ r5 ∧ r6 ≠ m ∧ r6 ≠ p ∧ r4 ≠ m ∧ r5 ≠ m ∧ r4 ≠ r5 ∧ σ0.n ≤ r6 ∧ σ0.n ≤ r4 ∧ r3 < σ.n ∧ r4 < σ.n ∧ r5 < σ.n ∧ r6 < σ.n
def LiQ (σ0 : St) (e : Env) (m p : Nat) (v w : V) (k : Nat) (f' : Fr) (σ' : St) : Prop := f'.ds = [.coll] ∧ f'.env = e ∧ ∃ σ2 i', LiI σ0 σ2 e m p v w k i' ∧ σ' = σ2.kill m
theorem items_loop {σ0 : St} {v w : V} {b : List UInt8} (hv : Bs σ0 v b) (ho : v.old σ0) (hb : b.length ≤ 2000) (hw : Tl 2 w ((itF b).map spE)) {k : Nat} {e : Env} {m p : Nat} {A B : D} (hA : A = b3_0) (hB : B = b3_1) {st : List SE} :
    ∀ (ls : List (Nat × Nat)) (i : Nat) (f : Fr) (σ : St), (itF b).drop i = ls → i ≤ (itF b).length → LiI σ0 σ e m p v w k i →
      Lands ET false [.c 4 none] st (LiQ σ0 e m p v w k) (run ET false [.c 4 none] (.rnd e [] m [24] A B 12 [.ptr p 0 0] (.str b) ((itF b).map spA) i :: .blk 0 :: st) f σ)
  | [], i, f, σ, hl, hi, hq => by
    have hlen := congrArg List.length hl
    simp at hlen
    have g1 : Bs (σ.set m (.lp .ready)) v b := hv.gr (hq.gr.set hq.q.2.2.1 _) ho
    rw [rnd_end hq.hm (it_box' (v := v) (by simp [hq.q.2.1, hq.hp]) g1 (by omega)) (by simp; omega)]
    simp
    exact .here ⟨rfl, rfl, σ, i, hq, rfl⟩
  | (x, y) :: ls, i, f, σ, hl, hi, hq => by
    obtain ⟨r3, r4, r5, r6, a0, a1, a2, a3, a4, c1, c2, c3, c4, n1, n2, n3, n4, n5, n6, n7, n8, n9, n10, n11, n12, n13, n14⟩ := hq.rs
    have g1 : Bs (σ.set m (.lp .ready)) v b := hv.gr (hq.gr.set hq.q.2.2.1 _) ho
    have hat : (itF b)[i]? = some (x, y) := by
      have := congrArg (·[0]?) hl
      simpa using this
    have hil : i < (itF b).length := (List.getElem?_eq_some_iff.1 hat).1
    have hnext : (itF b).drop (i + 1) = ls := by rw [← List.drop_drop, hl]; rfl
    have hitl := itF_len b
    obtain ⟨s1, hs1, g2, m1, b1, bm⟩ := lay_cell hq.hm hq.q.2.2.2.1 (.int .i64 x) (.int .i64 y)
    rw [rnd_atS (e' := (setPs e [24] (spA (x, y))).put (some 7) (.ptr σ.n 0 0) |>.put none (.tup [])) (σ1 := ((σ.set m (.lp .ready)).new (.row 2 [[.int .i64 0, .int .i64 0]])).set σ.n (.row 2 [[.int .i64 x, .int .i64 y]])) hB hq.hm (it_box' (v := v) (by simp [hq.q.2.1, hq.hp]) g1 (by omega)) (by simp [hat]; rfl) rfl (by rw [hA]; simp [b3_0, asgE, asgR, setPs, spA, Env.put]) (by simp [show m ≠ σ.n by have := hq.q.2.2.2.1; omega])]
    rw [← hs1]
    have e31 : ∀ (t : Nat), ((setPs e [24] (spA (x, y))).put (some 7) (.ptr σ.n 0 0) |>.put none (.tup [])) t = if t = 7 then .ptr σ.n 0 0 else if t = 24 then .agg [.int .i64 x, .int .i64 y] else e t := fun t => rfl
    generalize ((setPs e [24] (spA (x, y))).put (some 7) (.ptr σ.n 0 0) |>.put none (.tup [])) = e' at e31
    have d3 : s1.H r3 = some (.row 1 [[.int .i64 k]]) := by rw [g2.H r3 n11]; exact c1
    have d4 : s1.H r4 = some (.row 1 [[.bool false]]) := by rw [g2.H r4 n12]; exact c2
    have d5 : s1.H r5 = some (.row 1 [[w]]) := by rw [g2.H r5 n13]; exact c3
    have d6 : s1.H r6 = some (.row 1 [[.int .i64 i]]) := by rw [g2.H r6 n14]; exact c4
    have dp : s1.H p = some (.row 1 [[v]]) := by rw [g2.H p hq.q.2.2.2.2]; exact hq.hp
    have hL : ∀ (s2 : St) (j : Nat), Gr σ0 s2 → σ.n ≤ s2.n → s2.H m = some (.lp .busy) → s2.H p = some (.row 1 [[v]]) → s2.H r3 = some (.row 1 [[.int .i64 k]]) → s2.H r4 = some (.row 1 [[.bool false]]) → s2.H r5 = some (.row 1 [[w]]) → s2.H r6 = some (.row 1 [[.int .i64 j]]) → LiI σ0 s2 e m p v w k j := fun s2 j g gn z1 z2 z3 z4 z5 z6 =>
      ⟨⟨hq.q.1, hq.q.2.1, hq.q.2.2.1, by have := hq.q.2.2.2.1; omega, by have := hq.q.2.2.2.2; omega⟩, g, z1, z2, r3, r4, r5, r6, a0, a1, a2, a3, a4, z3, z4, z5, z6, n1, n2, n3, n4, n5, n6, n7, n8, n9, n10, by omega, by omega, by omega, by omega⟩
    by_cases hk : k ≤ i
    · have hk' : (k : Int) ≤ i := by omega
      have hI : ET.It 12 [.ptr p 0 0] (s1.set m (.lp (.done (some 0)))) = some (.str b, (itF b).map spA) :=
        it_box' (v := v) (by simp [hq.q.2.1, dp]) (hv.gr ((hq.gr.trans g2).set hq.q.2.2.1 _) ho) (by omega)
      simp [b3_1, e31, a1, a4, d3, d6, hk', bm, hI]
      exact .here ⟨rfl, rfl, s1, i, hL s1 i (hq.gr.trans g2) (by omega) bm dp d3 d4 d5 d6, rfl⟩
    · have hk' : ¬ (k : Int) ≤ i := by omega
      have hrd := hw.rd (σ := s1)
      have hlw : lenV w = some (.int .i64 (itF b).length) := by simpa using hrd.len
      have hia : iaV s1 2 w (.int .i64 i) = some (elA w i) := Rd.at hrd (by simpa using hil)
      have hld := Rd.lda hrd (i := i) (m := 2) (e := spE (x, y)) (by simp [hat]) rfl
      simp only [spE] at hld
      have hge : ¬ (itF b).length ≤ i := by omega
      have hwr : IntKind.i64.wrap ((i : Int) + 1) = ((i + 1 : Nat) : Int) := by rw [IntWalk.i64_in _ (by omega)]; omega
      obtain ⟨j, hj⟩ : ∃ j, j = i + 1 := ⟨_, rfl⟩
      rw [← hj] at hwr hnext
      have ih := fun f => items_loop (st := st) hv ho hb hw hA hB ls j f (s1.set r6 (.row 1 [[.int .i64 j]])) hnext (by omega) (hL _ j ((hq.gr.trans g2).set n9 _) (by simp; omega) (by simp [Ne.symm n4, bm]) (by simp [Ne.symm n5, dp]) (by simp [Ne.symm n1, d3]) (by simp [Ne.symm n2, d4]) (by simp [Ne.symm n3, d5]) (by simp))
      simp [b3_1, e31, a1, a3, a4, d3, d5, d6, hk', hlw, hge, b1, hia, hld, hwr]
      rw [← hj]
      exact ih _
theorem ev_any {k : FuncId} {fd : FD} {vs : List V} {σ τ : St} {b : Bool} (h : ET.T k = some fd) (hl : vs.length ≤ fd.nt) (hz : fd.fz = .all) (hr : run ET false fd.res [.d fd.body] ⟨envOf vs, []⟩ σ = some (.ret (.bool b), τ)) : ∃ σ', ev ET k vs σ = some (.ret (.bool b), σ') := by
  rw [ev_eq h hl, hr]
  exact ⟨_, by simp [cutR, hz]; rfl⟩
theorem tenth (n : Int) : ∃ a k : Nat, IntKind.u64.wrap n = a ∧ Int.tmod (a : Int) 10 = (k : Int) ∧ IntKind.u64.wrap (k : Int) = k ∧ IntKind.i64.wrap (k : Int) = k := by
  obtain ⟨a, ha⟩ : ∃ a : Nat, IntKind.u64.wrap n = a := by
    refine ⟨(IntKind.u64.wrap n).toNat, ?_⟩
    simp [IntKind.wrap, IntKind.signed, IntKind.bits]; omega
  have hk := Nat.mod_lt a (show 0 < 10 by omega)
  refine ⟨a, a % 10, ha, ?_, by simp [IntKind.wrap, IntKind.signed, IntKind.bits]; omega, IntWalk.i64_in _ (by omega)⟩
  rw [Int.tmod_eq_emod_of_nonneg (by omega)]; omega
set_option maxRecDepth 100000 in
theorem items_ok {σ : St} {v : V} {b : List UInt8} {n : Int} (hv : Bs σ v b) (ho : v.old σ) (hsc : v.scal = true) : ∃ σ', ev ET 3 [v, .int .i64 n] σ = some (.ret (.bool true), σ') := by
  suffices h : ∃ τ, run ET false f3.res [.d f3.body] ⟨envOf [v, .int .i64 n], []⟩ σ = some (.ret (.bool true), τ) by
    obtain ⟨τ, h⟩ := h
    exact ev_any rfl (by simp [f3]) rfl h
  have hpa : ∀ σ, ev ET 5 [] σ = some (.ret (.bool true), σ) := fun σ => parted_ev rfl
  have hlv : lenV v = some (.int .i64 b.length) := hv.len
  have hbx := boxV_v σ (.int .i64 n) rfl
  by_cases hb : 2000 < b.length
  · have hb' : (2000 : Int) < b.length := by omega
    exact ⟨_, by simp [f3, d3, hbx, hpa, hlv, hb']; rfl⟩
  have hb' : ¬ (2000 : Int) < b.length := by omega
  have hbl : b.length < 2 ^ 40 := by omega
  obtain ⟨a, k, w1, w2, w3, w4⟩ := tenth n
  obtain ⟨s1, hs1⟩ : ∃ s1, s1 = ((σ.new (.row 1 [[.int .i64 n]])).new (.row 1 [[.bool false]])).set σ.n (.row 1 [[.int .i64 k]]) := ⟨_, rfl⟩
  have m1 : s1.n = σ.n + 2 := by rw [hs1]; simp
  have g1 : Gr σ s1 := by rw [hs1]; exact (((Gr.refl σ).new _).new _).set (Nat.le_refl _) _
  obtain ⟨w, hri, hw⟩ := ritems_ev (E := ET) rfl (hv.gr g1 ho) (V.old_gr ho g1) hbl
  have hwc : w.cells = [w] ∧ w.scal = true := by rcases hw with ⟨rfl, _⟩ | rfl <;> exact ⟨rfl, rfl⟩
  have hwc1 := hwc.1
  have hwc2 := hwc.2
  obtain ⟨s2, hs2⟩ : ∃ s2, s2 = (((s1.new (.row 1 [[.nils]])).set (σ.n + 2) (.row 1 [[w]])).new (.row 1 [[.int .i64 0]])).set (σ.n + 3) (.row 1 [[.int .i64 0]]) := ⟨_, rfl⟩
  have m2 : s2.n = σ.n + 4 := by rw [hs2]; simp [m1]
  have g2 : Gr σ s2 := by rw [hs2]; exact ((((g1.new _).set (by omega) _).new _).set (by omega) _)
  have hit := items_ev (σ := s2) hsc
  obtain ⟨s3, hs3⟩ : ∃ s3, s3 = s2.new (.row 1 [[v]]) := ⟨_, rfl⟩
  have m3 : s3.n = σ.n + 5 := by rw [hs3]; simp [m2]
  have g3 : Gr σ s3 := by rw [hs3]; exact g2.new _
  rw [← hs3] at hit
  have c3 : s3.H σ.n = some (.row 1 [[.int .i64 k]]) := by rw [hs3, hs2, hs1]; simp
  have c4 : s3.H (σ.n + 1) = some (.row 1 [[.bool false]]) := by rw [hs3, hs2, hs1]; simp
  have c5 : s3.H (σ.n + 2) = some (.row 1 [[w]]) := by rw [hs3, hs2, hs1]; simp
  have c6 : s3.H (σ.n + 3) = some (.row 1 [[.int .i64 0]]) := by rw [hs3, hs2, hs1]; simp
  simp [f3, d3, hbx, hpa, hlv, hb', w1, w2, w3, w4, ← hs1, hri, m1, hwc1, hwc2, ← hs2, hit]
  rw [rng_in (.t 23) rfl rfl (it_box' (p := s2.n) (v := v) (b := b) (by rw [hs3]; simp) (hv.gr g3 ho) hbl)]
  refine Lands.to (C := fun r => ∃ τ, r = some (CO.ret (.bool true), τ)) (items_loop (σ0 := σ) hv ho (by omega) hw (k := k) (e := lk [0, 3, 4, 5, 6, 23] [v, .ptr σ.n 0 0, .ptr (σ.n + 1) 0 0, .ptr (σ.n + 2) 0 0, .ptr (σ.n + 3) 0 0, .func (.func 12) [] [.ptr s2.n 0 0]]) (m := s3.n) (p := s2.n) (A := b3_0) (B := b3_1) rfl rfl (itF b) 0 _ _ rfl (by omega)
    ⟨⟨by omega, by omega, by omega, by simp, by simp; omega⟩, g3.new _, by simp, by simp [show s2.n ≠ s3.n by omega, hs3], σ.n, σ.n + 1, σ.n + 2, σ.n + 3, by simp, by simp, by simp, by simp, by simp, by simp [show σ.n ≠ s3.n by omega, c3], by simp [show σ.n + 1 ≠ s3.n by omega, c4], by simp [show σ.n + 2 ≠ s3.n by omega, c5], by simp [show σ.n + 3 ≠ s3.n by omega, c6], by omega, by omega, by omega, by omega, by omega, by omega, by omega, by omega, by omega, by omega, by simp; omega, by simp; omega, by simp; omega, by simp; omega⟩) ?_
  rintro f' σ' ⟨q1, q2, σ2, i', hq, rfl⟩
  obtain ⟨r3, r4, r5, r6, a0, a1, a2, a3, a4, z1, z2, z3, z4, n1, n2, n3, n4, n5, n6, n7, n8, n9, n10, n11, n12, n13, n14⟩ := hq.rs
  simp at a2 a3
  subst a2; subst a3
  obtain ⟨s5, hs5⟩ : ∃ s5, s5 = σ2.kill s3.n := ⟨_, rfl⟩
  have g5 : Gr σ s5 := by rw [hs5]; exact hq.gr.kill (by omega)
  have y4 : s5.H (σ.n + 1) = some (.row 1 [[.bool false]]) := by rw [hs5]; simp [show σ.n + 1 ≠ s3.n by omega, z2]
  have y5 : s5.H (σ.n + 2) = some (.row 1 [[w]]) := by rw [hs5]; simp [show σ.n + 2 ≠ s3.n by omega, z3]
  obtain ⟨u, hsp, hu⟩ := spans_ev (hv.gr g5 ho) (V.old_gr ho g5) hsc (by omega)
  have hsm := same_ev (E := ET) rfl (σ := s5) hu.rd hw.rd (by have := itF_len b; omega)
  have hsmT : decide (itF b = itemsM b.length false 0 false b) = true := by simp [itF]
  rw [hsmT] at hsm
  rw [← hs5]
  simp [q1, q2, hpa, y4, y5, hsp, hsm, fin_coll]
theorem bytes_old {v : V} (h : v.row = none) (σ : St) : v.old σ := fun l off len e => by rw [e] at h; simp [V.row] at h
theorem items_core (W : World) (us : List V) (hu : TypedA [.one (.slc (.int .u8 .nil) .nil), .one (.int .i64 .nil)] us) : CCalls Try.prog 3 us (Go.Proofs.Ytgmjeklneeljdaa.Ab.σ0 W) (fun o _ => o = .ret (.bool true)) := by
  obtain ⟨v, _, rfl, hv, u2, _, rfl, hn, rfl⟩ := hu
  obtain ⟨n, _, e, _, rfl⟩ := hn
  simp at e; subst e
  obtain ⟨b, hb, hr, _⟩ := typed_bytes hv
  obtain ⟨σ', h⟩ := items_ok (σ := Go.Proofs.Ytgmjeklneeljdaa.Ab.σ0 W) (n := n) (hb _) (bytes_old hr _) (Rd.scal (hb (Go.Proofs.Ytgmjeklneeljdaa.Ab.σ0 W)))
  exact (ev_calls ET_ok h).mono fun o _ h => h.1
end Go.Proofs.Ytgmjeklneeljdaa
