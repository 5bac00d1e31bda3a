/-
The walk over the program's texts, told with what its values say: a part of it. No further condition.
-/
import Derived.Test.YtgmjeklneeljdaaAbY
namespace Go.Proofs.Ytgmjeklneeljdaa
open Go.Proofs.Ytgmjeklneeljdaa.Ab
set_option linter.unusedVariables false
set_option linter.unusedSimpArgs false
attribute [local simp] Gr.refl Gr.new Gr.set Gr.kill Nat.add_assoc r_cks chk wantG
structure LiI (σ0 σ : St) (e : Env) (m p : Nat) (v w : V) (k i : Nat) : Prop where
  q : σ0.n ≤ p ∧ p ≠ m ∧ σ0.n ≤ m ∧ m < σ.n ∧ p < σ.n
  gr : Gr σ0 σ
  hm : σ.H m = some (.lp .busy)
  hp : σ.H p = some (.row 1 [[v]])
  rs : ∃ r3 r4 r5 r6, e 0 = v ∧ e 3 = .ptr r3 0 0 ∧ e 4 = .ptr r4 0 0 ∧ e 5 = .ptr r5 0 0 ∧ e 6 = .ptr r6 0 0 ∧ σ.H r3 = some (.row 1 [[.int .i64 k]]) ∧ σ.H r4 = some (.row 1 [[.bool false]]) ∧ σ.H r5 = some (.row 1 [[w]]) ∧ σ.H r6 = some (.row 1 [[.int .i64 i]]) ∧
    r6 ≠ r3 ∧ r6 ≠ r4 ∧ r6 ≠ r5 ∧ r6 ≠ m ∧ r6 ≠ p ∧ r4 ≠ m ∧ r5 ≠ m ∧ r4 ≠ r5 ∧ σ0.n ≤ r6 ∧ σ0.n ≤ r4 ∧ r3 < σ.n ∧ r4 < σ.n ∧ r5 < σ.n ∧ r6 < σ.n
def LiQ (σ0 : St) (e : Env) (m p : Nat) (v w : V) (k : Nat) (f' : Fr) (σ' : St) : Prop := f'.ds = [.coll] ∧ f'.env = e ∧ ∃ σ2 i', LiI σ0 σ2 e m p v w k i' ∧ σ' = σ2.kill m
theorem items_loop {σ0 : St} {v w : V} {b : List UInt8} (hv : Bs σ0 v b) (ho : v.old σ0) (hb : b.length ≤ 2000) (hw : Tl 2 w ((itF b).map spE)) {k : Nat} {e : Env} {m p : Nat} {A B : D} (hA : A = b3_0) (hB : B = b3_1) {st : List SE} :
    ∀ (ls : List (Nat × Nat)) (i : Nat) (f : Fr) (σ : St), (itF b).drop i = ls → i ≤ (itF b).length → LiI σ0 σ e m p v w k i →
      Lands ET false [.c 4 none] st (LiQ σ0 e m p v w k) (run ET false [.c 4 none] (.rnd e [] m [24] A B 12 [.ptr p 0 0] (.str b) ((itF b).map spA) i :: .blk 0 :: st) f σ)
  | [], i, f, σ, hl, hi, hq => by
    have hlen := congrArg List.length hl
    simp at hlen
    have g1 : Bs (σ.set m (.lp .ready)) v b := hv.gr (hq.gr.set hq.q.2.2.1 _) ho
    rw [rnd_end hq.hm (it_box' (v := v) (by simp [hq.q.2.1, hq.hp]) g1 (by omega)) (by simp; omega)]
    simp
    exact .here ⟨rfl, rfl, σ, i, hq, rfl⟩
  | (x, y) :: ls, i, f, σ, hl, hi, hq => by
    obtain ⟨r3, r4, r5, r6, a0, a1, a2, a3, a4, c1, c2, c3, c4, n1, n2, n3, n4, n5, n6, n7, n8, n9, n10, n11, n12, n13, n14⟩ := hq.rs
    have g1 : Bs (σ.set m (.lp .ready)) v b := hv.gr (hq.gr.set hq.q.2.2.1 _) ho
    have hat : (itF b)[i]? = some (x, y) := by
      have := congrArg (·[0]?) hl
      simpa using this
    have hil : i < (itF b).length := (List.getElem?_eq_some_iff.1 hat).1
    have hnext : (itF b).drop (i + 1) = ls := by rw [← List.drop_drop, hl]; rfl
    have hitl := itF_len b
    obtain ⟨s1, hs1, g2, m1, b1, bm⟩ := lay_cell hq.hm hq.q.2.2.2.1 (.int .i64 x) (.int .i64 y)
    rw [rnd_atS (e' := (setPs e [24] (spA (x, y))).put (some 7) (.ptr σ.n 0 0) |>.put none (.tup [])) (σ1 := ((σ.set m (.lp .ready)).new (.row 2 [[.int .i64 0, .int .i64 0]])).set σ.n (.row 2 [[.int .i64 x, .int .i64 y]])) hB hq.hm (it_box' (v := v) (by simp [hq.q.2.1, hq.hp]) g1 (by omega)) (by simp [hat]; rfl) rfl (by rw [hA]; simp [b3_0, asgE, asgR, setPs, spA, Env.put]) (by simp [show m ≠ σ.n by have := hq.q.2.2.2.1; omega])]
    rw [← hs1]
    have e31 : ∀ (t : Nat), ((setPs e [24] (spA (x, y))).put (some 7) (.ptr σ.n 0 0) |>.put none (.tup [])) t = if t = 7 then .ptr σ.n 0 0 else if t = 24 then .agg [.int .i64 x, .int .i64 y] else e t := fun t => rfl
    generalize ((setPs e [24] (spA (x, y))).put (some 7) (.ptr σ.n 0 0) |>.put none (.tup [])) = e' at e31
    have d3 : s1.H r3 = some (.row 1 [[.int .i64 k]]) := by rw [g2.H r3 n11]; exact c1
    have d4 : s1.H r4 = some (.row 1 [[.bool false]]) := by rw [g2.H r4 n12]; exact c2
    have d5 : s1.H r5 = some (.row 1 [[w]]) := by rw [g2.H r5 n13]; exact c3
    have d6 : s1.H r6 = some (.row 1 [[.int .i64 i]]) := by rw [g2.H r6 n14]; exact c4
    have dp : s1.H p = some (.row 1 [[v]]) := by rw [g2.H p hq.q.2.2.2.2]; exact hq.hp
    have hL : ∀ (s2 : St) (j : Nat), Gr σ0 s2 → σ.n ≤ s2.n → s2.H m = some (.lp .busy) → s2.H p = some (.row 1 [[v]]) → s2.H r3 = some (.row 1 [[.int .i64 k]]) → s2.H r4 = some (.row 1 [[.bool false]]) → s2.H r5 = some (.row 1 [[w]]) → s2.H r6 = some (.row 1 [[.int .i64 j]]) → LiI σ0 s2 e m p v w k j := fun s2 j g gn z1 z2 z3 z4 z5 z6 =>
      ⟨⟨hq.q.1, hq.q.2.1, hq.q.2.2.1, by have := hq.q.2.2.2.1; omega, by have := hq.q.2.2.2.2; omega⟩, g, z1, z2, r3, r4, r5, r6, a0, a1, a2, a3, a4, z3, z4, z5, z6, n1, n2, n3, n4, n5, n6, n7, n8, n9, n10, by omega, by omega, by omega, by omega⟩
    by_cases hk : k ≤ i
    · have hk' : (k : Int) ≤ i := by omega
      have hI : ET.It 12 [.ptr p 0 0] (s1.set m (.lp (.done (some 0)))) = some (.str b, (itF b).map spA) :=
        it_box' (v := v) (by simp [hq.q.2.1, dp]) (hv.gr ((hq.gr.trans g2).set hq.q.2.2.1 _) ho) (by omega)
      simp [b3_1, e31, a1, a4, d3, d6, hk', bm, hI]
      exact .here ⟨rfl, rfl, s1, i, hL s1 i (hq.gr.trans g2) (by omega) bm dp d3 d4 d5 d6, rfl⟩
    · have hk' : ¬ (k : Int) ≤ i := by omega
      have hrd := hw.rd (σ := s1)
      have hlw : lenV w = some (.int .i64 (itF b).length) := by simpa using hrd.len
      have hia : iaV s1 2 w (.int .i64 i) = some (elA w i) := Rd.at hrd (by simpa using hil)
      have hld := Rd.lda hrd (i := i) (m := 2) (e := spE (x, y)) (by simp [hat]) rfl
      simp only [spE] at hld
      have hge : ¬ (itF b).length ≤ i := by omega
      have hwr : IntKind.i64.wrap ((i : Int) + 1) = ((i + 1 : Nat) : Int) := by rw [IntWalk.i64_in _ (by omega)]; omega
      obtain ⟨j, hj⟩ : ∃ j, j = i + 1 := ⟨_, rfl⟩
      rw [← hj] at hwr hnext
      have ih := fun f => items_loop (st := st) hv ho hb hw hA hB ls j f (s1.set r6 (.row 1 [[.int .i64 j]])) hnext (by omega) (hL _ j ((hq.gr.trans g2).set n9 _) (by simp; omega) (by simp [Ne.symm n4, bm]) (by simp [Ne.symm n5, dp]) (by simp [Ne.symm n1, d3]) (by simp [Ne.symm n2, d4]) (by simp [Ne.symm n3, d5]) (by simp))
      simp [b3_1, e31, a1, a3, a4, d3, d5, d6, hk', hlw, hge, b1, hia, hld, hwr]
      rw [← hj]
      exact ih _
theorem ev_any {k : FuncId} {fd : FD} {vs : List V} {σ τ : St} {b : Bool} (h : ET.T k = some fd) (hl : vs.length ≤ fd.nt) (hz : fd.fz = .all) (hr : run ET false fd.res [.d fd.body] ⟨envOf vs, []⟩ σ = some (.ret (.bool b), τ)) : ∃ σ', ev ET k vs σ = some (.ret (.bool b), σ') := by
  rw [ev_eq h hl, hr]
  exact ⟨_, by simp [cutR, hz]; rfl⟩
theorem tenth (n : Int) : ∃ a k : Nat, IntKind.u64.wrap n = a ∧ Int.tmod (a : Int) 10 = (k : Int) ∧ IntKind.u64.wrap (k : Int) = k ∧ IntKind.i64.wrap (k : Int) = k := by
  obtain ⟨a, ha⟩ : ∃ a : Nat, IntKind.u64.wrap n = a := by
    refine ⟨(IntKind.u64.wrap n).toNat, ?_⟩
    simp [IntKind.wrap, IntKind.signed, IntKind.bits]; omega
  have hk := Nat.mod_lt a (show 0 < 10 by omega)
  refine ⟨a, a % 10, ha, ?_, by simp [IntKind.wrap, IntKind.signed, IntKind.bits]; omega, IntWalk.i64_in _ (by omega)⟩
  rw [Int.tmod_eq_emod_of_nonneg (by omega)]; omega
set_option maxRecDepth 100000 in
theorem items_ok {σ : St} {v : V} {b : List UInt8} {n : Int} (hv : Bs σ v b) (ho : v.old σ) (hsc : v.scal = true) : ∃ σ', ev ET 3 [v, .int .i64 n] σ = some (.ret (.bool true), σ') := by
  suffices h : ∃ τ, run ET false f3.res [.d f3.body] ⟨envOf [v, .int .i64 n], []⟩ σ = some (.ret (.bool true), τ) by
    obtain ⟨τ, h⟩ := h
    exact ev_any rfl (by simp [f3]) rfl h
  have hpa : ∀ σ, ev ET 5 [] σ = some (.ret (.bool true), σ) := fun σ => parted_ev rfl
  have hlv : lenV v = some (.int .i64 b.length) := hv.len
  have hbx := boxV_v σ (.int .i64 n) rfl
  by_cases hb : 2000 < b.length
  · have hb' : (2000 : Int) < b.length := by omega
    exact ⟨_, by simp [f3, d3, hbx, hpa, hlv, hb']; rfl⟩
  have hb' : ¬ (2000 : Int) < b.length := by omega
  have hbl : b.length < 2 ^ 40 := by omega
  obtain ⟨a, k, w1, w2, w3, w4⟩ := tenth n
  obtain ⟨s1, hs1⟩ : ∃ s1, s1 = ((σ.new (.row 1 [[.int .i64 n]])).new (.row 1 [[.bool false]])).set σ.n (.row 1 [[.int .i64 k]]) := ⟨_, rfl⟩
  have m1 : s1.n = σ.n + 2 := by rw [hs1]; simp
  have g1 : Gr σ s1 := by rw [hs1]; exact (((Gr.refl σ).new _).new _).set (Nat.le_refl _) _
  obtain ⟨w, hri, hw⟩ := ritems_ev (E := ET) rfl (hv.gr g1 ho) (V.old_gr ho g1) hbl
  have hwc : w.cells = [w] ∧ w.scal = true := by rcases hw with ⟨rfl, _⟩ | rfl <;> exact ⟨rfl, rfl⟩
  have hwc1 := hwc.1
  have hwc2 := hwc.2
  obtain ⟨s2, hs2⟩ : ∃ s2, s2 = (((s1.new (.row 1 [[.nils]])).set (σ.n + 2) (.row 1 [[w]])).new (.row 1 [[.int .i64 0]])).set (σ.n + 3) (.row 1 [[.int .i64 0]]) := ⟨_, rfl⟩
  have m2 : s2.n = σ.n + 4 := by rw [hs2]; simp [m1]
  have g2 : Gr σ s2 := by rw [hs2]; exact ((((g1.new _).set (by omega) _).new _).set (by omega) _)
  have hit := items_ev (σ := s2) hsc
  obtain ⟨s3, hs3⟩ : ∃ s3, s3 = s2.new (.row 1 [[v]]) := ⟨_, rfl⟩
  have m3 : s3.n = σ.n + 5 := by rw [hs3]; simp [m2]
  have g3 : Gr σ s3 := by rw [hs3]; exact g2.new _
  rw [← hs3] at hit
  have c3 : s3.H σ.n = some (.row 1 [[.int .i64 k]]) := by rw [hs3, hs2, hs1]; simp
  have c4 : s3.H (σ.n + 1) = some (.row 1 [[.bool false]]) := by rw [hs3, hs2, hs1]; simp
  have c5 : s3.H (σ.n + 2) = some (.row 1 [[w]]) := by rw [hs3, hs2, hs1]; simp
  have c6 : s3.H (σ.n + 3) = some (.row 1 [[.int .i64 0]]) := by rw [hs3, hs2, hs1]; simp
  simp [f3, d3, hbx, hpa, hlv, hb', w1, w2, w3, w4, ← hs1, hri, m1, hwc1, hwc2, ← hs2, hit]
  rw [rng_in (.t 23) rfl rfl (it_box' (p := s2.n) (v := v) (b := b) (by rw [hs3]; simp) (hv.gr g3 ho) hbl)]
  refine Lands.to (C := fun r => ∃ τ, r = some (CO.ret (.bool true), τ)) (items_loop (σ0 := σ) hv ho (by omega) hw (k := k) (e := lk [0, 3, 4, 5, 6, 23] [v, .ptr σ.n 0 0, .ptr (σ.n + 1) 0 0, .ptr (σ.n + 2) 0 0, .ptr (σ.n + 3) 0 0, .func (.func 12) [] [.ptr s2.n 0 0]]) (m := s3.n) (p := s2.n) (A := b3_0) (B := b3_1) rfl rfl (itF b) 0 _ _ rfl (by omega)
    ⟨⟨by omega, by omega, by omega, by simp, by simp; omega⟩, g3.new _, by simp, by simp [show s2.n ≠ s3.n by omega, hs3], σ.n, σ.n + 1, σ.n + 2, σ.n + 3, by simp, by simp, by simp, by simp, by simp, by simp [show σ.n ≠ s3.n by omega, c3], by simp [show σ.n + 1 ≠ s3.n by omega, c4], by simp [show σ.n + 2 ≠ s3.n by omega, c5], by simp [show σ.n + 3 ≠ s3.n by omega, c6], by omega, by omega, by omega, by omega, by omega, by omega, by omega, by omega, by omega, by omega, by simp; omega, by simp; omega, by simp; omega, by simp; omega⟩) ?_
  rintro f' σ' ⟨q1, q2, σ2, i', hq, rfl⟩
  obtain ⟨r3, r4, r5, r6, a0, a1, a2, a3, a4, z1, z2, z3, z4, n1, n2, n3, n4, n5, n6, n7, n8, n9, n10, n11, n12, n13, n14⟩ := hq.rs
  simp at a2 a3
  subst a2; subst a3
  obtain ⟨s5, hs5⟩ : ∃ s5, s5 = σ2.kill s3.n := ⟨_, rfl⟩
  have g5 : Gr σ s5 := by rw [hs5]; exact hq.gr.kill (by omega)
  have y4 : s5.H (σ.n + 1) = some (.row 1 [[.bool false]]) := by rw [hs5]; simp [show σ.n + 1 ≠ s3.n by omega, z2]
  have y5 : s5.H (σ.n + 2) = some (.row 1 [[w]]) := by rw [hs5]; simp [show σ.n + 2 ≠ s3.n by omega, z3]
  obtain ⟨u, hsp, hu⟩ := spans_ev (hv.gr g5 ho) (V.old_gr ho g5) hsc (by omega)
  have hsm := same_ev (E := ET) rfl (σ := s5) hu.rd hw.rd (by have := itF_len b; omega)
  have hsmT : decide (itF b = itemsM b.length false 0 false b) = true := by simp [itF]
  rw [hsmT] at hsm
  rw [← hs5]
  simp [q1, q2, hpa, y4, y5, hsp, hsm, fin_coll]
theorem bytes_old {v : V} (h : v.row = none) (σ : St) : v.old σ := fun l off len e => by rw [e] at h; simp [V.row] at h
theorem items_core (W : World) (us : List V) (hu : TypedA [.one (.slc (.int .u8 .nil) .nil), .one (.int .i64 .nil)] us) : CCalls Try.prog 3 us (Go.Proofs.Ytgmjeklneeljdaa.Ab.σ0 W) (fun o _ => o = .ret (.bool true)) := by
  obtain ⟨v, _, rfl, hv, u2, _, rfl, hn, rfl⟩ := hu
  obtain ⟨n, _, e, _, rfl⟩ := hn
  simp at e; subst e
  obtain ⟨b, hb, hr, _⟩ := typed_bytes hv
  obtain ⟨σ', h⟩ := items_ok (σ := Go.Proofs.Ytgmjeklneeljdaa.Ab.σ0 W) (n := n) (hb _) (bytes_old hr _) (Rd.scal (hb (Go.Proofs.Ytgmjeklneeljdaa.Ab.σ0 W)))
  exact (ev_calls ET_ok h).mono fun o _ h => h.1
end Go.Proofs.Ytgmjeklneeljdaa
namespace Go.Proofs.Ytgmjeklneeljdaa
open Go.Proofs.Ytgmjeklneeljdaa.Ab
set_option linter.unusedVariables false
set_option linter.unusedSimpArgs false
/-! The tokens of a text's items, one item behind the other. -/
/-- Behind the first semicolon that is a token. -/
def semF : Bool → List UInt8 → Option (List UInt8)
  | _, [] => none
  | r, c :: t => if offB r c t || blankB c then semF (offB r c t) t else if c.toNat = 59 then some t else semF false t
theorem semF_skip : ∀ (s : List UInt8) (r : Bool), semF r s = match skipF r s with
    | [] => none
    | c :: t => if c.toNat = 59 then some t else semF false t
  | [], r => rfl
  | c :: t, r => by
    cases h : (offB r c t || blankB c) with
    | true =>
      have e1 : semF r (c :: t) = semF (offB r c t) t := by simp only [semF, h, if_true]
      have e2 : skipF r (c :: t) = skipF (offB r c t) t := by simp only [skipF, h, if_true]
      rw [e1, e2]; exact semF_skip t _
    | false =>
      have e2 : skipF r (c :: t) = c :: t := by simp only [skipF, h]; rfl
      rw [e2]
      simp only [semF, h]
      rfl
theorem items_sem (L fr : Nat) : ∀ (s : List UInt8) (r so : Bool), itemsM L r fr so s = match semF r s with
    | some R => (fr, L - R.length) :: itemsM L false (L - R.length) false R
    | none => if so = true ∨ skipF r s ≠ [] then [(fr, L)] else []
  | [], r, so => by cases so <;> rfl
  | c :: t, r, so => by
    cases h : (offB r c t || blankB c) with
    | true =>
      have e1 : itemsM L r fr so (c :: t) = itemsM L (offB r c t) fr so t := by simp only [itemsM, h, if_true]
      have e2 : semF r (c :: t) = semF (offB r c t) t := by simp only [semF, h, if_true]
      have e3 : skipF r (c :: t) = skipF (offB r c t) t := by simp only [skipF, h, if_true]
      rw [e1, e2, e3]; exact items_sem L fr t _ so
    | false =>
      have e3 : skipF r (c :: t) = c :: t := by simp only [skipF, h]; rfl
      have e4 : offB r c t = false := by simp at h; exact h.1
      rw [e3]
      by_cases c59 : c.toNat = 59
      · have e1 : itemsM L r fr so (c :: t) = (fr, L - t.length) :: itemsM L false (L - t.length) false t := by
          have hb : blankB c = false := by simp at h; exact h.2
          simp [itemsM, c59, e4, hb]
        have e2 : semF r (c :: t) = some t := by simp only [semF, h, c59]; rfl
        rw [e1, e2]
      · have e1 : itemsM L r fr so (c :: t) = itemsM L false fr true t := by
          have hb : blankB c = false := by simp at h; exact h.2
          simp [itemsM, c59, e4, hb]
        have e2 : semF r (c :: t) = semF false t := by simp only [semF, h, c59]; rfl
        rw [e1, e2, items_sem L fr t false true]
        cases semF false t <;> simp
/-- A byte in a token, behind its first one. -/
def innB (d : UInt8) : Bool := d.toNat != 47 && !blankB d && d.toNat != 59
theorem sem_inn : ∀ (l R : List UInt8), (∀ d ∈ l, innB d = true) → semF false (l ++ R) = semF false R
  | [], R, _ => rfl
  | d :: l, R, h => by
    have hd := h d (by simp)
    simp [innB] at hd
    have ho : offB false d (l ++ R) = false := by simp [offB, hd.1.1]
    have e : semF false (d :: (l ++ R)) = semF false (l ++ R) := by
      simp only [semF, ho, hd.1.2, hd.2]; rfl
    rw [List.cons_append, e]
    exact sem_inn l R fun d hd => h d (by simp [hd])
theorem goes_inn {d : UInt8} (h : goesB d = true) : innB d = true := by
  simp [goesB, smallB, digitB] at h; simp [innB, blankB]; omega
theorem digit_inn {d : UInt8} (h : digitB d = true) : innB d = true := goes_inn (by simp [goesB, h])
theorem takeWhile_all {p : UInt8 → Bool} : ∀ (l : List UInt8), ∀ d ∈ l.takeWhile p, p d = true
  | [], d, h => by simp at h
  | c :: t, d, h => by
    by_cases hc : p c = true
    · rw [List.takeWhile_cons_of_pos hc] at h
      rcases List.mem_cons.1 h with rfl | h
      · exact hc
      · exact takeWhile_all t d h
    · rw [List.takeWhile_cons_of_neg hc] at h; simp at h
/-- The bytes of a token. -/
theorem tok_inn {c : UInt8} {t : List UInt8} (h : (tokF (c :: t)).2.2 = 0) : ∀ d ∈ t.take ((tokF (c :: t)).2.1.length - 1), innB d = true := by
  cases g : smallB c with
  | true =>
    rw [tokF_name g] at h ⊢
    have hg : goesB c = true := by simp [goesB, g]
    split at h
    · simp at h
    · rename_i l
      rw [if_neg l, List.takeWhile_cons_of_pos hg]
      simp only [List.length_cons, Nat.add_sub_cancel, take_takeWhile]
      exact fun d hd => goes_inn (takeWhile_all t d hd)
  | false =>
    cases g2 : digitB c with
    | true =>
      rw [tokF_dig g g2] at h ⊢
      split at h
      · simp at h
      · rename_i l
        rw [if_neg l, List.takeWhile_cons_of_pos g2]
        simp only [List.length_cons, Nat.add_sub_cancel, take_takeWhile]
        exact fun d hd => digit_inn (takeWhile_all t d hd)
    | false =>
      rw [tokF_sign g g2] at h ⊢
      split at h
      · simp at h
      · rename_i l
        rw [if_neg l]
        have hs := sign_le c t
        have e2 : ((c :: t).take (signF (c :: t))).length = signF (c :: t) := by rw [List.length_take]; omega
        simp only [e2]
        cases t with
        | nil => simp
        | cons d u =>
          rw [sign_cons]
          cases h2 : twoS c (d :: u) with
          | true =>
            simp only [if_true]
            intro x hx
            simp at hx
            subst hx
            simp [twoS, twoB] at h2
            simp [innB, blankB]; omega
          | false =>
            simp
            split <;> simp
/-- What is skipped in a front of a text. -/
theorem skip_pre (R : List UInt8) : ∀ (p y : List UInt8) (r : Bool), skipF r (p ++ R) = y ++ R → y ≠ [] → skipF r p = y
  | [], y, r, h, hy => by
    have := (skip_suf ([] ++ R) r).length_le
    rw [h] at this
    have hy1 : 0 < y.length := List.length_pos_iff.2 hy
    simp at this
    omega
  | [c], y, r, h, hy => by
    have hy1 : 0 < y.length := List.length_pos_iff.2 hy
    cases hm : (offB r c R || blankB c) with
    | true =>
      have e : skipF r ([c] ++ R) = skipF (offB r c R) R := by simp only [List.singleton_append, skipF, hm, if_true]
      rw [e] at h
      have := (skip_suf R (offB r c R)).length_le
      rw [h] at this
      simp at this
      omega
    | false =>
      have e : skipF r ([c] ++ R) = c :: R := by simp only [List.singleton_append, skipF, hm]; rfl
      rw [e] at h
      have hyc : y = [c] := by
        have : [c] ++ R = y ++ R := by simpa using h
        exact (List.append_cancel_right this).symm
      have ho : offB r c [] = false := by
        simp [offB, slashB] at hm ⊢
        exact hm.1.1
      have hb : blankB c = false := by simp at hm; exact hm.2
      simp [skipF, ho, hb, hyc]
  | c :: d :: q, y, r, h, hy => by
    have ho : offB r c ((d :: q) ++ R) = offB r c (d :: q) := rfl
    cases hm : (offB r c (d :: q) || blankB c) with
    | true =>
      have e : skipF r ((c :: d :: q) ++ R) = skipF (offB r c (d :: q)) ((d :: q) ++ R) := by
        rw [List.cons_append]; simp only [skipF, ho, hm, if_true]
      have e2 : skipF r (c :: d :: q) = skipF (offB r c (d :: q)) (d :: q) := by simp only [skipF, hm, if_true]
      rw [e] at h
      rw [e2]
      exact skip_pre R (d :: q) y _ h hy
    | false =>
      have e : skipF r ((c :: d :: q) ++ R) = (c :: d :: q) ++ R := by
        rw [List.cons_append]; simp only [skipF, ho, hm]; rfl
      have e2 : skipF r (c :: d :: q) = c :: d :: q := by simp only [skipF, hm]; rfl
      rw [e] at h
      rw [e2]
      exact List.append_cancel_right h
theorem tw_app {p : UInt8 → Bool} (hp : p 59 = false) (R : List UInt8) : ∀ s : List UInt8, (s ++ 59 :: R).takeWhile p = s.takeWhile p
  | [] => by rw [List.nil_append, List.takeWhile_cons_of_neg (by simp [hp])]; rfl
  | c :: t => by
    rw [List.cons_append]
    by_cases h : p c = true
    · rw [List.takeWhile_cons_of_pos h, List.takeWhile_cons_of_pos h, tw_app hp R t]
    · rw [List.takeWhile_cons_of_neg h, List.takeWhile_cons_of_neg h]
theorem sign59 (t : List UInt8) : tokF (59 :: t) = (4, [59], 0) := by
  have h1 : smallB 59 = false := by decide
  have h2 : digitB 59 = false := by decide
  have h3 : twoS 59 t = false := by cases t <;> simp [twoS, twoB]
  have h4 : signF (59 :: t) = 1 := by rw [sign_cons, h3]; rfl
  rw [tokF_sign h1 h2, h4]; rfl
/-- A token ahead of a semicolon: no matter what stands behind that. -/
theorem tok_pre (c : UInt8) (w R : List UInt8) : tokF ((c :: w) ++ 59 :: R) = tokF ((c :: w) ++ [59]) := by
  have e1 := tw_app (p := goesB) (by decide) R (c :: w)
  have e1' := tw_app (p := goesB) (by decide) [] (c :: w)
  have e2 := tw_app (p := digitB) (by decide) R (c :: w)
  have e2' := tw_app (p := digitB) (by decide) [] (c :: w)
  have hts : twoS c (w ++ 59 :: R) = twoS c (w ++ [59]) := by cases w <;> rfl
  have e3 : signF (c :: (w ++ 59 :: R)) = signF (c :: (w ++ [59])) := by rw [sign_cons, sign_cons, hts]
  have e4 : (c :: (w ++ 59 :: R)).take (signF (c :: (w ++ [59]))) = (c :: (w ++ [59])).take (signF (c :: (w ++ [59]))) := by
    have h2 := (sign_le c (w ++ [59])).2
    have : c :: (w ++ 59 :: R) = (c :: (w ++ [59])) ++ R := by simp
    rw [this, List.take_append_of_le_length (by simp; omega)]
  rw [List.cons_append] at e1 e1' e2 e2' ⊢
  rw [List.cons_append]
  cases g : smallB c with
  | true => rw [tokF_name g, tokF_name g, e1, e1']
  | false =>
    cases g2 : digitB c with
    | true => rw [tokF_dig g g2, tokF_dig g g2, e2, e2']
    | false => rw [tokF_sign g g2, tokF_sign g g2, e3, e4]
/-- A token ahead of a semicolon ends ahead of it. -/
theorem tok_before {c : UInt8} {w R : List UInt8} (hc : c.toNat ≠ 59) (h : (tokF ((c :: w) ++ 59 :: R)).2.2 = 0) : (tokF ((c :: w) ++ 59 :: R)).2.1.length ≤ (c :: w).length := by
  rcases Nat.lt_or_ge (c :: w).length (tokF ((c :: w) ++ 59 :: R)).2.1.length with hl | hl
  · exfalso
    have hi := tok_inn (c := c) (t := w ++ 59 :: R) h
    rw [List.cons_append] at hl
    have h59 : (59 : UInt8) ∈ (w ++ 59 :: R).take ((tokF (c :: (w ++ 59 :: R))).2.1.length - 1) := by
      rw [List.mem_take_iff_getElem]
      refine ⟨w.length, ?_, by simp⟩
      simp at hl ⊢
      omega
    have := hi 59 h59
    simp [innB] at this
  · exact hl
end Go.Proofs.Ytgmjeklneeljdaa
namespace Go.Proofs.Ytgmjeklneeljdaa
open Go.Proofs.Ytgmjeklneeljdaa.Ab
set_option linter.unusedVariables false
set_option linter.unusedSimpArgs false
/-- How many rounds doesn't matter. -/
theorem toks_fuel (L : Nat) : ∀ (n m : Nat) (s : List UInt8), s.length < n → s.length < m → toksF L n s = toksF L m s
  | 0, _, s, h, _ => by omega
  | _, 0, s, _, h => by omega
  | n + 1, m + 1, s, h1, h2 => by
    have hsl := (skip_suf s false).length_le
    unfold toksF
    cases hk : skipF false s with
    | nil => rfl
    | cons c t =>
      rw [hk] at hsl
      simp only
      by_cases hq : (tokF (c :: t)).2.2 = 0
      · obtain ⟨l1, _, l3⟩ := tok_len hq
        have hdl : ((c :: t).drop (tokF (c :: t)).2.1.length).length = (c :: t).length - (tokF (c :: t)).2.1.length := List.length_drop
        rw [if_pos hq, if_pos hq, toks_fuel L n m _ (by omega) (by omega)]
      · rw [if_neg hq, if_neg hq]
def movT (d : Nat) (q : TK) : TK := ⟨q.kind, q.txt, q.fr + d⟩
theorem toks_move (L d : Nat) : ∀ (n : Nat) (s : List UInt8), s.length ≤ L → s.length < n → (toksF (L + d) n s).2.2 = 0 → ∃ la, toksF L n s = (la ++ [⟨0, [], L⟩], 0, 0) ∧ toksF (L + d) n s = (la.map (movT d) ++ [⟨0, [], L + d⟩], 0, 0)
  | 0, s, _, h, _ => by omega
  | n + 1, s, hs, hn, h0 => by
    have hsl := (skip_suf s false).length_le
    unfold toksF at h0 ⊢
    cases hk : skipF false s with
    | nil => exact ⟨[], by simp⟩
    | cons c t =>
      rw [hk] at hsl h0
      simp only at h0 ⊢
      by_cases hq : (tokF (c :: t)).2.2 = 0
      · obtain ⟨l1, _, l3⟩ := tok_len hq
        have hdl : ((c :: t).drop (tokF (c :: t)).2.1.length).length = (c :: t).length - (tokF (c :: t)).2.1.length := List.length_drop
        rw [if_pos hq] at h0
        rw [if_pos hq, if_pos hq]
        by_cases hr : (toksF (L + d) n ((c :: t).drop (tokF (c :: t)).2.1.length)).2.2 = 0
        · obtain ⟨la, e1, e2⟩ := toks_move L d n _ (by omega) (by omega) hr
          refine ⟨⟨(tokF (c :: t)).1, (tokF (c :: t)).2.1, L - (c :: t).length⟩ :: la, ?_, ?_⟩
          · rw [e1]; simp
          · rw [e2]
            have e : L + d - (c :: t).length = L - (c :: t).length + d := by omega
            simp only [if_true, e, List.map_cons, movT, List.cons_append]
        · rw [if_neg hr] at h0; exact absurd h0 hr
      · rw [if_neg hq] at h0; exact absurd h0 hq
theorem semF_split : ∀ (s : List UInt8) (r : Bool) (R : List UInt8), semF r s = some R → ∃ z, s = z ++ 59 :: R
  | [], r, R, h => by simp [semF] at h
  | c :: t, r, R, h => by
    unfold semF at h
    split at h
    · obtain ⟨z, hz⟩ := semF_split t _ R h
      exact ⟨c :: z, by rw [hz]; rfl⟩
    · split at h
      · rename_i h59
        have hc : c = 59 := UInt8.toNat.inj h59
        simp at h
        exact ⟨[], by rw [hc, h]; rfl⟩
      · obtain ⟨z, hz⟩ := semF_split t _ R h
        exact ⟨c :: z, by rw [hz]; rfl⟩
/-- The tokens of an item, and those behind it. -/
theorem toks_item : ∀ (n : Nat) (w R : List UInt8) (L Lx d : Nat), semF false (w ++ 59 :: R) = some R → (w ++ 59 :: R).length < n → (toksF L n (w ++ 59 :: R)).2.2 = 0 → L = Lx + d + R.length → w.length + 1 ≤ Lx →
    ∃ la, (∀ m, w.length + 1 < m → toksF Lx m (w ++ [59]) = (la ++ [⟨0, [], Lx⟩], 0, 0)) ∧ ∃ n', R.length < n' ∧ (toksF L n' R).2.2 = 0 ∧ toksF L n (w ++ 59 :: R) = (la.map (movT d) ++ (toksF L n' R).1, 0, 0)
  | 0, w, R, L, Lx, d, _, h, _, _, _ => by omega
  | n + 1, w, R, L, Lx, d, hs, hn, h0, hL, hx => by
    have hln : (w ++ 59 :: R).length = w.length + 1 + R.length := by simp; omega
    have hsk := semF_skip (w ++ 59 :: R) false
    rw [hs] at hsk
    have happ : w ++ 59 :: R = (w ++ [59]) ++ R := by simp
    cases hk : skipF false (w ++ 59 :: R) with
    | nil => rw [hk] at hsk; simp at hsk
    | cons c t =>
      rw [hk] at hsk
      simp only at hsk
      have hsl := (skip_suf (w ++ 59 :: R) false).length_le
      rw [hk, hln] at hsl
      by_cases c59 : c.toNat = 59
      · rw [if_pos c59] at hsk
        have hc : c = 59 := UInt8.toNat.inj c59
        simp at hsk
        subst hc; subst hsk
        have hp := skip_pre R (w ++ [59]) [59] false (by rw [← happ, hk]; rfl) (by simp)
        unfold toksF at h0
        rw [hk] at h0
        simp only [sign59, if_true, List.length_singleton, List.drop_one, List.tail_cons] at h0
        have hr : (toksF L n R).2.2 = 0 := by
          by_cases hr : (toksF L n R).2.2 = 0
          · exact hr
          · rw [if_neg hr] at h0; exact h0
        refine ⟨[⟨4, [59], Lx - 1⟩], fun m hm => ?_, n, by omega, hr, ?_⟩
        · obtain ⟨m, rfl⟩ : ∃ m', m = m' + 2 := ⟨m - 2, by omega⟩
          rw [toksF.eq_2, hp]
          simp only [sign59, if_true, List.length_singleton, List.drop_one, List.tail_cons]
          have : toksF Lx (m + 1) [] = ([⟨0, [], Lx⟩], 0, 0) := rfl
          rw [this]; rfl
        · rw [toksF.eq_2, hk]
          simp only [sign59, if_true, List.length_singleton, List.drop_one, List.tail_cons]
          rw [if_pos hr]
          simp only [List.length_cons, List.map_cons, List.map_nil, movT]
          rw [show L - (R.length + 1) = Lx - 1 + d by omega]
          rfl
      · rw [if_neg c59] at hsk
        obtain ⟨z, hz⟩ := semF_split t false R hsk.symm
        subst hz
        have hzl : (c :: (z ++ 59 :: R)).length = z.length + 2 + R.length := by simp; omega
        have happ2 : c :: (z ++ 59 :: R) = ((c :: z) ++ [59]) ++ R := by simp
        have hp := skip_pre R (w ++ [59]) ((c :: z) ++ [59]) false (by rw [← happ, hk, happ2]) (by simp)
        have htk := tok_pre c z R
        rw [List.cons_append, List.cons_append] at htk
        unfold toksF at h0
        rw [hk] at h0
        simp only at h0
        have hq : (tokF (c :: (z ++ 59 :: R))).2.2 = 0 := by
          by_cases hq : (tokF (c :: (z ++ 59 :: R))).2.2 = 0
          · exact hq
          · rw [if_neg hq] at h0; exact h0
        have hbf := tok_before (c := c) (w := z) (R := R) c59 hq
        have hin := tok_inn hq
        obtain ⟨l1, _, _⟩ := tok_len hq
        rw [List.cons_append] at hbf
        obtain ⟨q, hqq⟩ : ∃ q, q = tokF (c :: (z ++ 59 :: R)) := ⟨_, rfl⟩
        rw [← hqq] at htk h0 hq hbf hin l1
        obtain ⟨k, hkk⟩ : ∃ k, k = q.2.1.length := ⟨_, rfl⟩
        rw [← hkk] at h0 hbf hin l1
        obtain ⟨w2, hw2⟩ : ∃ w2, w2 = (c :: z).drop k := ⟨_, rfl⟩
        have hw2l : w2.length = z.length + 1 - k := by rw [hw2]; simp
        have hdr : (c :: (z ++ 59 :: R)).drop k = w2 ++ 59 :: R := by
          rw [show c :: (z ++ 59 :: R) = (c :: z) ++ 59 :: R from rfl, List.drop_append_of_le_length hbf, hw2]
        have hdr2 : (c :: (z ++ [59])).drop k = w2 ++ [59] := by
          rw [show c :: (z ++ [59]) = (c :: z) ++ [59] from rfl, List.drop_append_of_le_length hbf, hw2]
        have hs2 : semF false (w2 ++ 59 :: R) = some R := by
          rw [← hdr]
          obtain ⟨k', rfl⟩ : ∃ k', k = k' + 1 := ⟨k - 1, by omega⟩
          rw [List.drop_succ_cons]
          rw [Nat.add_sub_cancel] at hin
          have := sem_inn ((z ++ 59 :: R).take k') ((z ++ 59 :: R).drop k') hin
          rw [List.take_append_drop] at this
          rw [← this]; exact hsk.symm
        rw [if_pos hq, hdr] at h0
        have hr : (toksF L n (w2 ++ 59 :: R)).2.2 = 0 := by
          by_cases hr : (toksF L n (w2 ++ 59 :: R)).2.2 = 0
          · exact hr
          · rw [if_neg hr] at h0; exact h0
        simp at hbf
        have hl2 : (w2 ++ 59 :: R).length = w2.length + 1 + R.length := by simp; omega
        have hln2 : (c :: (z ++ 59 :: R)).length ≤ w.length + 1 + R.length := hsl
        obtain ⟨la, i1, n', i2, i3, i4⟩ := toks_item n w2 R L Lx d hs2 (by omega) hr hL (by omega)
        refine ⟨⟨q.1, q.2.1, Lx - (z.length + 2)⟩ :: la, fun m hm => ?_, n', i2, i3, ?_⟩
        · obtain ⟨m, rfl⟩ : ∃ m', m = m' + 1 := ⟨m - 1, by omega⟩
          have hi := i1 m (by omega)
          rw [toksF.eq_2, hp]
          rw [List.cons_append]
          simp only
          rw [← htk, if_pos hq, ← hkk, hdr2, hi]
          simp
        · rw [toksF.eq_2, hk]
          simp only
          rw [← hqq, if_pos hq, ← hkk, hdr, i4]
          simp only [if_true, List.map_cons, movT, List.cons_append]
          rw [hzl, show L - (z.length + 2 + R.length) = Lx - (z.length + 2) + d by omega]
end Go.Proofs.Ytgmjeklneeljdaa
namespace Go.Proofs.Ytgmjeklneeljdaa
open Go.Proofs.Ytgmjeklneeljdaa.Ab
set_option linter.unusedVariables false
set_option linter.unusedSimpArgs false
attribute [local simp] Gr.refl Gr.new Gr.set Gr.kill Nat.add_assoc r_cks chk wantG
theorem Rd_fcel {σ : St} {z : Nat} {v : V} {es : List (List V)} (h : Rd σ z v es) {i j k : Nat} (hi : i < es.length) : faV k (celA v i j) = some (celA v i (j + k)) := by
  rcases h.inv with ⟨rfl, rfl⟩ | rfl | ⟨l, off, rows, rfl, h1, h2, h3⟩
  · simp at hi
  · simp [elA, celA, hi]
  · simp [elA, celA]
theorem inner_loop {σ : St} {v A u tv : V} {al la : List TK} {sp : List (Nat × Nat)} {i n0 fr to : Nat} {E : TK} (hA : Rd σ 4 A (al.map tkE)) (hu : Rd σ 2 u (sp.map spE)) (ht : Rd σ 4 tv ((la ++ [E]).map tkE)) (hi : sp[i]? = some (fr, to))
    (hal : al.length < 2 ^ 40) (hfr : fr < 2 ^ 40) (hq : ∀ k q, la[k]? = some q → al[n0 + k]? = some (movT fr q) ∧ q.fr < 2 ^ 40) {dd : Bool} {rs : List RC} {st : List SE} {B : D} (hB : B = b4_0) :
    ∀ (ls : List TK) (k : Nat) (f : Fr), la.drop k = ls → k ≤ la.length → f.ds = [] → f.env 0 = v → f.env 3 = A → f.env 6 = .int .i64 (n0 + k : Nat) → f.env 7 = u → f.env 8 = .int .i64 i → f.env 9 = tv → f.env 12 = .int .i64 k →
      Lands ET dd rs st (fun f' σ' => σ' = σ ∧ f'.ds = [] ∧ f'.env 0 = v ∧ f'.env 3 = A ∧ f'.env 6 = .int .i64 (n0 + la.length : Nat) ∧ f'.env 7 = u ∧ f'.env 8 = .int .i64 i) (run ET dd rs (.d (.loop [0, 3, 6, 7, 8, 9, 12] B) :: .blk 2 :: st) f σ)
  | [], k, f, h, hk, hd, e0, e3, e6, e7, e8, e9, e12 => by
    have hlen := congrArg List.length h
    simp at hlen
    obtain rfl : k = la.length := by omega
    have hlt : lenV tv = some (.int .i64 (la.length + 1 : Nat)) := by simpa using ht.len
    obtain ⟨m, hm⟩ : ∃ m, m = la.length + 1 := ⟨_, rfl⟩
    rw [← hm] at hlt
    by_cases hla : la.length < 2 ^ 40
    · have hw : IntKind.i64.wrap ((m : Int) - 1) = (la.length : Int) := by rw [IntWalk.i64_in _ (by omega)]; omega
      rw [r_loopU hB]
      simp [b4_0, hd, e0, e3, e6, e7, e8, e9, e12, hlt, hw]
      exact .here ⟨rfl, by simp, by simp, by simp, by simp, by simp, by simp⟩
    · exfalso
      have h1 : la.length - 1 < la.length := by omega
      have := (hq (la.length - 1) la[la.length - 1] (by simp [h1])).1
      have := (List.getElem?_eq_some_iff.1 this).1
      omega
  | q :: ls, k, f, h, hk, hd, e0, e3, e6, e7, e8, e9, e12 => by
    have hat : la[k]? = some q := by
      have := congrArg (·[0]?) h
      simpa using this
    have hkl : k < la.length := (List.getElem?_eq_some_iff.1 hat).1
    have hnext : la.drop (k + 1) = ls := by rw [← List.drop_drop, h]; rfl
    obtain ⟨h1, h2⟩ := hq k q hat
    have hnl : n0 + k < al.length := (List.getElem?_eq_some_iff.1 h1).1
    have hlal : n0 + la.length - 1 < al.length := by
      have h1 : la.length - 1 < la.length := by omega
      have := (hq (la.length - 1) la[la.length - 1] (by simp [h1])).1
      have := (List.getElem?_eq_some_iff.1 this).1
      omega
    have hil : i < sp.length := (List.getElem?_eq_some_iff.1 hi).1
    obtain ⟨n, hn⟩ : ∃ n, n = n0 + k := ⟨_, rfl⟩
    rw [← hn] at e6 h1 hnl
    have hlt : lenV tv = some (.int .i64 (la.length + 1 : Nat)) := by simpa using ht.len
    have hlA : lenV A = some (.int .i64 al.length) := by simpa using hA.len
    obtain ⟨m, hm⟩ : ∃ m, m = la.length + 1 := ⟨_, rfl⟩
    rw [← hm] at hlt
    have hw : IntKind.i64.wrap ((m : Int) - 1) = (la.length : Int) := by rw [IntWalk.i64_in _ (by omega)]; omega
    have hw2 : IntKind.i64.wrap ((k : Int) + 1) = ((k + 1 : Nat) : Int) := by rw [IntWalk.i64_in _ (by omega)]; omega
    have hw3 : IntKind.i64.wrap ((n : Int) + 1) = ((n0 + (k + 1) : Nat) : Int) := by rw [IntWalk.i64_in _ (by omega)]; omega
    have hw4 : IntKind.i64.wrap ((q.fr : Int) + fr) = ((q.fr + fr : Nat) : Int) := by rw [IntWalk.i64_in _ (by omega)]; omega
    have t1 : (la ++ [E])[k]? = some q := by rw [List.getElem?_append_left hkl]; exact hat
    have htl : k < ((la ++ [E]).map tkE).length := by simp; omega
    have a1 : iaV σ 4 tv (.int .i64 k) = some (elA tv k) := Rd.at ht htl
    have a2 : faV 1 (elA tv k) = some (celA tv k 1) := Rd.fa ht htl
    have a3 : ldV σ (celA tv k 1) = some (.str q.txt) := Rd.cel ht (i := k) (j := 1) (e := tkE q) (by rw [List.getElem?_map, t1]; rfl)
    have a4 : faV 0 (elA tv k) = some (celA tv k 0) := Rd.fa ht htl
    have a5 : ldV σ (celA tv k 0) = some (.int .i64 q.kind) := Rd.cel ht (i := k) (j := 0) (e := tkE q) (by rw [List.getElem?_map, t1]; rfl)
    have a6 : faV 2 (elA tv k) = some (celA tv k 2) := Rd.fa ht htl
    have a7 : faV 0 (celA tv k 2) = some (celA tv k 2) := Rd_fcel ht htl
    have a8 : ldV σ (celA tv k 2) = some (.int .i64 q.fr) := Rd.cel ht (i := k) (j := 2) (e := tkE q) (by rw [List.getElem?_map, t1]; rfl)
    have hAl : n < (al.map tkE).length := by simpa using hnl
    have b1 : iaV σ 4 A (.int .i64 n) = some (elA A n) := Rd.at hA hAl
    have b2 : faV 1 (elA A n) = some (celA A n 1) := Rd.fa hA hAl
    have b3 : ldV σ (celA A n 1) = some (.str q.txt) := Rd.cel hA (i := n) (j := 1) (e := tkE (movT fr q)) (by rw [List.getElem?_map, h1]; rfl)
    have b4 : faV 0 (elA A n) = some (celA A n 0) := Rd.fa hA hAl
    have b5 : ldV σ (celA A n 0) = some (.int .i64 q.kind) := Rd.cel hA (i := n) (j := 0) (e := tkE (movT fr q)) (by rw [List.getElem?_map, h1]; rfl)
    have b6 : faV 2 (elA A n) = some (celA A n 2) := Rd.fa hA hAl
    have b7 : faV 0 (celA A n 2) = some (celA A n 2) := Rd_fcel hA hAl
    have b8 : ldV σ (celA A n 2) = some (.int .i64 (q.fr + fr : Nat)) := Rd.cel hA (i := n) (j := 2) (e := tkE (movT fr q)) (by rw [List.getElem?_map, h1]; rfl)
    have hul : i < (sp.map spE).length := by simpa using hil
    have c1 : iaV σ 2 u (.int .i64 i) = some (elA u i) := Rd.at hu hul
    have c2 : faV 0 (elA u i) = some (celA u i 0) := Rd.fa hu hul
    have c3 : ldV σ (celA u i 0) = some (.int .i64 fr) := Rd.cel hu (i := i) (j := 0) (e := spE (fr, to)) (by rw [List.getElem?_map, hi]; rfl)
    obtain ⟨z, hz⟩ : ∃ z, z = q.fr + fr := ⟨_, rfl⟩
    rw [← hz] at hw4 b8
    have hge : ¬ al.length ≤ n := by omega
    have ih := fun f => inner_loop (v := v) hA hu ht hi hal hfr hq (dd := dd) (rs := rs) (st := st) hB ls (k + 1) f hnext (by omega)
    rw [r_loopU hB]
    obtain ⟨k2, hk2⟩ : ∃ k2, k2 = k + 1 := ⟨_, rfl⟩
    rw [← hk2] at hw2 hw3 ih
    obtain ⟨n2, hn2⟩ : ∃ n2, n2 = n0 + k2 := ⟨_, rfl⟩
    rw [← hn2] at hw3 ih
    simp [b4_0, hd, e0, e3, e6, e7, e8, e9, e12, hlt, hw, hkl, hlA, hge, a1, a2, a3, a4, a5, a6, a7, a8, b1, b2, b3, b4, b5, b6, b7, b8, c1, c2, c3, hw4, hw2, hw3]
    exact ih _ (by simp) (by simp) (by simp) (by simp) (by simp) (by simp) (by simp) (by simp)
end Go.Proofs.Ytgmjeklneeljdaa
