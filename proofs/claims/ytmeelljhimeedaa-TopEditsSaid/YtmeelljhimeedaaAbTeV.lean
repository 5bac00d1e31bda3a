/-
The walk over the program's texts, told with what its values say: a part of it. No further condition.
-/
import Derived.Test.YtmeelljhimeedaaAbY
namespace Go.Proofs.Ytmeelljhimeedaa
open Go.Proofs.Ytmeelljhimeedaa.Ab
set_option linter.unusedVariables false
set_option linter.unusedSimpArgs false
attribute [local simp] Gr.refl Gr.new Gr.set Gr.kill Nat.add_assoc r_cks chk wantG
def Fresh (σ : St) : Prop := ∀ l, σ.n ≤ l → σ.H l = none
theorem fresh0 (W : World) : Fresh (Go.Proofs.Ytmeelljhimeedaa.Ab.σ0 W) := fun l _ => rfl
theorem Fresh.new {σ : St} (h : Fresh σ) (b : Blk) : Fresh (σ.new b) := fun l hl => by simp at hl; simp [show l ≠ σ.n by omega, h l (by omega)]
theorem Fresh.set {σ : St} (h : Fresh σ) {k : Nat} (hk : k < σ.n) (b : Blk) : Fresh (σ.set k b) := fun l hl => by simp at hl; simp [show l ≠ k by omega, h l hl]
theorem Fresh.at' {σ τ : St} (h : Fresh σ) {k : Nat} (hn : σ.n ≤ τ.n) (hk : k < τ.n) (e : ∀ l, l ≠ k → τ.H l = σ.H l) : Fresh τ := fun l hl => by rw [e l (by omega)]; exact h l (by omega)
def X4 : D := tl4 d3
theorem own_kill {σ0 σ : St} {z : Nat} {v : V} {es : List (List V)} (h : Own σ0 σ z v es) {l : Nat} (hl : σ0.n ≤ l) (hv : v.row ≠ some l) : Own σ0 (σ.kill l) z v es :=
  ⟨h.sl.mono fun k hk => by simp [show k ≠ l from fun e => hv (e ▸ hk)], h.gr.kill hl, fun k hk => by simpa using h.lo k hk⟩
set_option maxRecDepth 100000 in
/-- From the length on. -/
theorem from4 {σ : St} (hf : Fresh σ) {r3 : Nat} {s put : List UInt8} {n1 n2 : Int} (h3 : σ.H r3 = some (.row 1 [[.str s]])) (h3n : r3 < σ.n)
    {fr : Fr} (e0 : fr.ds = []) (e3 : fr.env 3 = .ptr r3 0 0) (e4 : fr.env 4 = .int .i64 n1) (e5 : fr.env 5 = .int .i64 n2) (e6 : fr.env 6 = .str put) :
    ∃ τ, run ET false [.t 2] [.d X4] fr σ = some (.ret (.bool true), τ) := by
  by_cases c1 : 400 < s.length
  · have c1' : (400 : Int) < s.length := by omega
    exact ⟨_, by simp [X4, tl4, tlD, d3, e0, e3, e4, e5, e6, h3, c1']; rfl⟩
  have c1' : ¬ (400 : Int) < s.length := by omega
  by_cases c2 : 200 < put.length
  · have c2' : (200 : Int) < put.length := by omega
    exact ⟨_, by simp [X4, tl4, tlD, d3, e0, e3, e4, e5, e6, h3, c1', c2']; rfl⟩
  have c2' : ¬ (200 : Int) < put.length := by omega
  by_cases c3 : takeE s = 0
  · obtain ⟨τ1, o1, g1, m1, x1, hd⟩ := open_ok (σ := σ) (ver := 1) c3 (hf _ (by omega))
    have t3 : τ1.H r3 = some (.row 1 [[.str s]]) := by rw [g1.H r3 h3n]; exact h3
    have hv := valid_ev (E := ET) rfl (σ := τ1.new (.row 1 (put.map byteE))) (v := .slc τ1.n 0 put.length) (b := put) (by simp [Bs, Rd, cont, List.take_of_length_le]) (by omega)
    cases hbad : bad put 0 with
    | some i =>
      have hpn := hd.lt
      simp only [hbad, badV] at hv
      obtain ⟨s3, hs3⟩ : ∃ s3, s3 = (τ1.new (.row 1 (put.map byteE))).new (.row 6 [chE ⟨false, 0, 0, 0, 0, put⟩]) := ⟨_, rfl⟩
      have g3 : Gr τ1 s3 := by rw [hs3]; exact ((Gr.refl τ1).new _).new _
      have hap := apply_ev (σ := s3) (ver := 2) (cv := .slc (τ1.n + 1) 0 1) (cs := [⟨false, 0, 0, 0, 0, put⟩]) (hd.gr g3) (by rw [hs3]; simp [Rd, cont]) (fun l off len e => by simp at e; rw [hs3]; simp [← e.1]) (fun c hc => by simp at hc; subst hc; simp [Ch.ok, IntKind.min, IntKind.max, IntKind.signed, IntKind.bits]; omega) (by simp)
      simp only [applyF, hbad] at hap
      simp at hap
      obtain ⟨u, c6, q6⟩ := bytes_ev (hd.gr g3)
      have hst := Bs.str (s := s) (σ := s3) q6.rd
      have t3' : s3.H r3 = some (.row 1 [[.str s]]) := by rw [g3.H r3 (by omega)]; exact t3
      simp only [chE] at hs3
      exact ⟨_, by simp [X4, tl4, tlD, d3, e0, e3, e4, e5, e6, h3, c1', c2', o1, t3, hv, ← hs3, hap, c6, hst, t3']; rfl⟩
    | none =>
      simp only [hbad, badV] at hv
      have z1 : ¬ r3 = τ1.n := by omega
      have z2 : ¬ r3 = τ1.n + 1 := by omega
      have z3 : ¬ r3 = τ1.n + 2 := by omega
      have z4 : ¬ r3 = τ1.n + 3 := by omega
      obtain ⟨s3, hs3⟩ : ∃ s3, s3 = ((τ1.new (.row 1 (put.map byteE))).new (.row 1 [[.nils]])).new (.row 1 (s.map byteE)) := ⟨_, rfl⟩
      have g3 : Gr τ1 s3 := by rw [hs3]; exact (((Gr.refl τ1).new _).new _).new _
      have m3 : s3.n = τ1.n + 3 := by rw [hs3]; simp
      have hB : Bs s3 (.slc (τ1.n + 2) 0 s.length) s := by rw [hs3]; simp [Bs, Rd, cont, List.take_of_length_le]
      have hlet := letters_ev (σ := s3) (v := .slc (τ1.n + 2) 0 s.length) rfl
      obtain ⟨s4, hs4⟩ : ∃ s4, s4 = s3.new (.row 1 [[.slc (τ1.n + 2) 0 s.length]]) := ⟨_, rfl⟩
      have g4 : Gr s3 s4 := by rw [hs4]; exact (Gr.refl _).new _
      have m4 : s4.n = s3.n + 1 := by rw [hs4]; simp
      have hX : X4 = subD 6 X4 X10 := rfl
      rw [← hs4] at hlet
      rw [hX]
      simp [X4, tl4, tlD, d3, subD, e0, e3, e4, e5, e6, h3, c1', c2', o1, t3, hv, z1, z2, ← hs3, hlet]
      rw [rng_in (.t 88) rfl rfl (it_box (p := s3.n) (v := .slc (τ1.n + 2) 0 s.length) (b := s) (by rw [hs4]; simp) (hB.gr g4 (fun l off len e => by simp at e; omega)) (by omega))]
      have hb11 : s4.H (τ1.n + 1) = some (.row 1 [[.nils]]) := by rw [hs4, hs3]; simp
      have hbl : s4.H (τ1.n + 2) = some (.row 1 (s.map byteE)) := by rw [hs4, hs3]; simp
      have hb3 : s4.H r3 = some (.row 1 [[.str s]]) := by rw [g4.H r3 (by omega), g3.H r3 (by omega)]; exact t3
      have hbp : s4.H s3.n = some (.row 1 [[.slc (τ1.n + 2) 0 s.length]]) := by rw [hs4]; simp
      refine Lands.to (C := fun r => ∃ τ, r = some (CO.ret (.bool true), τ)) (beg_loop (σ0 := τ1) (by omega) (e := lk [3, 4, 5, 6, 7, 11, 88] [.ptr r3 0 0, .int .i64 n1, .int .i64 n2, .str put, .ptr (σ.n + 1) 0 0, .ptr (τ1.n + 1) 0 0, .func (.func 19) [] [.ptr s3.n 0 0]]) (m := s4.n) (p := s3.n) (l := τ1.n + 2) (A := b3_0) (B := b3_1) rfl rfl (lts s 0) 0 [] _ _ rfl (by simp)
        ⟨⟨by omega, by omega, by omega⟩, by simp, by simp [show s3.n ≠ s4.n by omega, hbp], ⟨by simp [show τ1.n + 2 ≠ s4.n by omega, hbl], by omega, by simp; omega⟩,
          r3, τ1.n + 1, .nils, by simp, by simp, by simp [show r3 ≠ s4.n by omega, hb3], by simp [show τ1.n + 1 ≠ s4.n by omega, hb11], (Own.nils τ1 1).step ((g3.trans g4).new _), fun k hk => by simp [V.row] at hk, by omega, by omega, by omega, by omega, by omega, by simp; omega, by simp; omega, by simp; omega, by simp, by omega⟩) ?_
      rintro f' σ' ⟨q1, q2, σ2, hq, rfl⟩
      obtain ⟨r3', r11, u, a1, a2, a3, a4, a5, a6, y1, y2, y3, y4, y5, y6, y7, y8, y9, y10⟩ := hq.rs
      simp at a1 a2
      obtain rfl := a1
      subst a2
      simp [q1, q2]
      have gk : Gr τ1 (σ2.kill s4.n) := a5.gr.kill (by omega)
      refine pick10 (σ0 := τ1) (r3 := r3) (r11 := τ1.n + 1) (u := u) (n1 := n1) (n2 := n2) (hd.gr gk) (by simp [show r3 ≠ s4.n by omega, a3]) (by simpa using y6) (by omega) (by simp [y3, a4]) (by simpa using y7) (by omega) (by omega) (by omega) (own_kill (by simpa using a5) (by omega) (fun h => (a6 _ h).2.2.2.1 rfl)) (fun k hk => ?_) (by omega) (by omega) hbad ?_ ?_ ?_ ?_ ?_ ?_ ?_
      · have := a6 k hk
        refine ⟨this.1, this.2.1, ?_⟩
        have := (a5.lo k hk).1
        omega
      all_goals simp
  · have o1 := open_bad (σ := σ) (ver := 1) (s := s) (by omega) c3
    have c3' : ¬ (takeE s : Int) = 0 := by omega
    exact ⟨_, by simp [X4, tl4, tlD, d3, e0, e3, e4, e5, e6, h3, c1', c2', o1, c3, c3']; rfl⟩
theorem ev_any {k : FuncId} {fd : FD} {vs : List V} {σ τ : St} {b : Bool} (h : ET.T k = some fd) (hl : vs.length ≤ fd.nt) (hz : fd.fz = .all) (hr : run ET false fd.res [.d fd.body] ⟨envOf vs, []⟩ σ = some (.ret (.bool b), τ)) : ∃ σ', ev ET k vs σ = some (.ret (.bool b), σ') := by
  rw [ev_eq h hl, hr]
  exact ⟨_, by simp [cutR, hz]; rfl⟩
set_option maxRecDepth 100000 in
theorem edits_ok {σ : St} (hf : Fresh σ) {s put : List UInt8} {n1 n2 : Int} : ∃ σ', ev ET 3 [.agg [.str s, .int .i64 n1, .int .i64 n2, .str put]] σ = some (.ret (.bool true), σ') := by
  suffices h : ∃ τ, run ET false f3.res [.d f3.body] ⟨envOf [.agg [.str s, .int .i64 n1, .int .i64 n2, .str put]], []⟩ σ = some (.ret (.bool true), τ) by
    obtain ⟨τ, h⟩ := h
    exact ev_any rfl (by simp [f3]) rfl h
  obtain ⟨s1, hs1⟩ : ∃ s1, s1 = ((σ.new (.row 4 [[.str s, .int .i64 n1, .int .i64 n2, .str put]])).new (.row 1 [[.str []]])).set (σ.n + 1) (.row 1 [[.str s]]) := ⟨_, rfl⟩
  have m1 : s1.n = σ.n + 2 := by rw [hs1]; simp
  have hf1 : Fresh s1 := by rw [hs1]; exact ((hf.new _).new _).set (by simp) _
  have b3 : s1.H (σ.n + 1) = some (.row 1 [[.str s]]) := by rw [hs1]; simp
  have b0 : s1.H σ.n = some (.row 4 [[.str s, .int .i64 n1, .int .i64 n2, .str put]]) := by rw [hs1]; simp
  obtain ⟨τ1, o1, g1, n1', x1, d1⟩ := open_ok (σ := s1) (ver := 1) eur_ok (hf1 _ (by omega))
  have hf2 : Fresh τ1 := hf1.at' (k := s1.n + 1) (by omega) (by omega) x1
  obtain ⟨s3, hs3⟩ : ∃ s3, s3 = τ1.new (.row 6 [chE ⟨true, 0, 1, 0, 2, [120]⟩]) := ⟨_, rfl⟩
  have hf3 : Fresh s3 := by rw [hs3]; exact hf2.new _
  have g3 : Gr τ1 s3 := by rw [hs3]; exact (Gr.refl _).new _
  have m3 : s3.n = τ1.n + 1 := by rw [hs3]; simp
  have hap := apply_ev (σ := s3) (ver := 2) (cv := .slc τ1.n 0 1) (cs := [⟨true, 0, 1, 0, 2, [120]⟩]) (d1.gr g3) (by rw [hs3]; simp [Rd, cont]) (fun l off len e => by simp at e; rw [hs3]; simp [← e.1]) (fun c hc => by simp at hc; subst hc; simp [Ch.ok, IntKind.min, IntKind.max, IntKind.signed, IntKind.bits]) (by simp)
  rw [eur_app] at hap
  obtain ⟨τ2, o2, d2, m4, w2, x2⟩ := hap
  have hf4 : Fresh τ2 := hf3.at' (k := s1.n + 1) (by omega) (by omega) x2
  obtain ⟨u, c6, q6⟩ := bytes_ev d2
  have hst := Bs.str (s := [97, 120, 98]) (σ := τ2) q6.rd
  have t3 : τ2.H (σ.n + 1) = some (.row 1 [[.str s]]) := by rw [x2 _ (by omega), g3.H _ (by omega), x1 _ (by omega)]; exact b3
  have hX : f3.body = subD 4 d3 X4 := rfl
  rw [hX]
  simp only [chE] at hs3
  rw [m1] at o1 o2 c6
  simp only [Nat.add_assoc] at o1 o2 c6
  unfold eur at o1
  simp [f3, d3, subD, ← hs1, b0, b3, o1, ← hs3, o2, c6, hst, Nat.reduceAdd]
  refine from4 (n1 := n1) (n2 := n2) (put := put) hf4 t3 (by omega) ?_ ?_ ?_ ?_ ?_ <;> simp
theorem edits_core (W : World) (us : List V) (hu : TypedA [.agg (.str (.int .i64 (.int .i64 (.str .nil))))] us) : CCalls Try.prog 3 us (Go.Proofs.Ytmeelljhimeedaa.Ab.σ0 W) (fun o _ => o = .ret (.bool true)) := by
  obtain ⟨u0, _, rfl, ⟨xs, rfl, s, _, rfl, _, n1, _, rfl, _, n2, _, rfl, _, put, _, rfl, _, rfl⟩, rfl⟩ := hu
  obtain ⟨σ', h⟩ := edits_ok (fresh0 W) (s := s) (n1 := n1) (n2 := n2) (put := put)
  exact (ev_calls ET_ok h).mono fun o _ h => h.1
end Go.Proofs.Ytmeelljhimeedaa
