/-
The walk over the program's texts, told with what its values say: a part of it. No further condition.
-/
import Derived.Test.YtogibebpoliolaaAbY
namespace Go.Proofs.Ytogibebpoliolaa
open Go.Proofs.Ytogibebpoliolaa.Ab
set_option linter.unusedVariables false
set_option linter.unusedSimpArgs false
attribute [local simp] Gr.refl Gr.new Gr.set Gr.kill Nat.add_assoc r_cks chk wantG
def Fresh (σ : St) : Prop := ∀ l, σ.n ≤ l → σ.H l = none
theorem fresh0 (W : World) : Fresh (σ0 W) := fun l _ => rfl
theorem ev_any {k : FuncId} {fd : FD} {vs : List V} {σ τ : St} {b : Bool} (h : ET.T k = some fd) (hl : vs.length ≤ fd.nt) (hz : fd.fz = .all) (hr : run ET false fd.res [.d fd.body] ⟨envOf vs, []⟩ σ = some (.ret (.bool b), τ)) : ∃ σ', ev ET k vs σ = some (.ret (.bool b), σ') := by
  rw [ev_eq h hl, hr]
  exact ⟨_, by simp [cutR, hz]; rfl⟩
theorem typed_chs {v : V} (h : Typed (.slc (.bool (.int .i64 (.int .i64 (.int .i64 (.int .i64 (.str .nil)))))) .nil) [v]) : ∃ cs : List Ch, Tl 6 v (cs.map chE) ∧ ∀ c ∈ cs, c.ok := by
  obtain ⟨u', _, e, h, rfl⟩ := h
  simp at e; subst e
  rcases h with rfl | ⟨es, rfl, hm, hes⟩
  · exact ⟨[], Tl.nils 6, by simp⟩
  · have : ∃ cs : List Ch, es = cs.map chE ∧ ∀ c ∈ cs, c.ok := by
      clear hm
      induction es with
      | nil => exact ⟨[], rfl, by simp⟩
      | cons e es ih =>
        obtain ⟨cs, rfl, hcs⟩ := ih fun e' he => hes e' (by simp [he])
        obtain ⟨rg, _, rfl, l1, _, rfl, h1, u1, _, rfl, h2, l2, _, rfl, h3, u2, _, rfl, h4, t, _, rfl, _, rfl⟩ := hes e (by simp)
        refine ⟨⟨rg, l1, u1, l2, u2, t⟩ :: cs, rfl, fun c hc => ?_⟩
        rcases List.mem_cons.1 hc with rfl | hc
        · exact ⟨h1, h2, h3, h4⟩
        · exact hcs c hc
    obtain ⟨cs, rfl, h⟩ := this
    exact ⟨cs, Tl.islc 6 _, h⟩
theorem applyF_err : ∀ {cs : List Ch} {b : List UInt8} {acc : List Ed} {e : Nat}, applyF b acc cs = .err e → e = 3 ∨ e = 10
  | [], b, acc, e, h => by simp [applyF] at h
  | c :: cs, b, acc, e, h => by
    rw [applyF_one] at h
    cases hR : oneR b c with
    | err n => rw [hR] at h; simp at h; subst h; exact oneR_err hR
    | ok b' x => rw [hR] at h; exact applyF_err h
theorem applyF_len : ∀ {cs : List Ch} {b b' : List UInt8} {acc ed : List Ed}, applyF b acc cs = .ok b' ed → ed.length = acc.length + cs.length
  | [], b, b', acc, ed, h => by simp [applyF] at h; simp [h.2]
  | c :: cs, b, b', acc, ed, h => by
    rw [applyF_one] at h
    cases hR : oneR b c with
    | err n => rw [hR] at h; simp at h
    | ok b1 x => rw [hR] at h; have := applyF_len h; simp at this ⊢; omega
theorem light_in {s : List UInt8} {cs : List Ch} (h : lightF s cs = true) : s.length ≤ 500 ∧ cs.length ≤ 20 ∧ ∀ c ∈ cs, c.text.length ≤ 300 := by
  simp [lightF] at h; exact h
theorem applies_ev {σ : St} (hf : Fresh σ) {s : List UInt8} {ver : Int} {v : V} {cs : List Ch} (hv : Tl 6 v (cs.map chE)) (hcs : ∀ c ∈ cs, c.ok) : ∃ σ', ev ET 3 [.str s, .int .i64 ver, v] σ = some (.ret (.bool true), σ') := by
  suffices h : ∃ τ, run ET false f3.res [.d f3.body] ⟨envOf [.str s, .int .i64 ver, v], []⟩ σ = some (.ret (.bool true), τ) by
    obtain ⟨τ, h⟩ := h
    exact ev_any rfl (by simp [f3]) rfl h
  have hli := light_ev (σ := σ) (s := s) hv.rd
  have hop := opened_ev (hf (σ.n + 1) (by omega))
  cases hl : lightF s cs with
  | false => exact ⟨_, by simp [f3, d3, hli, hl, hop]; rfl⟩
  | true =>
  obtain ⟨k1, k2, k3⟩ := light_in hl
  have hta := take_ev (σ := σ) (s := s) (by omega)
  by_cases ht : takeE s = 0
  · obtain ⟨τ1, o1, g1, n1, e1, d1⟩ := open_ok (σ := σ) (ver := 7) ht (hf _ (by omega))
    have hta := take_ev (σ := τ1) (s := s) (by omega)
    rw [ht] at hta
    simp at hta
    have hop1 := opened_ev (σ := τ1) (by rw [e1 _ (by omega)]; exact hf _ (by omega))
    obtain ⟨u, c1, cu⟩ := changes_ev (σ := τ1) hv.rd hv.old (by omega)
    have hall : ∀ c ∈ cs, c.ok ∧ c.text.length < 2 ^ 40 := fun c hc => ⟨hcs c hc, by have := k3 c hc; omega⟩
    have hap := apply_ev (ver := ver) d1 hv.rd hv.old hall (by omega)
    cases hA : applyF s [] cs with
    | err e =>
      rw [hA] at hap
      simp only at hap
      have hrp := rapply_ev (σ := τ1) (b := s) cu.rd cu.old hall (by omega) (by omega)
      rw [hA] at hrp
      simp only at hrp
      have he : ¬ e = 0 := by rcases applyF_err hA with rfl | rfl <;> simp
      obtain ⟨u2, τ2, b1, q1⟩ := bytes_ev d1
      have d2 := d1.gr q1.gr
      obtain ⟨u3, τ3, b2, q2⟩ := edits_ev d2 (by simp)
      have hs := Bs.str (s := s) q1.rd
      obtain ⟨B, Ls, Es, hH, _⟩ := d2.H
      have hlen := q2.rd.len
      simp at hlen
      exact ⟨τ3, by simp [f3, d3, hli, hl, o1, hta, hap, c1, hrp, hop1, he, b1, hs, hH, b2, hlen]⟩
    | ok b' ed =>
      rw [hA] at hap
      obtain ⟨τ2, a1, d2, m1, w1, x1⟩ := hap
      have hop2 := opened_ev (σ := τ2) (by rw [x1 _ (by omega), e1 _ (by omega)]; exact hf _ (by omega))
      obtain ⟨u, c1, cu⟩ := changes_ev (σ := τ2) hv.rd hv.old (by omega)
      have hrp := rapply_ev (σ := τ2) (b := s) cu.rd cu.old hall (by omega) (by omega)
      rw [hA] at hrp
      obtain ⟨ru, r1, rt⟩ := hrp
      have hel := applyF_len hA
      simp at hel
      obtain ⟨u2, τ3, b1, q1⟩ := bytes_ev d2
      have d3' := d2.gr q1.gr
      obtain ⟨u3, τ4, b2, q2⟩ := edits_ev d3' (by omega)
      have hs := Bs.str (s := b') q1.rd
      obtain ⟨B, Ls, Es, hH, _⟩ := d3'.H
      have hsm := same_ev (σ := τ4) q2.rd rt.rd (by omega)
      exact ⟨τ4, by simp [f3, d3, hli, hl, o1, hta, a1, c1, r1, hop2, b1, hs, hH, b2, hsm]⟩
  · have o1 := open_bad (σ := σ) (ver := 7) (s := s) (by omega) ht
    have ht' : ¬ (takeE s : Int) = 0 := by omega
    exact ⟨_, by simp [f3, d3, hli, hl, o1, hta, ht, ht', hop]; rfl⟩
theorem applies_core (W : World) (us : List V) (hu : TypedA [.one (.str .nil), .one (.int .i64 .nil), .one (.slc (.bool (.int .i64 (.int .i64 (.int .i64 (.int .i64 (.str .nil)))))) .nil)] us) : CCalls Try.prog 3 us (Go.Proofs.Ytogibebpoliolaa.Ab.σ0 W) (fun o _ => o = .ret (.bool true)) := by
  obtain ⟨u0, _, rfl, h0, u1, _, rfl, h1, u2, _, rfl, h2, rfl⟩ := hu
  obtain ⟨s, _, e, _, rfl⟩ := h0
  simp at e; subst e
  obtain ⟨n, _, e, _, rfl⟩ := h1
  simp at e; subst e
  obtain ⟨cs, hv, hcs⟩ := typed_chs h2
  obtain ⟨σ', h⟩ := applies_ev (fresh0 W) (s := s) (ver := n) hv hcs
  exact (ev_calls ET_ok h).mono fun o _ h => h.1
end Go.Proofs.Ytogibebpoliolaa
namespace Go.Proofs.Ytogibebpoliolaa
open Go.Proofs.Ytogibebpoliolaa.Ab
set_option linter.unusedVariables false
set_option linter.unusedSimpArgs false
attribute [local simp] Gr.refl Gr.new Gr.set Gr.kill Nat.add_assoc r_cks chk wantG
theorem places_ev {σ : St} (hf : Fresh σ) {s : List UInt8} {l u a : Int} (hu : IntKind.i64.min ≤ u ∧ u ≤ IntKind.i64.max) : ∃ σ', ev ET 7 [.str s, .agg [.int .i64 l, .int .i64 u], .int .i64 a] σ = some (.ret (.bool true), σ') := by
  suffices h : ∃ τ, run ET false f7.res [.d f7.body] ⟨envOf [.str s, .agg [.int .i64 l, .int .i64 u], .int .i64 a], []⟩ σ = some (.ret (.bool true), τ) by
    obtain ⟨τ, h⟩ := h
    exact ev_any rfl (by simp [f7]) rfl h
  obtain ⟨s1, hs1⟩ : ∃ s1, s1 = σ.new (.row 2 [[.int .i64 l, .int .i64 u]]) := ⟨_, rfl⟩
  have n1 : s1.n = σ.n + 1 := by rw [hs1]; simp
  have b1 : s1.H σ.n = some (.row 2 [[.int .i64 l, .int .i64 u]]) := by rw [hs1]; simp
  have hf1 : Fresh s1 := fun x hx => by rw [n1] at hx; rw [hs1]; simp [show x ≠ σ.n by omega, hf x (by omega)]
  have hop := opened_ev (hf1 (s1.n + 1) (by omega))
  by_cases h5 : s.length ≤ 500
  · have h5' : ¬ (500 : Int) < s.length := by omega
    by_cases ht : takeE s = 0
    · obtain ⟨τ1, o1, g1, m1, e1, d1⟩ := open_ok (σ := s1) (ver := 1) ht (hf1 _ (by omega))
      obtain ⟨s2, hs2⟩ : ∃ s2, s2 = τ1.new (.row 1 (s.map byteE)) := ⟨_, rfl⟩
      have n2 : s2.n = σ.n + 4 := by rw [hs2]; simp [m1, n1]
      have g2 : Gr τ1 s2 := by rw [hs2]; simp
      have b2 : s2.H σ.n = some (.row 2 [[.int .i64 l, .int .i64 u]]) := by rw [g2.H _ (by omega), e1 _ (by omega)]; exact b1
      have m1' : τ1.n = σ.n + 3 := by omega
      have hop2 := opened_ev (σ := s2) (by rw [hs2]; simp [m1', n2]; rw [e1 _ (by omega)]; exact hf1 _ (by omega))
      obtain ⟨w, li, lt⟩ := rlines_ev (σ := s2) (v := .slc (σ.n + 3) 0 s.length) (b := s) (by rw [hs2]; exact s2b_rd m1') (by rw [hs2]; exact s2b_old m1') (by omega)
      have d2 := d1.gr g2
      have hoff := docoff_ev (l := l) d2 hu
      have d3 := d2.gr ((Gr.refl s2).new (.row 1 (s.map byteE)))
      have hoff' := docoff_ev (l := l) d3 hu
      have hro := roffset_ev (σ := s2.new (.row 1 (s.map byteE))) (line := l) (s2b_rd (s := s) n2) (s2b_old n2) lt.rd lt.old (by omega) hu
      have hpl := docplace_ev (a := a) d3
      have d4 := d3.gr ((Gr.refl _).new (.row 1 (s.map byteE)))
      have hpl' := docplace_ev (a := a) d4
      have hln := lns_len (s := s) s.length 0 (by omega)
      have hrp := rplace_ev (σ := (s2.new (.row 1 (s.map byteE))).new (.row 1 (s.map byteE))) (at' := a) (s2b_rd (s := s) (n := σ.n + 5) (by simp [n2])) (s2b_old (by simp [n2])) lt.rd lt.old (by omega) (by simp [linesF]; omega) (by simp [linesF])
      rw [n1] at o1 hoff hoff' hpl hpl'
      exact ⟨_, by simp [f7, d7, ← hs1, n1, b1, h5', o1, m1', ← hs2, b2, li, hop2, hoff, hoff', hro, hpl, hpl', hrp, n2]; rfl⟩
    · have o1 := open_bad (σ := s1) (ver := 1) (s := s) (by omega) ht
      have ht' : ¬ (takeE s : Int) = 0 := by omega
      exact ⟨_, by simp [f7, d7, ← hs1, n1, b1, h5', o1, ht, ht', hop]; rfl⟩
  · have h5' : (500 : Int) < s.length := by omega
    exact ⟨_, by simp [f7, d7, ← hs1, n1, b1, h5', hop]; rfl⟩
theorem places_core (W : World) (us : List V) (hu : TypedA [.one (.str .nil), .agg (.int .i64 (.int .i64 .nil)), .one (.int .i64 .nil)] us) : CCalls Try.prog 7 us (Go.Proofs.Ytogibebpoliolaa.Ab.σ0 W) (fun o _ => o = .ret (.bool true)) := by
  obtain ⟨u0, _, rfl, h0, u1, _, rfl, h1, u2, _, rfl, h2, rfl⟩ := hu
  obtain ⟨s, _, e, _, rfl⟩ := h0
  simp at e; subst e
  obtain ⟨xs, rfl, l, _, rfl, _, u, _, rfl, hun, rfl⟩ := h1
  obtain ⟨n, _, e, _, rfl⟩ := h2
  simp at e; subst e
  obtain ⟨σ', h⟩ := places_ev (fresh0 W) (s := s) (l := l) (u := u) (a := n) hun
  exact (ev_calls ET_ok h).mono fun o _ h => h.1
end Go.Proofs.Ytogibebpoliolaa
namespace Go.Proofs.Ytogibebpoliolaa
open Go.Proofs.Ytogibebpoliolaa.Ab
set_option linter.unusedVariables false
set_option linter.unusedSimpArgs false
attribute [local simp] Gr.refl Gr.new Gr.set Gr.kill Nat.add_assoc r_cks chk wantG
theorem Doc.turn {σ τ : St} {p p' : Nat} {ver : Int} {b : List UInt8} {ed : List Ed} (h : Doc σ p' ver b ed) (hn : τ.n = σ.n) (hH : ∀ l, l ≠ p → τ.H l = σ.H l) (hp : p' ≠ p) : Doc τ p' ver b ed := by
  obtain ⟨B, Ls, Es, h1, h2⟩ := h.H
  exact ⟨⟨B, Ls, Es, by rw [hH p' hp]; exact h1, h2⟩, by rw [hn]; exact h.lt, h.len⟩
/-- The bytes, or the error. -/
def Rs.out : Rs → Nat × List UInt8
  | .err n => (n, [])
  | .ok b _ => (0, b)
theorem applyF_acc : ∀ (cs : List Ch) (b : List UInt8) (acc acc' : List Ed), (applyF b acc cs).out = (applyF b acc' cs).out
  | [], b, acc, acc' => rfl
  | c :: cs, b, acc, acc' => by
    rw [applyF_one, applyF_one]
    cases oneR b c with
    | err n => rfl
    | ok b' x => exact applyF_acc cs b' _ _
theorem applyF_app : ∀ (xs ys : List Ch) (b : List UInt8) (acc : List Ed), applyF b acc (xs ++ ys) = match applyF b acc xs with
    | .err n => .err n
    | .ok b' acc' => applyF b' acc' ys
  | [], ys, b, acc => rfl
  | c :: xs, ys, b, acc => by
    rw [List.cons_append, applyF_one, applyF_one]
    cases oneR b c with
    | err n => rfl
    | ok b' x => exact applyF_app xs ys b' _
theorem twice_ev {σ : St} (hf : Fresh σ) {s : List UInt8} {n : Int} {v : V} {cs : List Ch} (hv : Tl 6 v (cs.map chE)) (hcs : ∀ c ∈ cs, c.ok) : ∃ σ', ev ET 4 [.str s, v, .int .i64 n] σ = some (.ret (.bool true), σ') := by
  suffices h : ∃ τ, run ET false f4.res [.d f4.body] ⟨envOf [.str s, v, .int .i64 n], []⟩ σ = some (.ret (.bool true), τ) by
    obtain ⟨τ, h⟩ := h
    exact ev_any rfl (by simp [f4]) rfl h
  have hli := light_ev (σ := σ) (s := s) hv.rd
  have hop := opened_ev (hf (σ.n + 1) (by omega))
  cases hl : lightF s cs with
  | false => exact ⟨_, by simp [f4, d4, hli, hl, hop]; rfl⟩
  | true =>
  obtain ⟨k1, k2, k3⟩ := light_in hl
  have hall : ∀ c ∈ cs, c.ok ∧ c.text.length < 2 ^ 40 := fun c hc => ⟨hcs c hc, by have := k3 c hc; omega⟩
  by_cases ht : takeE s = 0
  · obtain ⟨τ1, o1, g1, n1, e1, d1⟩ := open_ok (σ := σ) (ver := 1) ht (hf _ (by omega))
    obtain ⟨τ2, o2, g2, n2, e2, d2⟩ := open_ok (σ := τ1) (ver := 1) ht (by rw [e1 _ (by omega)]; exact hf _ (by omega))
    have dA := d1.gr g2
    have hcl : lenV v = some (.int .i64 cs.length) := by simpa using (hv.rd (σ := σ)).len
    -- where it is cut
    obtain ⟨m, hm⟩ : ∃ m, m = cs.length + 1 := ⟨_, rfl⟩
    have w1 : IntKind.i64.wrap ((cs.length : Int) + 1) = (m : Int) := by rw [IntWalk.i64_in _ (by omega)]; omega
    have w2 : IntKind.u64.wrap (m : Int) = m := by simp [IntKind.wrap, IntKind.signed, IntKind.bits]; omega
    obtain ⟨a, ha⟩ : ∃ a : Nat, IntKind.u64.wrap n = a := by
      refine ⟨(IntKind.u64.wrap n).toNat, ?_⟩
      simp [IntKind.wrap, IntKind.signed, IntKind.bits]; omega
    obtain ⟨k, hk⟩ : ∃ k, k = a % m := ⟨_, rfl⟩
    have hkl : k ≤ cs.length := by have := Nat.mod_lt a (show 0 < m by omega); omega
    have w3 : Int.tmod (a : Int) m = (k : Int) := by rw [Int.tmod_eq_emod_of_nonneg (by omega), hk]; omega
    have w4 : IntKind.i64.wrap (k : Int) = k := IntWalk.i64_in _ (by omega)
    have hm0 : ¬ (m : Int) = 0 := by omega
    have hm0' : ¬ m = 0 := by omega
    have hs1 : ∀ σ' env (hi : Opd), hi.ev env = .int .i64 k → lslV env σ' 6 v none (some hi) = some (cutV v 0 k) := fun σ' env hi h => (hv.rd (σ := σ')).lsl (by simp) (by simp [h]) (by omega) (by simpa using hkl)
    have hs2 : ∀ σ' env (lo : Opd), lo.ev env = .int .i64 k → lslV env σ' 6 v (some lo) none = some (cutV v k cs.length) := fun σ' env lo h => (hv.rd (σ := σ')).lsl (by simp [h]) (by simp) hkl (by simp)
    have hr1 : ∀ σ', Rd σ' 6 (cutV v 0 k) ((cs.take k).map chE) := fun σ' => by
      have := (hv.rd (σ := σ')).cut (a := 0) (b := k) (by omega) (by simpa using hkl)
      simpa using this
    have hr2 : ∀ σ', Rd σ' 6 (cutV v k cs.length) ((cs.drop k).map chE) := fun σ' => by
      have := (hv.rd (σ := σ')).cut (a := k) (b := cs.length) hkl (by simp)
      rw [List.take_of_length_le (by simp)] at this
      simpa using this
    have hap := apply_ev (ver := 2) dA hv.rd hv.old hall (by omega)
    have hsum := applyF_app (cs.take k) (cs.drop k) s []
    rw [List.take_append_drop] at hsum
    have hall1 : ∀ c ∈ cs.take k, c.ok ∧ c.text.length < 2 ^ 40 := fun c hc => hall c (List.mem_of_mem_take hc)
    have hall2 : ∀ c ∈ cs.drop k, c.ok ∧ c.text.length < 2 ^ 40 := fun c hc => hall c (List.mem_of_mem_drop hc)
    have hx1 : (cs.take k).length < 2 ^ 40 := by simp; omega
    have hx2 : (cs.drop k).length < 2 ^ 40 := by simp; omega
    cases hA : applyF s [] cs with
    | err e =>
      have he : ¬ e = 0 := by rcases applyF_err hA with rfl | rfl <;> simp
      rw [hA] at hap hsum
      simp only at hap
      have hb1 := apply_ev (ver := 2) d2 (hr1 τ2) (V.old_cut hv.old 0 k) hall1 hx1
      cases hX : applyF s [] (cs.take k) with
      | err e' =>
        rw [hX] at hb1
        simp only at hb1
        have he' : ¬ e' = 0 := by rcases applyF_err hX with rfl | rfl <;> simp
        exact ⟨_, by simp [f4, d4, hli, hl, hop, o1, o2, hcl, w1, w2, ha, w3, w4, hm0, hm0', hs1, hap, hb1, he, he']; rfl⟩
      | ok b1 ed1 =>
        rw [hX] at hb1 hsum
        obtain ⟨τ3, h3, d3, m3, y3, x3⟩ := hb1
        have hb2 := apply_ev (ver := 2) d3 (hr2 τ3) (V.old_cut hv.old k cs.length) hall2 hx2
        have hacc := applyF_acc (cs.drop k) b1 ed1 []
        simp only at hsum
        rw [← hsum] at hacc
        cases hY : applyF b1 [] (cs.drop k) with
        | err e' =>
          rw [hY] at hb2
          simp only at hb2
          have he' : ¬ e' = 0 := by rcases applyF_err hY with rfl | rfl <;> simp
          exact ⟨_, by simp [f4, d4, hli, hl, hop, o1, o2, hcl, w1, w2, ha, w3, w4, hm0, hm0', hs1, hs2, hap, h3, hb2, he, he']; rfl⟩
        | ok b2 ed2 =>
          rw [hY] at hacc
          simp [Rs.out] at hacc
          exact absurd hacc.1 he
    | ok b' ed =>
      rw [hA] at hap hsum
      obtain ⟨τ3, h3, d3, m3, y3, x3⟩ := hap
      have d2' := d2.turn m3 x3 (by omega)
      have hb1 := apply_ev (ver := 2) d2' (hr1 τ3) (V.old_cut hv.old 0 k) hall1 hx1
      cases hX : applyF s [] (cs.take k) with
      | err e' =>
        rw [hX] at hsum
        simp at hsum
      | ok b1 ed1 =>
        rw [hX] at hb1 hsum
        obtain ⟨τ4, h4, d4', m4, y4, x4⟩ := hb1
        have hb2 := apply_ev (ver := 2) d4' (hr2 τ4) (V.old_cut hv.old k cs.length) hall2 hx2
        have hacc := applyF_acc (cs.drop k) b1 ed1 []
        simp only at hsum
        rw [← hsum] at hacc
        cases hY : applyF b1 [] (cs.drop k) with
        | err e' =>
          rw [hY] at hacc
          have he' : ¬ e' = 0 := by rcases applyF_err hY with rfl | rfl <;> simp
          simp [Rs.out] at hacc
          exact absurd hacc.1.symm he'
        | ok b2 ed2 =>
          rw [hY] at hb2 hacc
          simp [Rs.out] at hacc
          subst hacc
          obtain ⟨τ5, h5, d5, m5, y5, x5⟩ := hb2
          have d3' := (d3.turn m4 x4 (by omega)).turn m5 x5 (by omega)
          obtain ⟨u1, τ6, b1', q1⟩ := bytes_ev d3'
          have t1 := Bs.str (s := b') q1.rd
          obtain ⟨u2, τ7, b2', q2⟩ := bytes_ev (d5.gr q1.gr)
          have t2 := Bs.str (s := b') q2.rd
          have t1' := Bs.str (s := b') (q1.step q2.gr).rd
          rw [n1] at h4 h5 b2' o2
          simp only [Nat.add_assoc] at h4 h5 b2' o2
          exact ⟨_, by simp [f4, d4, hli, hl, hop, o1, o2, hcl, w1, w2, ha, w3, w4, hm0, hm0', hs1, hs2, h3, h4, h5, b1', b2', t1, t2, t1', n1]; rfl⟩
  · have o1 := open_bad (σ := σ) (ver := 1) (s := s) (by omega) ht
    have ht' : ¬ (takeE s : Int) = 0 := by omega
    exact ⟨_, by simp [f4, d4, hli, hl, o1, ht, ht', hop]; rfl⟩
theorem twice_core (W : World) (us : List V) (hu : TypedA [.one (.str .nil), .one (.slc (.bool (.int .i64 (.int .i64 (.int .i64 (.int .i64 (.str .nil)))))) .nil), .one (.int .i64 .nil)] us) : CCalls Try.prog 4 us (Go.Proofs.Ytogibebpoliolaa.Ab.σ0 W) (fun o _ => o = .ret (.bool true)) := by
  obtain ⟨u0, _, rfl, h0, u1, _, rfl, h1, u2, _, rfl, h2, rfl⟩ := hu
  obtain ⟨s, _, e, _, rfl⟩ := h0
  simp at e; subst e
  obtain ⟨n, _, e, _, rfl⟩ := h2
  simp at e; subst e
  obtain ⟨cs, hv, hcs⟩ := typed_chs h1
  obtain ⟨σ', h⟩ := twice_ev (fresh0 W) (s := s) (n := n) hv hcs
  exact (ev_calls ET_ok h).mono fun o _ h => h.1
end Go.Proofs.Ytogibebpoliolaa
namespace Go.Proofs.Ytogibebpoliolaa
open Go.Proofs.Ytogibebpoliolaa.Ab
set_option linter.unusedVariables false
set_option linter.unusedSimpArgs false
attribute [local simp] Gr.refl Gr.new Gr.set Gr.kill Nat.add_assoc r_cks chk wantG
theorem bad_rep {s : List UInt8} (h : ∀ i, i < s.length → nx s i < 128) : ∀ (n i : Nat), s.length ≤ i + n → bad s i = none := by
  intro n
  induction n with
  | zero => intro i hi; exact bad_end (by omega)
  | succ n ih =>
    intro i hi
    by_cases hl : i < s.length
    · have : lt1 s i = some (nx s i, 1) := by unfold lt1; rw [if_pos (h i hl)]
      rw [bad_some hl this]
      exact ih (i + 1) (by omega)
    · exact bad_end hl
theorem off00 (b : List UInt8) (L : List Nat) : offF b (0 :: L) 0 0 = 0 := by
  unfold offF
  simp only [show ¬ (0 : Int) < 0 by omega, if_false, Int.toNat_zero, List.getElem?_cons_zero, Nat.zero_min, List.drop_zero]
  have he := endL_le (s := b) (i := 0) (by omega)
  by_cases h : 0 < endL b 0
  · rw [lts_at (by simp; omega)]
    have : (0 : Int) < uni (sp (b.take (endL b 0)) 0).1 := by unfold uni; split <;> omega
    unfold offL
    rw [if_pos this]
  · have h0 : endL b 0 = 0 := by omega
    rw [h0]
    rw [lts_end (by simp)]
    rfl
def aE : List V := [.int .u8 97]
def zE : List V := [.int .u8 0]
theorem fill_loop {N l : Nat} (hN : N < 2 ^ 40) {dd : Bool} {rs : List RC} {s : List SE} {B : D} (hB : B = b6_0) :
    ∀ (k i : Nat) (f : Fr) (σ : St), N = i + k → σ.H l = some (.row 1 (List.replicate i aE ++ List.replicate k zE)) → f.ds = [] → f.env 8 = .slc l 0 N → f.env 9 = .int .i64 i →
      Lands ET dd rs s (fun f' σ' => σ' = σ.set l (.row 1 (List.replicate N aE)) ∧ f'.ds = [] ∧ f'.env 8 = .slc l 0 N) (run ET dd rs (.d (.loop [8, 9] B) :: .blk 0 :: s) f σ)
  | 0, i, f, σ, hn, hH, hd, h8, h9 => by
    rw [r_loopU hB]
    have h : ¬ i < N := by omega
    have hi : i = N := by omega
    subst hi
    have hset : σ.set l (.row 1 (List.replicate i aE)) = σ := by
      refine St.ext' (fun k => ?_) rfl rfl
      simp only [set_H]
      split
      · rename_i e; rw [e, hH]; simp
      · rfl
    rw [hset]
    simp [b6_0, h8, h9, hd]
    exact .here (by simp)
  | k + 1, i, f, σ, hn, hH, hd, h8, h9 => by
    rw [r_loopU hB]
    have h : i < N := by omega
    have hlen : (List.replicate i aE ++ List.replicate (k + 1) zE).length = N := by simp; omega
    have hia : iaV σ 1 (.slc l 0 N) (.int .i64 i) = some (.ptr l i 0) := by simp [iaV, hH, h]
    have hget : (List.replicate i aE ++ List.replicate (k + 1) zE)[i]? = some zE := by
      rw [List.getElem?_append_right (by simp)]; simp
    have hset : (List.replicate i aE ++ List.replicate (k + 1) zE).set i aE = List.replicate (i + 1) aE ++ List.replicate k zE := by
      rw [List.set_append_right _ _ (by simp)]
      simp only [List.length_replicate, Nat.sub_self, List.replicate_succ, List.set_cons_zero]
      rw [← List.replicate_succ, List.replicate_succ', List.append_assoc]
      rfl
    have hst : stV σ 1 (.ptr l i 0) (.int .u8 97) = some (σ.set l (.row 1 (List.replicate (i + 1) aE ++ List.replicate k zE))) := by
      have h0 : setAt zE 0 (V.int .u8 97).cells = aE := by simp [zE, aE, setAt]
      rw [stV_ptr, hH]
      simp only [hget, Option.bind_some, h0, hset]
      simp [zE]
    have hw : IntKind.i64.wrap ((i : Int) + 1) = ((i + 1 : Nat) : Int) := by rw [IntWalk.i64_in _ (by omega)]; omega
    obtain ⟨j, hj⟩ : ∃ j, j = i + 1 := ⟨_, rfl⟩
    rw [← hj] at hw hst
    simp [b6_0, h8, h9, hd, h, hia, hst, hw, -stV_ptr]
    refine Lands.mono (fill_loop (l := l) hN hB k j _ _ (by omega) (by simp) ?_ ?_ ?_) (fun _ _ h => by simpa using h) <;> simp
def tlD : D → D
  | .seq _ (.kb _ b) => b
  | d => d
def subD : Nat → D → D → D
  | 0, _, x => x
  | n + 1, .seq a (.kb t b), x => .seq a (.kb t (subD n b x))
  | _, d, _ => d
def T6 : D := tlD (tlD (tlD (tlD (tlD (tlD (tlD d6))))))
theorem bad_98 : bad [98] 0 = none := bad_rep (by decide +kernel) 1 0 (by simp)
theorem opens_tail {τ : St} (hf : Fresh τ) : ∃ τ', run ET false [.t 4] [.d T6] ⟨lk [] [], []⟩ τ = some (.ret (.bool true), τ') := by
  obtain ⟨N, hN⟩ : ∃ N : Nat, N = 1048577 := ⟨_, rfl⟩
  have hmk : mkslV τ 1 [.int .u8 0] (.int .i64 1048577) (.int .i64 1048577) = some (.slc τ.n 0 N, τ.new (.row 1 (List.replicate N zE))) := by
    rw [mkslV_int, if_pos (by simp [reach])]
    rw [hN]; rfl
  obtain ⟨σ1, hs1⟩ : ∃ σ1, σ1 = (τ.new (.row 1 (List.replicate N zE))).set τ.n (.row 1 (List.replicate N aE)) := ⟨_, rfl⟩
  have n1 : σ1.n = τ.n + 1 := by rw [hs1]; simp
  have hb1 : Bs σ1 (.slc τ.n 0 N) (List.replicate N 97) := by
    rw [hs1]
    simp [Bs, Rd, cont, aE, byteE]
  have hst1 := hb1.str
  have hcut := hb1.cut (a := 1) (b := N) (by omega) (by simp)
  have hst2 := hcut.str
  have hsl : ∀ env (lo : Opd), lo.ev env = .int .i64 1 → lslV env σ1 1 (.slc τ.n 0 N) (some lo) none = some (cutV (.slc τ.n 0 N) 1 N) := fun env lo h => by
    have := hb1.lslFrom (env := env) (lo := lo) (a := 1) (k := .i64) h (by simp; omega)
    simpa using this
  have hsl' : ∀ env, lslV env σ1 1 (.slc τ.n 0 N) (some (.c (.int .i64 1))) none = some (cutV (.slc τ.n 0 N) 1 N) := fun env => hsl env (.c (.int .i64 1)) rfl
  obtain ⟨S, hS⟩ : ∃ S : List UInt8, S = List.replicate N 97 := ⟨_, rfl⟩
  rw [← hS] at hst1 hst2
  have hSl : S.length = N := by rw [hS]; simp
  obtain ⟨S2, hS2⟩ : ∃ S2 : List UInt8, S2 = (S.take N).drop 1 := ⟨_, rfl⟩
  rw [← hS2] at hst2
  have hS2l : S2.length = 1048576 := by rw [hS2]; simp; omega
  have t1 : takeE S = 3 := by unfold takeE; rw [if_pos (by omega)]
  have t2 : takeE S2 = 0 := by
    unfold takeE
    rw [if_neg (by omega), if_pos]
    refine bad_rep (fun i hi => ?_) S2.length 0 (by omega)
    have hmem : S2[i] ∈ S := by
      have h1 : S2[i] ∈ S2 := List.getElem_mem hi
      generalize S2[i] = c at h1
      rw [hS2] at h1
      exact List.mem_of_mem_take (List.mem_of_mem_drop h1)
    rw [hS] at hmem
    have := List.eq_of_mem_replicate hmem
    rw [nx_at hi, this]; decide
  have o1 := open_bad (σ := σ1) (ver := 1) (s := S) (by omega) (by omega)
  rw [t1] at o1
  have hf1 : Fresh σ1 := fun x hx => by rw [n1] at hx; rw [hs1]; simp [show x ≠ τ.n by omega, hf x (by omega)]
  obtain ⟨τ2, o2, g2, m2, e2, d2⟩ := open_ok (σ := σ1) (ver := 1) t2 (hf1 _ (by omega))
  have ap1 := apply_ev (σ := τ2.new (.row 6 [chE ⟨true, 0, 0, 0, 0, [98]⟩])) (ver := 2) (cv := .slc τ2.n 0 1) (cs := [⟨true, 0, 0, 0, 0, [98]⟩]) (d2.gr ((Gr.refl _).new _)) (by simp [Rd, cont]) (fun l off len e => by simp at e; simp [← e.1]) (fun c hc => by simp at hc; subst hc; simp [Ch.ok, IntKind.min, IntKind.max, IntKind.signed, IntKind.bits]) (by simp)
  have hA1 : applyF S2 [] [⟨true, 0, 0, 0, 0, [98]⟩] = .err 3 := by
    have he : editF S2 ⟨true, 0, 0, 0, 0, [98]⟩ = ⟨0, 0, 1⟩ := by
      unfold editF
      simp only [linesF, off00]
      rfl
    simp only [applyF, bad_98, if_true, he]
    rw [if_pos (by simp; omega)]
  rw [hA1] at ap1
  simp only at ap1
  obtain ⟨τ3, hs3⟩ : ∃ τ3, τ3 = τ2.new (.row 6 [chE ⟨true, 0, 0, 0, 0, [98]⟩]) := ⟨_, rfl⟩
  have d3 := d2.gr (σ' := τ3) (by rw [hs3]; exact (Gr.refl _).new _)
  have n3 : τ3.n = τ2.n + 1 := by rw [hs3]; simp
  rw [← hs3] at ap1
  have ap2 := apply_ev (σ := τ3.new (.row 6 [chE ⟨false, 0, 0, 0, 0, [98]⟩])) (ver := 3) (cv := .slc τ3.n 0 1) (cs := [⟨false, 0, 0, 0, 0, [98]⟩]) (d3.gr ((Gr.refl _).new _)) (by simp [Rd, cont]) (fun l off len e => by simp at e; simp [← e.1]) (fun c hc => by simp at hc; subst hc; simp [Ch.ok, IntKind.min, IntKind.max, IntKind.signed, IntKind.bits]) (by simp)
  have hA2 : applyF S2 [] [⟨false, 0, 0, 0, 0, [98]⟩] = .ok [98] [⟨0, S2.length, 1⟩] := by
    have he : editF S2 ⟨false, 0, 0, 0, 0, [98]⟩ = ⟨0, S2.length, 1⟩ := by simp [editF]
    simp only [applyF, bad_98, if_true, he]
    rw [if_neg (by simp)]
    simp [spliceF]
  rw [hA2] at ap2
  obtain ⟨τ4, a2, d4, m4, w4, x4⟩ := ap2
  obtain ⟨u, τ5, b5, q5⟩ := bytes_ev d4
  have hs5 := Bs.str (s := [98]) q5.rd
  obtain ⟨B, Ls, Es, hH, _⟩ := d3.H
  simp [chE] at hs3 ap1 a2
  rw [m2, n1] at ap1
  rw [n3, m2, n1] at a2
  simp only [Nat.add_assoc] at hs3 ap1 a2
  rw [n1] at o2 d2 d3 d4 b5 hH
  simp only [Nat.add_assoc] at o2 b5 hH
  simp at ap1 a2 o2 b5 hH
  simp only [T6, tlD, d6]
  simp [hmk, -mkslV_int]
  refine Lands.to (C := fun r => ∃ τ', r = some (CO.ret (.bool true), τ')) (fill_loop (N := N) (l := τ.n) (by omega) rfl N 0 _ _ (by omega) (by simp [zE]) rfl (by simp) (by simp)) ?_
  rintro f' σ' ⟨hσ, hd, h8⟩
  have hσ' : σ' = σ1 := by rw [hσ, hs1]
  rw [hσ']
  exact ⟨_, by simp [hd, h8, hst1, hst2, hsl', o1, o2, n1, m2, n3, ← hs3, ap1, a2, hH, b5, hs5]; rfl⟩
theorem opens_ev {σ : St} (hf : Fresh σ) {s : List UInt8} {m : Int} : ∃ σ', ev ET 6 [.str s, .int .i64 m] σ = some (.ret (.bool true), σ') := by
  suffices h : ∃ τ, run ET false f6.res [.d f6.body] ⟨envOf [.str s, .int .i64 m], []⟩ σ = some (.ret (.bool true), τ) by
    obtain ⟨τ, h⟩ := h
    exact ev_any rfl (by simp [f6]) rfl h
  have hop := opened_ev (hf (σ.n + 1) (by omega))
  have ha := apply_nil (σ := σ) (ver := 1) (cv := .nils)
  have hb := bytes_nil (σ := σ)
  have ho := docoff_nil (σ := σ) (a := .nilp) (b := .nilp)
  have hp := docplace_nil (σ := σ) (a := 3)
  have he := edits_nil (σ := σ)
  obtain ⟨X, hX⟩ : ∃ X, X = T6 := ⟨_, rfl⟩
  have hbody : f6.body = subD 7 d6 X := by rw [hX]; rfl
  rw [hbody]
  by_cases h2 : s.length ≤ 2000
  · have h2' : ¬ (2000 : Int) < s.length := by omega
    by_cases ht : takeE s = 0
    · obtain ⟨τ1, o1, g1, n1, e1, d1⟩ := open_ok (σ := σ) (ver := 1) ht (hf _ (by omega))
      have hta := take_ev (σ := τ1) (s := s) (by omega)
      rw [ht] at hta
      simp at hta
      by_cases hm : m.tmod 16 = 0
      · simp [f6, d6, subD, hop, ha, hb, ho, hp, he, h2', o1, hta, hm]
        rw [hX]
        exact opens_tail (fun x hx => by rw [e1 x (by omega)]; exact hf x (by omega))
      · exact ⟨_, by simp [f6, d6, subD, hop, ha, hb, ho, hp, he, h2', o1, hta, hm]; rfl⟩
    · have o1 := open_bad (σ := σ) (ver := 1) (s := s) (by omega) ht
      have hta := take_ev (σ := σ) (s := s) (by omega)
      have ht' : ¬ (takeE s : Int) = 0 := by omega
      by_cases hm : m.tmod 16 = 0
      · simp [f6, d6, subD, hop, ha, hb, ho, hp, he, h2', o1, hta, hm, ht, ht']
        rw [hX]
        exact opens_tail hf
      · exact ⟨_, by simp [f6, d6, subD, hop, ha, hb, ho, hp, he, h2', o1, hta, hm, ht, ht']; rfl⟩
  · have h2' : (2000 : Int) < s.length := by omega
    exact ⟨_, by simp [f6, d6, subD, hop, ha, hb, ho, hp, he, h2']; rfl⟩
theorem opens_core (W : World) (us : List V) (hu : TypedA [.one (.str .nil), .one (.int .i64 .nil)] us) : CCalls Try.prog 6 us (Go.Proofs.Ytogibebpoliolaa.Ab.σ0 W) (fun o _ => o = .ret (.bool true)) := by
  obtain ⟨u0, _, rfl, h0, u1, _, rfl, h1, rfl⟩ := hu
  obtain ⟨s, _, e, _, rfl⟩ := h0
  simp at e; subst e
  obtain ⟨n, _, e, _, rfl⟩ := h1
  simp at e; subst e
  obtain ⟨σ', h⟩ := opens_ev (fresh0 W) (s := s) (m := n)
  exact (ev_calls ET_ok h).mono fun o _ h => h.1
end Go.Proofs.Ytogibebpoliolaa
