/-
The walk over the program's texts, told with what its values say: a part of it. No further condition.
-/
import Derived.Test.YtogibebpoliolaaAbY
namespace Go.Proofs.Ytogibebpoliolaa
open Go.Proofs.Ytogibebpoliolaa.Ab
set_option linter.unusedVariables false
set_option linter.unusedSimpArgs false
attribute [local simp] Gr.refl Gr.new Gr.set Gr.kill Nat.add_assoc r_cks chk wantG
def Fresh (σ : St) : Prop := ∀ l, σ.n ≤ l → σ.H l = none
theorem fresh0 (W : World) : Fresh (σ0 W) := fun l _ => rfl
theorem ev_any {k : FuncId} {fd : FD} {vs : List V} {σ τ : St} {b : Bool} (h : ET.T k = some fd) (hl : vs.length ≤ fd.nt) (hz : fd.fz = .all) (hr : run ET false fd.res [.d fd.body] ⟨envOf vs, []⟩ σ = some (.ret (.bool b), τ)) : ∃ σ', ev ET k vs σ = some (.ret (.bool b), σ') := by
  rw [ev_eq h hl, hr]
  exact ⟨_, by simp [cutR, hz]; rfl⟩
theorem typed_chs {v : V} (h : Typed (.slc (.bool (.int .i64 (.int .i64 (.int .i64 (.int .i64 (.str .nil)))))) .nil) [v]) : ∃ cs : List Ch, Tl 6 v (cs.map chE) ∧ ∀ c ∈ cs, c.ok := by
  obtain ⟨u', _, e, h, rfl⟩ := h
  simp at e; subst e
  rcases h with rfl | ⟨es, rfl, hm, hes⟩
  · exact ⟨[], Tl.nils 6, by simp⟩
  · have : ∃ cs : List Ch, es = cs.map chE ∧ ∀ c ∈ cs, c.ok := by
      clear hm
      induction es with
      | nil => exact ⟨[], rfl, by simp⟩
      | cons e es ih =>
        obtain ⟨cs, rfl, hcs⟩ := ih fun e' he => hes e' (by simp [he])
        obtain ⟨rg, _, rfl, l1, _, rfl, h1, u1, _, rfl, h2, l2, _, rfl, h3, u2, _, rfl, h4, t, _, rfl, _, rfl⟩ := hes e (by simp)
        refine ⟨⟨rg, l1, u1, l2, u2, t⟩ :: cs, rfl, fun c hc => ?_⟩
        rcases List.mem_cons.1 hc with rfl | hc
        · exact ⟨h1, h2, h3, h4⟩
        · exact hcs c hc
    obtain ⟨cs, rfl, h⟩ := this
    exact ⟨cs, Tl.islc 6 _, h⟩
theorem applyF_err : ∀ {cs : List Ch} {b : List UInt8} {acc : List Ed} {e : Nat}, applyF b acc cs = .err e → e = 3 ∨ e = 10
  | [], b, acc, e, h => by simp [applyF] at h
  | c :: cs, b, acc, e, h => by
    rw [applyF_one] at h
    cases hR : oneR b c with
    | err n => rw [hR] at h; simp at h; subst h; exact oneR_err hR
    | ok b' x => rw [hR] at h; exact applyF_err h
theorem applyF_len : ∀ {cs : List Ch} {b b' : List UInt8} {acc ed : List Ed}, applyF b acc cs = .ok b' ed → ed.length = acc.length + cs.length
  | [], b, b', acc, ed, h => by simp [applyF] at h; simp [h.2]
  | c :: cs, b, b', acc, ed, h => by
    rw [applyF_one] at h
    cases hR : oneR b c with
    | err n => rw [hR] at h; simp at h
    | ok b1 x => rw [hR] at h; have := applyF_len h; simp at this ⊢; omega
theorem light_in {s : List UInt8} {cs : List Ch} (h : lightF s cs = true) : s.length ≤ 500 ∧ cs.length ≤ 20 ∧ ∀ c ∈ cs, c.text.length ≤ 300 := by
  simp [lightF] at h; exact h
theorem applies_ev {σ : St} (hf : Fresh σ) {s : List UInt8} {ver : Int} {v : V} {cs : List Ch} (hv : Tl 6 v (cs.map chE)) (hcs : ∀ c ∈ cs, c.ok) : ∃ σ', ev ET 3 [.str s, .int .i64 ver, v] σ = some (.ret (.bool true), σ') := by
  suffices h : ∃ τ, run ET false f3.res [.d f3.body] ⟨envOf [.str s, .int .i64 ver, v], []⟩ σ = some (.ret (.bool true), τ) by
    obtain ⟨τ, h⟩ := h
    exact ev_any rfl (by simp [f3]) rfl h
  have hli := light_ev (σ := σ) (s := s) hv.rd
  have hop := opened_ev (hf (σ.n + 1) (by omega))
  cases hl : lightF s cs with
  | false => exact ⟨_, by simp [f3, d3, hli, hl, hop]; rfl⟩
  | true =>
  obtain ⟨k1, k2, k3⟩ := light_in hl
  have hta := take_ev (σ := σ) (s := s) (by omega)
  by_cases ht : takeE s = 0
  · obtain ⟨τ1, o1, g1, n1, e1, d1⟩ := open_ok (σ := σ) (ver := 7) ht (hf _ (by omega))
    have hta := take_ev (σ := τ1) (s := s) (by omega)
    rw [ht] at hta
    simp at hta
    have hop1 := opened_ev (σ := τ1) (by rw [e1 _ (by omega)]; exact hf _ (by omega))
    obtain ⟨u, c1, cu⟩ := changes_ev (σ := τ1) hv.rd hv.old (by omega)
    have hall : ∀ c ∈ cs, c.ok ∧ c.text.length < 2 ^ 40 := fun c hc => ⟨hcs c hc, by have := k3 c hc; omega⟩
    have hap := apply_ev (ver := ver) d1 hv.rd hv.old hall (by omega)
    cases hA : applyF s [] cs with
    | err e =>
      rw [hA] at hap
      simp only at hap
      have hrp := rapply_ev (σ := τ1) (b := s) cu.rd cu.old hall (by omega) (by omega)
      rw [hA] at hrp
      simp only at hrp
      have he : ¬ e = 0 := by rcases applyF_err hA with rfl | rfl <;> simp
      obtain ⟨u2, τ2, b1, q1⟩ := bytes_ev d1
      have d2 := d1.gr q1.gr
      obtain ⟨u3, τ3, b2, q2⟩ := edits_ev d2 (by simp)
      have hs := Bs.str (s := s) q1.rd
      obtain ⟨B, Ls, Es, hH, _⟩ := d2.H
      have hlen := q2.rd.len
      simp at hlen
      exact ⟨τ3, by simp [f3, d3, hli, hl, o1, hta, hap, c1, hrp, hop1, he, b1, hs, hH, b2, hlen]⟩
    | ok b' ed =>
      rw [hA] at hap
      obtain ⟨τ2, a1, d2, m1, w1, x1⟩ := hap
      have hop2 := opened_ev (σ := τ2) (by rw [x1 _ (by omega), e1 _ (by omega)]; exact hf _ (by omega))
      obtain ⟨u, c1, cu⟩ := changes_ev (σ := τ2) hv.rd hv.old (by omega)
      have hrp := rapply_ev (σ := τ2) (b := s) cu.rd cu.old hall (by omega) (by omega)
      rw [hA] at hrp
      obtain ⟨ru, r1, rt⟩ := hrp
      have hel := applyF_len hA
      simp at hel
      obtain ⟨u2, τ3, b1, q1⟩ := bytes_ev d2
      have d3' := d2.gr q1.gr
      obtain ⟨u3, τ4, b2, q2⟩ := edits_ev d3' (by omega)
      have hs := Bs.str (s := b') q1.rd
      obtain ⟨B, Ls, Es, hH, _⟩ := d3'.H
      have hsm := same_ev (σ := τ4) q2.rd rt.rd (by omega)
      exact ⟨τ4, by simp [f3, d3, hli, hl, o1, hta, a1, c1, r1, hop2, b1, hs, hH, b2, hsm]⟩
  · have o1 := open_bad (σ := σ) (ver := 7) (s := s) (by omega) ht
    have ht' : ¬ (takeE s : Int) = 0 := by omega
    exact ⟨_, by simp [f3, d3, hli, hl, o1, hta, ht, ht', hop]; rfl⟩
theorem applies_core (W : World) (us : List V) (hu : TypedA [.one (.str .nil), .one (.int .i64 .nil), .one (.slc (.bool (.int .i64 (.int .i64 (.int .i64 (.int .i64 (.str .nil)))))) .nil)] us) : CCalls Try.prog 3 us (Go.Proofs.Ytogibebpoliolaa.Ab.σ0 W) (fun o _ => o = .ret (.bool true)) := by
  obtain ⟨u0, _, rfl, h0, u1, _, rfl, h1, u2, _, rfl, h2, rfl⟩ := hu
  obtain ⟨s, _, e, _, rfl⟩ := h0
  simp at e; subst e
  obtain ⟨n, _, e, _, rfl⟩ := h1
  simp at e; subst e
  obtain ⟨cs, hv, hcs⟩ := typed_chs h2
  obtain ⟨σ', h⟩ := applies_ev (fresh0 W) (s := s) (ver := n) hv hcs
  exact (ev_calls ET_ok h).mono fun o _ h => h.1
end Go.Proofs.Ytogibebpoliolaa
