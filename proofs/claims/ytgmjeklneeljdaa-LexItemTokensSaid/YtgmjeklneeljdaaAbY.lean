/-
The walk over the program's texts, told with what its values say: a part of it. No further condition.
-/
import Derived.Test.YtgmjeklneeljdaaAbLxH
import Derived.Test.YtgmjeklneeljdaaAbLxP
import Derived.Below
import Derived.WalkKit
import Derived.Deep.Slices
import Derived.ChangeArms
import Derived.DataReads
import Derived.WideShapes
import Derived.Carry
import Derived.OpenShut
import Derived.ChangeShapes
namespace Go.Proofs.Ytgmjeklneeljdaa
open Go.Proofs.Ytgmjeklneeljdaa.Ab
set_option linter.unusedVariables false
set_option linter.unusedSimpArgs false
attribute [local simp] r_cks chk_x chk_n
def It12 (σ : St) (c : V) : Option (V × List (List V)) := (boxB σ c).bind fun b => if b.length < 2 ^ 40 then some (.str b, (itemsM b.length false 0 false b).map spA) else none
/-- All that is known: the telling, and the iterator of items. -/
def ET : En Try.prog := ⟨T, fun gf cap σ => if gf = 12 then (match cap with | [c] => It12 σ c | _ => none) else none, fun _ _ _ => none, fun _ _ _ _ => none⟩
theorem It12_inv {σ : St} {c : V} {ky : V} {xs : List (List V)} (h : It12 σ c = some (ky, xs)) : ∃ b, boxB σ c = some b ∧ b.length < 2 ^ 40 ∧ ky = .str b ∧ xs = (itemsM b.length false 0 false b).map spA := by
  unfold It12 at h
  obtain ⟨b, h1, h2⟩ := Option.bind_eq_some_iff.1 h
  split at h2
  · rename_i hl
    simp at h2
    exact ⟨b, h1, hl, h2.1.symm, h2.2.symm⟩
  · simp at h2
theorem It12_of {σ : St} {c : V} {b : List UInt8} (h : boxB σ c = some b) (hb : b.length < 2 ^ 40) : It12 σ c = some (.str b, (itemsM b.length false 0 false b).map spA) := by
  unfold It12; rw [h]; simp [hb]
theorem ET_ok : ET.Ok := ⟨T_ok, fun gf cap σ ky xs h => by
    simp only [ET] at h
    split at h
    · rename_i hg
      subst hg
      split at h
      · rename_i c
        obtain ⟨b, h1, h2, rfl, rfl⟩ := It12_inv h
        refine ⟨(T_ok 12 _ rfl).2, ?_⟩
        have inv : ∀ σ, ET.It 12 [c] σ = some (.str b, (itemsM b.length false 0 false b).map spA) → boxB σ c = some b := fun σ this => by
          simp only [ET, if_true] at this
          obtain ⟨b', h3, _, h4, _⟩ := It12_inv this
          injection h4 with h5; rw [h5]; exact h3
        intro Y l J X σ' hJ hX hY h0
        exact iter12 c b h2 Y l J X σ' (fun i σ hj => inv σ (hJ i σ hj)) (fun σ hx => inv σ (hX σ hx)) hY h0
      · simp at h
    · simp at h, fun _ _ _ _ h => by simp [ET] at h, fun _ _ _ _ _ h => by simp [ET] at h⟩
theorem items_ev {σ : St} {v : V} (hv : v.scal = true) : ev ET 7 [v] σ = some (.ret (.func (.func 12) [] [.ptr σ.n 0 0]), σ.new (.row 1 [[v]])) := by
  refine ev_raw (fd := f7) rfl (by simp [f7]) rfl ?_
  simp [f7, d7, boxV_v σ v hv]
/-- A box of an iterator that reads as these bytes, whatever is made else. -/
theorem it_box {σ : St} {p : Nat} {v : V} {b : List UInt8} (h : σ.H p = some (.row 1 [[v]])) (hv : Bs σ v b) (hb : b.length < 2 ^ 40) : ET.It 12 [.ptr p 0 0] σ = some (.str b, (itemsM b.length false 0 false b).map spA) := by
  simp only [ET, if_true]
  exact It12_of (boxB_of (v := v) (by simp [h]) hv) hb
attribute [-simp] chk_x chk_n
end Go.Proofs.Ytgmjeklneeljdaa
namespace Go.Proofs.Ytgmjeklneeljdaa
open Go.Proofs.Ytgmjeklneeljdaa.Ab
set_option linter.unusedVariables false
set_option linter.unusedSimpArgs false
attribute [local simp] Gr.refl Gr.new Gr.set Gr.kill Nat.add_assoc r_cks chk wantG
theorem own_put {σ0 σ : St} {z : Nat} {v : V} {es : List (List V)} (h : Own σ0 σ z v es) {l : Nat} (hl : σ0.n ≤ l) (hv : v.row ≠ some l) (b : Blk) : Own σ0 (σ.set l b) z v es :=
  ⟨h.sl.mono fun k hk => by simp [show k ≠ l from fun e => hv (e ▸ hk)], h.gr.set hl b, fun k hk => by simpa using h.lo k hk⟩
theorem own_kill {σ0 σ : St} {z : Nat} {v : V} {es : List (List V)} (h : Own σ0 σ z v es) {l : Nat} (hl : σ0.n ≤ l) (hv : v.row ≠ some l) : Own σ0 (σ.kill l) z v es :=
  ⟨h.sl.mono fun k hk => by simp [show k ≠ l from fun e => hv (e ▸ hk)], h.gr.kill hl, fun k hk => by simpa using h.lo k hk⟩
/-- The items of a text. -/
def itF (b : List UInt8) : List (Nat × Nat) := itemsM b.length false 0 false b
theorem itF_len (b : List UInt8) : (itF b).length ≤ b.length := by
  have := itemsM_len (L := b.length) b false 0 false
  simpa [itF] using this
theorem it_box' {σ : St} {p : Nat} {v : V} {b : List UInt8} (h : σ.H p = some (.row 1 [[v]])) (hv : Bs σ v b) (hb : b.length < 2 ^ 40) : ET.It 12 [.ptr p 0 0] σ = some (.str b, (itF b).map spA) := it_box h hv hb
/-- A round's new cell. -/
theorem lay_cell {σ : St} {m : Nat} (hm : σ.H m = some (.lp .busy)) (hmn : m < σ.n) (a c : V) : ∃ s1, s1 = (((σ.set m (.lp .ready)).new (.row 2 [[.int .i64 0, .int .i64 0]])).set σ.n (.row 2 [[a, c]])).set m (.lp .busy) ∧ Gr σ s1 ∧ s1.n = σ.n + 1 ∧ s1.H σ.n = some (.row 2 [[a, c]]) ∧ s1.H m = some (.lp .busy) := by
  refine ⟨_, rfl, ⟨by simp, fun l hl => ?_, rfl⟩, by simp, by simp [show σ.n ≠ m by omega], by simp⟩
  by_cases e : l = m
  · subst e; simp [hm]
  · simp [e, show l ≠ σ.n by omega]
structure SpI (σ0 σ : St) (e : Env) (m p : Nat) (v : V) (acc : List (Nat × Nat)) : Prop where
  q : σ0.n ≤ p ∧ p ≠ m ∧ σ0.n ≤ m ∧ m < σ.n ∧ p < σ.n
  hm : σ.H m = some (.lp .busy)
  hp : σ.H p = some (.row 1 [[v]])
  rs : ∃ r2 r3 u, e 2 = .ptr r2 0 0 ∧ e 3 = .ptr r3 0 0 ∧ σ.H r2 = some (.row 1 [[.nils]]) ∧ σ.H r3 = some (.row 1 [[u]]) ∧ Own σ0 σ 2 u (acc.map spE) ∧ (∀ k, u.row = some k → k ≠ r2 ∧ k ≠ r3 ∧ k ≠ p ∧ k ≠ m) ∧ r2 ≠ r3 ∧ r2 ≠ m ∧ r3 ≠ m ∧ r3 ≠ p ∧ σ0.n ≤ r2 ∧ σ0.n ≤ r3 ∧ r2 < σ.n ∧ r3 < σ.n
theorem spans_loop {σ0 : St} {v : V} {b : List UInt8} (hv : Bs σ0 v b) (ho : v.old σ0) (hb : b.length ≤ 2000) {e : Env} {m p : Nat} {A B : D} (hA : A = b9_0) (hB : B = b9_1) {st : List SE} :
    ∀ (ls : List (Nat × Nat)) (i : Nat) (acc : List (Nat × Nat)) (f : Fr) (σ : St), (itF b).drop i = ls → acc.length = i → i ≤ (itF b).length → SpI σ0 σ e m p v acc →
      Lands ET false [.c 2 none] st (fun f' σ' => f'.ds = [.coll] ∧ f'.env = e ∧ ∃ σ2, SpI σ0 σ2 e m p v (acc ++ ls) ∧ σ' = σ2.kill m) (run ET false [.c 2 none] (.rnd e [] m [7] A B 12 [.ptr p 0 0] (.str b) ((itF b).map spA) i :: .blk 0 :: st) f σ)
  | [], i, acc, f, σ, hl, ha, hi, hq => by
    have hlen := congrArg List.length hl
    simp at hlen
    obtain ⟨r2, r3, u, a1, a2, a3, a4, a5, a6, n1, n2, n3, n4, n5, n6, n7, n8⟩ := hq.rs
    have g1 : Bs (σ.set m (.lp .ready)) v b := hv.gr (a5.gr.set hq.q.2.2.1 _) ho
    rw [rnd_end hq.hm (it_box' (v := v) (by simp [hq.q.2.1, hq.hp]) g1 (by omega)) (by simp; omega)]
    simp
    exact .here ⟨rfl, rfl, σ, by simpa using hq, rfl⟩
  | (x, y) :: ls, i, acc, f, σ, hl, ha, hi, hq => by
    obtain ⟨r2, r3, u, a1, a2, a3, a4, a5, a6, n1, n2, n3, n4, n5, n6, n7, n8⟩ := hq.rs
    have g1 : Bs (σ.set m (.lp .ready)) v b := hv.gr (a5.gr.set hq.q.2.2.1 _) ho
    have hat : (itF b)[i]? = some (x, y) := by
      have := congrArg (·[0]?) hl
      simpa using this
    have hil : i < (itF b).length := (List.getElem?_eq_some_iff.1 hat).1
    have hnext : (itF b).drop (i + 1) = ls := by rw [← List.drop_drop, hl]; rfl
    have hitl := itF_len b
    obtain ⟨s1, hs1, g2, m1, b1, bm⟩ := lay_cell hq.hm hq.q.2.2.2.1 (.int .i64 x) (.int .i64 y)
    rw [rnd_atS (e' := (setPs e [7] (spA (x, y))).put (some 4) (.ptr σ.n 0 0) |>.put none (.tup [])) (σ1 := ((σ.set m (.lp .ready)).new (.row 2 [[.int .i64 0, .int .i64 0]])).set σ.n (.row 2 [[.int .i64 x, .int .i64 y]])) hB hq.hm (it_box' (v := v) (by simp [hq.q.2.1, hq.hp]) g1 (by omega)) (by simp [hat]; rfl) rfl (by rw [hA]; simp [b9_0, asgE, asgR, setPs, spA, Env.put]) (by simp [show m ≠ σ.n by have := hq.q.2.2.2.1; omega])]
    rw [← hs1]
    have e31 : ∀ (t : Nat), ((setPs e [7] (spA (x, y))).put (some 4) (.ptr σ.n 0 0) |>.put none (.tup [])) t = if t = 4 then .ptr σ.n 0 0 else if t = 7 then .agg [.int .i64 x, .int .i64 y] else e t := fun t => rfl
    generalize ((setPs e [7] (spA (x, y))).put (some 4) (.ptr σ.n 0 0) |>.put none (.tup [])) = e' at e31
    obtain ⟨w, τ, h1, h2, h3, h4, h5⟩ := (a5.step g2).app1N [spE (x, y)] (by simp) (bytes := 16) (by simp [reach]; omega) (by simp [reach]; omega) (n := 1) rfl
    simp only [spE] at h1
    have k3 : s1.H r3 = some (.row 1 [[u]]) := by rw [g2.H r3 n8]; exact a4
    have k3' : τ.H r3 = some (.row 1 [[u]]) := by rw [h5 r3 (by omega) (fun h => (a6 r3 h).2.1 rfl)]; exact k3
    have hlu : lenV u = some (.int .i64 acc.length) := by simpa using a5.rd.len
    obtain ⟨h8, h9⟩ : w.cells = [w] ∧ w.scal = true := by
      rcases h2.sl with ⟨rfl, h⟩ | ⟨l, rfl, h⟩
      · exact ⟨rfl, rfl⟩
      · exact ⟨rfl, rfl⟩
    have hr3 : ¬ r3 = s1.n := by omega
    have hsn : ¬ s1.n = σ.n := by omega
    have hns : ¬ σ.n = s1.n := by omega
    have hlt : ¬ (3000 : Int) < acc.length := by omega
    have kp : ∀ x, x < σ.n → u.row ≠ some x → x ≠ r3 → (τ.set r3 (.row 1 [[w]])).H x = σ.H x := fun x q1 q2 q3 => by simp [q3, h5 x (by omega) q2, g2.H x q1]
    have ih := fun f => spans_loop (st := st) hv ho hb hA hB ls (i + 1) (acc ++ [(x, y)]) f (τ.set r3 (.row 1 [[w]])) hnext (by simp [ha]) (by omega)
      ⟨⟨hq.q.1, hq.q.2.1, hq.q.2.2.1, by have := hq.q.2.2.2.1; simp; omega, by have := hq.q.2.2.2.2; simp; omega⟩, by rw [kp m hq.q.2.2.2.1 (fun h => (a6 m h).2.2.2 rfl) (Ne.symm n3)]; exact hq.hm, by rw [kp p hq.q.2.2.2.2 (fun h => (a6 p h).2.2.1 rfl) (Ne.symm n4)]; exact hq.hp,
        r2, r3, w, a1, a2, by rw [kp r2 n7 (fun h => (a6 r2 h).1 rfl) n1]; exact a3, by simp, by simpa using own_put h2 n6 (fun h => by have := h3 r3 h; omega) (.row 1 [[w]]), fun k hk => by (have := h3 k hk); have := hq.q.2.2.2; omega, n1, n2, n3, n4, n5, n6, by simp; omega, by simp; omega⟩
    simp only [List.append_assoc, List.singleton_append] at ih
    simp [b9_1, e31, a1, a2, k3, hlu, hlt, b1, h1, k3', h8, h9, hr3, hsn, hns]
    exact ih _
theorem spans_ev {σ : St} {v : V} {b : List UInt8} (hv : Bs σ v b) (ho : v.old σ) (hsc : v.scal = true) (hb : b.length ≤ 2000) :
    ∃ u, ev ET 9 [v] σ = some (.ret u, σ) ∧ Tl 2 u ((itF b).map spE) := by
  suffices hr : ∃ τ u, run ET false f9.res [.d f9.body] ⟨envOf [v], []⟩ σ = some (.ret u, τ) ∧ Own σ τ 2 u ((itF b).map spE) by
    obtain ⟨τ, u, hr, hq⟩ := hr
    exact ⟨_, ev_pure (fd := f9) (o := .ret u) rfl (by simp [f9]) rfl hr hq.gr.H hq.gr.W (by simp only [frzO_ret]; rw [hq.frzV (spE_pure _)]), hq.tl⟩
  obtain ⟨s1, hs1⟩ : ∃ s1, s1 = (σ.new (.row 1 [[.nils]])).new (.row 1 [[.nils]]) := ⟨_, rfl⟩
  have hit := items_ev (σ := s1) hsc
  obtain ⟨s2, hs2⟩ : ∃ s2, s2 = s1.new (.row 1 [[v]]) := ⟨_, rfl⟩
  have n1 : s1.n = σ.n + 2 := by rw [hs1]; simp
  have n2 : s2.n = σ.n + 3 := by rw [hs2]; simp [n1]
  have g2 : Gr σ s2 := by rw [hs2, hs1]; exact (((Gr.refl σ).new _).new _).new _
  rw [← hs2] at hit
  show ∃ τ u, _ ∧ Own σ τ 2 u _
  simp [f9, d9, ← hs1, hit]
  rw [rng_in (.t 6) rfl rfl (it_box' (p := s1.n) (v := v) (b := b) (by rw [hs2]; simp) (hv.gr g2 ho) (by omega))]
  refine Lands.to (C := fun r => ∃ τ u, r = some (CO.ret u, τ) ∧ Own σ τ 2 u ((itF b).map spE)) (spans_loop (σ0 := σ) hv ho hb (e := lk [2, 3, 6] [.ptr σ.n 0 0, .ptr (σ.n + 1) 0 0, .func (.func 12) [] [.ptr s1.n 0 0]]) (m := s2.n) (p := s1.n) (A := b9_0) (B := b9_1) rfl rfl (itF b) 0 [] _ _ rfl rfl (by omega)
    ⟨⟨by omega, by omega, by omega, by simp, by simp; omega⟩, by simp, by simp [show s1.n ≠ s2.n by omega, hs2], σ.n, σ.n + 1, .nils, by simp, by simp, by simp [show σ.n ≠ s2.n by omega, hs2, hs1], by simp [show σ.n + 1 ≠ s2.n by omega, hs2, hs1], (Own.nils σ 2).step (g2.new _), fun k hk => by simp [V.row] at hk, by omega, by omega, by omega, by omega, by omega, by omega, by simp; omega, by simp; omega⟩) ?_
  rintro f' σ' ⟨q1, q2, σ2, hq, rfl⟩
  obtain ⟨r2, r3, u, a1, a2, a3, a4, a5, a6, y1, y2, y3, y4, y5, y6, y7, y8⟩ := hq.rs
  simp at a1 a2
  subst a1; subst a2
  simp only [List.nil_append] at a5
  obtain ⟨h8, h9⟩ : u.cells = [u] ∧ u.scal = true := by
    rcases a5.sl with ⟨rfl, h⟩ | ⟨l, rfl, h⟩
    · exact ⟨rfl, rfl⟩
    · exact ⟨rfl, rfl⟩
  have z1 : ¬ σ.n = s2.n := by omega
  have z2 : ¬ σ.n + 1 = s2.n := by omega
  have hk := own_put (own_kill a5 (l := s2.n) (by omega) (fun h => (a6 _ h).2.2.2 rfl)) (l := σ.n) (by omega) (fun h => (a6 _ h).1 rfl) (.row 1 [[u]])
  refine ⟨(σ2.kill s2.n).set σ.n (.row 1 [[u]]), u, ?_, hk⟩
  simp [q1, q2, a3, a4, h8, h9, z1, z2, fin_coll]
end Go.Proofs.Ytgmjeklneeljdaa
namespace Go.Proofs.Ytgmjeklneeljdaa.Ab
open Go.RowKit
set_option linter.unusedVariables false
/-! The top: a law's call, at the arguments as they stand. -/
def σ0 (W : World) : St := ⟨fun _ => none, 0, W⟩
def φ0 : Phi := fun _ => none
def I0 (W : World) (b : Nat) : Prop := b < W.heap.size
theorem sim0 (W : World) : Sim φ0 (I0 W) (σ0 W) W :=
  ⟨fun l x h => by simp [φ0] at h, fun l x h => by simp [φ0] at h, fun l b h => by simp [σ0] at h, fun b ⟨l, x, h, _⟩ => by simp [σ0] at h, fun l l' x x' h => by simp [σ0] at h, fun b h => h, fun b h => ⟨h, rfl⟩⟩
theorem calls_top {P : Program} {k : FuncId} {vs : List V} {W : World} {args : Array Value} (hc : CCalls P k vs (σ0 W) (fun o _ => o = .ret (.bool true))) (hr : RelA φ0 (I0 W) W vs args) :
    Calls P k args W fun e w' => e = .returned (.bool true) ∧ Below W.heap.size W w' := by
  refine (hc _ _ _ _ (sim0 W) hr).mono ?_
  rintro e w' ⟨o, σ', φ', I', rfl, ho, he, hs⟩
  cases ho with
  | ret h =>
    refine ⟨by rw [h.bool_inv], he.os, he.tape, he.output, he.size, fun b hb => he.frame b hb ?_⟩
    rintro ⟨l, x, h, _⟩
    simp [σ0] at h
/-- A slice of bytes. -/
theorem rel_bytes {W : World} {a : Option Addr} {len cap : Nat} {zs : List Int}
    (h : (a = none ∧ len = 0 ∧ cap = 0 ∧ zs = []) ∨ ∃ x, a = some x ∧ len ≤ cap ∧ cap ≤ maxLen ∧ zs.length = cap ∧ (∀ i, i < zs.length → W.cell? (x.add i) = some (.int .u8 (zs.getD i 0))) ∧ ∀ n ∈ zs, (Lit.int .u8 n).wf = true) :
    ∃ v b, Rel φ0 (I0 W) W v (.slice a len cap) ∧ (∀ σ, Bs σ v b) ∧ v.row = none ∧ b.length = len := by
  rcases h with ⟨rfl, rfl, rfl, rfl⟩ | ⟨x, rfl, hl, hm, hz, hcell, hwf⟩
  · exact ⟨.nils, [], .nils, fun σ => rfl, rfl, rfl⟩
  · let b : List UInt8 := (zs.take len).map fun n => UInt8.ofNat n.toNat
    have hbl : b.length = len := by simp [b]; omega
    have hget : ∀ i, i < len → ∃ n, zs[i]? = some n ∧ 0 ≤ n ∧ n < 256 ∧ b[i]? = some (UInt8.ofNat n.toNat) := fun i hi => by
      have hi' : i < zs.length := by omega
      refine ⟨zs[i], List.getElem?_eq_getElem hi', ?_⟩
      have hw := hwf zs[i] (List.getElem_mem hi')
      simp [Lit.wf, IntKind.min, IntKind.max, IntKind.signed, IntKind.bits] at hw
      refine ⟨by omega, by omega, ?_⟩
      simp [b, hi, hi']
    refine ⟨.islc 1 (b.map byteE), b, ?_, fun σ => by simp [Bs, Rd, cont], rfl, hbl⟩
    have key : ∀ i, i < len → x.spot = none ∧ x.block < W.heap.size ∧ W.cell? ⟨x.block, x.off + i, none⟩ = some (.int .u8 (zs.getD i 0)) := fun i hi => by
      have h0 := hcell 0 (by omega)
      have hi' := hcell i (by omega)
      simp only [Addr.add, if_pos] at h0
      have hx : x.spot = none ∧ x.block < W.heap.size := by
        unfold World.cell? at h0
        split at h0
        · rename_i hh
          split at h0
          · simp at h0
          · rename_i hs
            refine ⟨by simpa using hs, ?_⟩
            rcases Nat.lt_or_ge x.block W.heap.size with h | h
            · exact h
            · rw [Array.getElem?_eq_none h] at hh; simp at hh
        · simp at h0
      refine ⟨hx.1, hx.2, ?_⟩
      rw [← hi']
      congr 1
      unfold Addr.add
      split
      · rename_i h; subst h
        cases x; simp_all
      · cases x; simp_all
    have hbm : (b.map byteE).length = len := by simp [hbl]
    have := Rel.islc (φ := φ0) (I := I0 W) (w := W) (z := 1) (es := b.map byteE) (b := x.block) (o := x.off) (cap := cap) (a := x) (cs := fun i _ => .int .u8 (zs.getD i 0))
      (by rw [hbm]; exact hl) (fun hne => ?_) (fun e he => ?_) (fun i j hi hj => ?_) (fun i j hi hj => rfl) ?_ (fun i j e v hi hj => ?_)
    · rw [hbm] at this; exact this
    · have h0 : 0 < len := by rw [← hbm]; exact List.length_pos_iff.2 hne
      obtain ⟨h1, h2, _⟩ := key 0 h0
      exact ⟨by cases x; simp_all, h2⟩
    · obtain ⟨c, _, rfl⟩ := List.mem_map.1 he
      rfl
    · rw [hbm] at hi
      obtain rfl : j = 0 := by omega
      rw [Nat.mul_one, Nat.add_zero]
      exact (key i hi).2.2
    · simp [byteE, V.pure]
    · have hil : i < len := by rw [← hbm]; exact (List.getElem?_eq_some_iff.1 hi).1
      obtain ⟨n, h1, h2, h3, h4⟩ := hget i hil
      rw [List.getElem?_map, h4] at hi
      simp at hi
      subst hi
      have hj0 : j = 0 := by
        have := (List.getElem?_eq_some_iff.1 hj).1
        simp [byteE] at this; exact this
      subst hj0
      simp [byteE] at hj
      subst hj
      have hzs : zs.getD i 0 = n := by simp [h1]
      rw [hzs]
      have hmx : max n 0 % 256 = n := by omega
      simp [hmx]
      exact .int _ _
end Go.Proofs.Ytgmjeklneeljdaa.Ab
namespace Go.Proofs.Ytgmjeklneeljdaa.Ab
open Go.RowKit
set_option linter.unusedVariables false
/-! The arguments of a law: any data of numbers, texts, truths, structs and rows of these. -/
/-- The cells of a type, one behind the other. -/
inductive CT where
  | nil
  | bool (r : CT)
  | int (k : IntKind) (r : CT)
  | str (r : CT)
  | slc (row : CT) (r : CT)
def CT.len : CT → Nat
  | .nil => 0
  | .bool r | .int _ r | .str r | .slc _ r => r.len + 1
def CT.app : CT → CT → CT
  | .nil, s => s
  | .bool r, s => .bool (r.app s)
  | .int k r, s => .int k (r.app s)
  | .str r, s => .str (r.app s)
  | .slc w r, s => .slc w (r.app s)
def Typed : CT → List V → Prop
  | .nil, vs => vs = []
  | .bool r, vs => ∃ b vs', vs = .bool b :: vs' ∧ Typed r vs'
  | .int k r, vs => ∃ n vs', vs = .int k n :: vs' ∧ (k.min ≤ n ∧ n ≤ k.max) ∧ Typed r vs'
  | .str r, vs => ∃ s vs', vs = .str s :: vs' ∧ s.length ≤ maxLen ∧ Typed r vs'
  | .slc w r, vs => ∃ u vs', vs = u :: vs' ∧ (u = .nils ∨ ∃ es, u = .islc w.len es ∧ es.length ≤ maxLen ∧ ∀ e ∈ es, Typed w e) ∧ Typed r vs'
theorem Typed.len : ∀ {c : CT} {vs : List V}, Typed c vs → vs.length = c.len
  | .nil, vs, h => by simp [Typed] at h; simp [h, CT.len]
  | .bool r, vs, h => by obtain ⟨b, vs', rfl, h⟩ := h; simp [CT.len, h.len]
  | .int k r, vs, h => by obtain ⟨b, vs', rfl, _, h⟩ := h; simp [CT.len, h.len]
  | .str r, vs, h => by obtain ⟨b, vs', rfl, _, h⟩ := h; simp [CT.len, h.len]
  | .slc w r, vs, h => by obtain ⟨b, vs', rfl, _, h⟩ := h; simp [CT.len, h.len]
theorem Typed.app : ∀ {c d : CT} {vs us : List V}, Typed c vs → Typed d us → Typed (c.app d) (vs ++ us)
  | .nil, d, vs, us, h, k => by simp [Typed] at h; simp [h, CT.app, k]
  | .bool r, d, vs, us, h, k => by obtain ⟨b, vs', rfl, h⟩ := h; exact ⟨b, vs' ++ us, rfl, h.app k⟩
  | .int _ r, d, vs, us, h, k => by obtain ⟨b, vs', rfl, h1, h⟩ := h; exact ⟨b, vs' ++ us, rfl, h1, h.app k⟩
  | .str r, d, vs, us, h, k => by obtain ⟨b, vs', rfl, h1, h⟩ := h; exact ⟨b, vs' ++ us, rfl, h1, h.app k⟩
  | .slc w r, d, vs, us, h, k => by obtain ⟨b, vs', rfl, h1, h⟩ := h; exact ⟨b, vs' ++ us, rfl, h1, h.app k⟩
theorem CT.app_len : ∀ (c d : CT), (c.app d).len = c.len + d.len
  | .nil, d => by simp [CT.app, CT.len]
  | .bool r, d | .int _ r, d | .str r, d | .slc _ r, d => by simp [CT.app, CT.len, CT.app_len r d]; omega
/-- A struct's fields: one behind the other, and all that there is. -/
def ctFs (P : Program) (ct : TypeId → Option CT) : Nat → List Field → Option CT
  | _, [] => some .nil
  | o, f :: fs => if f.offset = o then (ct f.type).bind fun c => if c.len = P.cellsOf f.type then (ctFs P ct (o + c.len) fs).map (c.app ·) else none else none
def ctOf (P : Program) : Nat → TypeId → Option CT
  | 0, _ => none
  | n + 1, t => match P.underlying t with
    | some .bool => some (.bool .nil)
    | some (.int k) => some (.int k .nil)
    | some .string => some (.str .nil)
    | some (.slice e) => (ctOf P n e).bind fun w => if 0 < w.len ∧ w.len = P.cellsOf e then some (.slc w .nil) else none
    | some (.struct fs) => (ctFs P (ctOf P n) 0 fs.toList).bind fun c => if c.len = P.cellsOf t then some c else none
    | _ => none
def RelL (W : World) (vs : List V) (cs : List Value) : Prop :=
  vs.length = cs.length ∧ ∀ (i : Nat) (v : V) (c : Value), vs[i]? = some v → cs[i]? = some c → Rel φ0 (I0 W) W v c ∧ c.oneCell' = true ∧ v.pure = true
theorem RelL.one {W : World} {v : V} {c : Value} (h : Rel φ0 (I0 W) W v c) (hc : c.oneCell' = true) (hp : v.pure = true) : RelL W [v] [c] :=
  ⟨rfl, fun i v' c' h1 h2 => by
    cases i with
    | zero => simp at h1 h2; subst h1; subst h2; exact ⟨h, hc, hp⟩
    | succ i => simp at h1⟩
theorem RelL.app {W : World} {vs us : List V} {cs ds : List Value} (h : RelL W vs cs) (k : RelL W us ds) : RelL W (vs ++ us) (cs ++ ds) :=
  ⟨by simp [h.1, k.1], fun i v c h1 h2 => by
    by_cases hi : i < vs.length
    · rw [List.getElem?_append_left hi] at h1
      rw [List.getElem?_append_left (by rw [← h.1]; exact hi)] at h2
      exact h.2 i v c h1 h2
    · rw [List.getElem?_append_right (by omega)] at h1
      rw [List.getElem?_append_right (by rw [← h.1]; omega), ← h.1] at h2
      exact k.2 _ v c h1 h2⟩
theorem rows_of {Q : Nat → List V → Prop} : ∀ (n : Nat), (∀ i, i < n → ∃ e, Q i e) → ∃ es : List (List V), es.length = n ∧ ∀ (i : Nat) e, es[i]? = some e → Q i e
  | 0, _ => ⟨[], rfl, fun i e h => by simp at h⟩
  | n + 1, h => by
    obtain ⟨es, h1, h2⟩ := rows_of n fun i hi => h i (by omega)
    obtain ⟨e, he⟩ := h n (by omega)
    refine ⟨es ++ [e], by simp [h1], fun i e' hi => ?_⟩
    by_cases hl : i < es.length
    · rw [List.getElem?_append_left hl] at hi; exact h2 i e' hi
    · rw [List.getElem?_append_right (by omega)] at hi
      have : i - es.length = 0 := by
        rcases Nat.eq_zero_or_pos (i - es.length) with h | h
        · exact h
        · rw [List.getElem?_eq_none (by simp; omega)] at hi; simp at hi
      rw [this] at hi; simp at hi; subst hi
      rw [show i = n by omega]; exact he
theorem cell_at {W : World} {a : Addr} {c : Value} (h : W.cell? a = some c) : a.spot = none ∧ a.block < W.heap.size := by
  unfold World.cell? at h
  split at h
  · rename_i hh
    split at h
    · simp at h
    · rename_i hs
      refine ⟨by simpa using hs, ?_⟩
      rcases Nat.lt_or_ge a.block W.heap.size with h' | h'
      · exact h'
      · rw [Array.getElem?_eq_none h'] at hh; simp at hh
  · simp at h
theorem add_at {a : Addr} (hs : a.spot = none) (k : Nat) : a.add k = ⟨a.block, a.off + k, none⟩ := by
  unfold Addr.add
  split
  · rename_i h; subst h; cases a; simp_all
  · rfl
section
variable {H : Type} {enc : TypeId × Value → H} {P : Program} {W : World} {sp : Nat → Bool} {held : Bool}
theorem read_fs {ct : TypeId → Option CT} {n : Nat} {cs : List Value} (hct : ∀ t c cs x, ct t = some c → DataW.trod enc P W 0 sp held n t cs = some x → ∃ vs, RelL W vs cs ∧ Typed c vs) :
    ∀ (fs : List Field) (o : Nat) (c : CT), ctFs P ct o fs = some c → (∀ f ∈ fs, ∃ x, DataW.trod enc P W 0 sp held n f.type ((cs.drop f.offset).take (P.cellsOf f.type)) = some x) →
      ∃ vs, RelL W vs ((cs.drop o).take c.len) ∧ Typed c vs
  | [], o, c, h, _ => by
    simp only [ctFs, Option.some.injEq] at h; subst h
    exact ⟨[], ⟨by simp [CT.len], fun i v c h => by simp at h⟩, rfl⟩
  | f :: fs, o, c, h, hf => by
    simp only [ctFs] at h
    split at h
    · rename_i ho
      obtain ⟨c1, hc1, h⟩ := Option.bind_eq_some_iff.1 h
      split at h
      · rename_i hl
        obtain ⟨c2, hc2, rfl⟩ := Option.map_eq_some_iff.1 h
        obtain ⟨x, hx⟩ := hf f (by simp)
        obtain ⟨v1, r1, t1⟩ := hct _ _ _ _ hc1 hx
        obtain ⟨v2, r2, t2⟩ := read_fs hct fs _ c2 hc2 fun g hg => hf g (by simp [hg])
        refine ⟨v1 ++ v2, ?_, t1.app t2⟩
        have := r1.app r2
        rw [CT.app_len]
        rw [ho, ← hl, ← List.drop_drop] at this
        rwa [List.take_add]
      · simp at h
    · simp at h
theorem read : ∀ (n : Nat) (fuel : Nat) (t : TypeId) (c : CT) (cs : List Value) (x : DataW H × List MemPlace), ctOf P n t = some c → DataW.trod enc P W 0 sp held fuel t cs = some x → ∃ vs, RelL W vs cs ∧ Typed c vs
  | 0, _, _, _, _, _, h, _ => by simp [ctOf] at h
  | n + 1, fuel, t, c, cs, x, h, hx => by
    simp only [ctOf] at h
    split at h
    · rename_i ht
      simp only [Option.some.injEq] at h; subst h
      obtain ⟨b, rfl, _⟩ := DataW.trod_bool ht hx
      exact ⟨[.bool b], .one (.bool b) rfl rfl, b, [], rfl, rfl⟩
    · rename_i k ht
      simp only [Option.some.injEq] at h; subst h
      obtain ⟨b, rfl, _, hw⟩ := DataW.trod_int ht hx
      simp only [Lit.wf, Bool.and_eq_true, decide_eq_true_eq] at hw
      exact ⟨[.int k b], .one (.int k b) rfl rfl, b, [], rfl, hw, rfl⟩
    · rename_i ht
      simp only [Option.some.injEq] at h; subst h
      obtain ⟨s, rfl, _, hm⟩ := DataW.trod_string ht hx
      exact ⟨[.str s.data.toList], .one (.str rfl) rfl rfl, _, [], rfl, by simpa using hm, rfl⟩
    · rename_i e ht
      obtain ⟨w, hw, h⟩ := Option.bind_eq_some_iff.1 h
      split at h
      · rename_i hl
        simp only [Option.some.injEq] at h; subst h
        rcases Deep.open_slice ht hx with ⟨rfl, _⟩ | ⟨a, len, cap, m, k, D, Pl, rfl, _, hlc, hcm, hmm, _, hel⟩
        · exact ⟨[.nils], .one .nils rfl rfl, .nils, [], rfl, .inl rfl, rfl⟩
        · have hlm : len ≤ m := by rw [hmm]; split <;> omega
          obtain ⟨es, hes, hq⟩ := rows_of (Q := fun i e' => ∃ cs', W.cells? 0 (a.add (i * P.cellsOf e)) (P.cellsOf e) = some cs' ∧ RelL W e' cs' ∧ Typed w e') len fun i hi => by
            obtain ⟨cs', h1, h2⟩ := hel i (by omega)
            obtain ⟨vs, h3, h4⟩ := read n _ _ _ _ _ hw h2
            exact ⟨vs, cs', h1, h3, h4⟩
          have cel : ∀ i j e', es[i]? = some e' → j < w.len → ∃ c v, W.cell? (a.add (i * w.len + j)) = some c ∧ e'[j]? = some v ∧ Rel φ0 (I0 W) W v c ∧ c.oneCell' = true ∧ v.pure = true := fun i j e' hi hj => by
            obtain ⟨cs', h1, h2, h3⟩ := hq i e' hi
            obtain ⟨_, h4, h5⟩ := World.cells?_some h1
            have hjl : j < cs'.length := by rw [h4, ← hl.2]; exact hj
            have hc : cs'[j]? = some cs'[j] := List.getElem?_eq_getElem hjl
            have hv : e'[j]? = some (e'[j]'(by rw [h3.len]; exact hj)) := List.getElem?_eq_getElem _
            refine ⟨_, _, ?_, hv, h2.2 j _ _ hv hc⟩
            have := h5 j (by rw [← h4]; exact hjl)
            rw [hc, ← hl.2] at this
            have aa : (a.add (i * w.len)).add j = a.add (i * w.len + j) := by
              unfold Addr.add
              by_cases h1 : i * w.len = 0 <;> by_cases h2 : j = 0 <;> simp [h1, h2, Nat.add_assoc]
            rw [aa] at this
            exact this
          have hsp : es ≠ [] → a.spot = none ∧ a.block < W.heap.size := fun hne => by
            have h0 : 0 < es.length := List.length_pos_iff.2 hne
            obtain ⟨c, v, h1, _⟩ := cel 0 0 _ (List.getElem?_eq_getElem h0) hl.1
            have := cell_at h1
            simpa [Addr.add] using this
          have hidx : ∀ i j, i < es.length → a.add (i * w.len + j) = ⟨a.block, a.off + i * w.len + j, none⟩ := fun i j hi => by
            rw [add_at (hsp (fun e => by simp [e] at hi)).1, Nat.add_assoc]
          have key := Rel.islc (φ := φ0) (I := I0 W) (w := W) (z := w.len) (es := es) (b := a.block) (o := a.off) (cap := cap) (a := a) (cs := fun i j => (W.cell? ⟨a.block, a.off + i * w.len + j, none⟩).getD undef)
            (by omega) (fun hne => ⟨by cases a; have := (hsp hne).1; simp_all, (hsp hne).2⟩) (fun e' he => by
              obtain ⟨i, hi⟩ := List.mem_iff_getElem?.1 he
              obtain ⟨_, _, _, h3⟩ := hq i e' hi
              exact h3.len)
            (fun i j hi hj => by
              obtain ⟨c, v, h1, _⟩ := cel i j _ (List.getElem?_eq_getElem hi) hj
              rw [hidx i j hi] at h1; rw [h1]; rfl)
            (fun i j hi hj => by
              obtain ⟨c, v, h1, _, _, h4, _⟩ := cel i j _ (List.getElem?_eq_getElem hi) hj
              rw [hidx i j hi] at h1; simp only [h1]; exact h4)
            (by
              rw [List.all_eq_true]; intro e' he
              obtain ⟨i, hi⟩ := List.mem_iff_getElem?.1 he
              rw [List.all_eq_true]; intro v hv
              obtain ⟨j, hj⟩ := List.mem_iff_getElem?.1 hv
              obtain ⟨_, _, h2, h3⟩ := hq i e' hi
              have hjl := (List.getElem?_eq_some_iff.1 hj).1
              rw [h3.len] at hjl
              obtain ⟨c, v', _, h1, _, _, h5⟩ := cel i j e' hi hjl
              rw [hj] at h1; simp at h1; subst h1; exact h5)
            (fun i j e' v hi hj => by
              have hil := (List.getElem?_eq_some_iff.1 hi).1
              obtain ⟨_, _, h2, h3⟩ := hq i e' hi
              have hjl := (List.getElem?_eq_some_iff.1 hj).1
              rw [h3.len] at hjl
              obtain ⟨c, v', h0, h1, h4, _, _⟩ := cel i j e' hi hjl
              rw [hj] at h1; simp at h1; subst h1
              rw [hidx i j hil] at h0; simp only [h0]; exact h4)
          rw [hes] at key
          refine ⟨[.islc w.len es], .one key rfl rfl, _, [], rfl, .inr ⟨es, rfl, by omega, fun e' he => ?_⟩, rfl⟩
          obtain ⟨i, hi⟩ := List.mem_iff_getElem?.1 he
          obtain ⟨_, _, _, h3⟩ := hq i e' hi
          exact h3
      · simp at h
    · rename_i fs ht
      obtain ⟨c', hc', h⟩ := Option.bind_eq_some_iff.1 h
      split at h
      · rename_i hl
        simp only [Option.some.injEq] at h; subst h
        obtain ⟨xs, k, _, _, hlen, hxs, hf⟩ := DataW.trod_struct ht hx
        obtain ⟨vs, h1, h2⟩ := read_fs (cs := cs) (ct := ctOf P n) (n := k) (fun t c cs x hc hx => read n k t c cs x hc hx) fs.toList 0 c' hc' (fun f hf' => by
          obtain ⟨i, hi⟩ := List.mem_iff_getElem?.1 hf'
          have hi' : fs[i]? = some f := by simpa using hi
          have := hf i f hi'
          have hil : i < xs.length := by rw [hxs]; exact (Array.getElem?_eq_some_iff.1 hi').1
          rw [List.getElem?_eq_getElem hil] at this
          exact ⟨_, this⟩)
        refine ⟨vs, ?_, h2⟩
        rw [hl, ← hlen] at h1
        simpa using h1
      · simp at h
    · simp at h
end
/-! A law's arguments. -/
inductive AT where
  | one (c : CT)
  | agg (c : CT)
def atOf (P : Program) (n : Nat) (t : TypeId) : Option AT :=
  (ctOf P n t).bind fun c => (P.underlying t).map fun d => if isAggD d then .agg c else .one c
def TypedU : AT → V → Prop
  | .one c, u => Typed c [u]
  | .agg c, u => ∃ xs, u = .agg xs ∧ Typed c xs
def TypedA : List AT → List V → Prop
  | [], us => us = []
  | a :: atl, us => ∃ u us', us = u :: us' ∧ TypedU a u ∧ TypedA atl us'
section
open WideShapes ChangeShapes
variable {H : Type} {enc : TypeId × Value → H} {P : Program} {W : World} {sp : Nat → Bool} {held : Bool} {base : Nat}
theorem read1 {n : Nat} {t : TypeId} {v : Value} {d : DataW H} {ps : List MemPlace} {a : AT} (ha : atOf P n t = some a) (hv : Value.okWide P W .any base t v) (h : DataW.Trod enc P W 0 sp held t v d ps) : ∃ u, Rel φ0 (I0 W) W u v ∧ TypedU a u := by
  obtain ⟨fuel, h⟩ := h
  simp only [atOf, Option.bind_eq_some_iff, Option.map_eq_some_iff] at ha
  obtain ⟨c, hc, dsc, hd, rfl⟩ := ha
  obtain ⟨vs, hr, ht⟩ := read n fuel t c _ _ hc h
  have single : v.cells.toList = [v] → isAggD dsc = false → ∃ u, Rel φ0 (I0 W) W u v ∧ TypedU (if isAggD dsc then AT.agg c else AT.one c) u := fun hv1 hag => by
    rw [hv1] at hr
    match vs, hr.1 with
    | [u], _ => exact ⟨u, (hr.2 0 u v rfl rfl).1, by rw [hag]; exact ht⟩
  cases n with
  | zero => simp [ctOf] at hc
  | succ n =>
    simp only [ctOf, hd] at hc
    cases dsc <;> simp only [reduceCtorEq] at hc
    case bool => obtain ⟨b, rfl⟩ := okWide_bool hd hv; exact single rfl rfl
    case int => obtain ⟨b, rfl⟩ := okWide_int hd hv; exact single rfl rfl
    case string => obtain ⟨b, rfl⟩ := okWide_string hd hv; exact single rfl rfl
    case slice => obtain ⟨a, b, c, rfl⟩ := okWide_slice hd hv; exact single rfl rfl
    case struct =>
      obtain ⟨cs, rfl, _⟩ := okWide_struct hd hv
      refine ⟨.agg vs, .agg (by simpa [Value.cells] using hr.1.symm) (fun i u hu => ?_), vs, rfl, ht⟩
      have hi := (List.getElem?_eq_some_iff.1 hu).1
      have hc : cs.toList[i]? = some (cs.getD i undef) := by
        have : i < cs.size := by have := hr.1; simp [Value.cells] at this; omega
        simp [this]
      exact (hr.2 i u _ hu hc).1
theorem readA {n : Nat} : ∀ {ts : List TypeId} {vs : List Value} {ds : List (DataW H)} {ps : List MemPlace} {atl : List AT}, ts.mapM (atOf P n) = some atl → (∀ (j : Nat) t v, ts[j]? = some t → vs[j]? = some v → Value.okWide P W .any base t v) →
    DataW.TrodAll enc P W 0 sp held ts vs ds ps → ∃ us : List V, (vs.length = us.length ∧ ∀ (i : Nat) u, us[i]? = some u → Rel φ0 (I0 W) W u (vs.getD i undef)) ∧ TypedA atl us
  | [], vs, ds, ps, atl, ha, hv, h => by
    obtain ⟨rfl, _, _⟩ := trodAll_nil h
    simp at ha; subst ha
    exact ⟨[], ⟨rfl, fun i u h => by simp at h⟩, rfl⟩
  | t :: ts, vs, ds, ps, atl, ha, hv, h => by
    obtain ⟨v, vs, d, ds, p, q, rfl, rfl, rfl, h1, h2⟩ := trodAll_cons h
    rw [List.mapM_cons] at ha
    simp only [Option.bind_eq_bind, Option.bind_eq_some_iff, Option.pure_def, Option.some.injEq] at ha
    obtain ⟨a, ha1, atl', ha2, rfl⟩ := ha
    obtain ⟨u, hu1, hu2⟩ := read1 ha1 (hv 0 t v rfl rfl) h1
    obtain ⟨us, ⟨hl, hus⟩, hus2⟩ := readA ha2 (fun j t' v' h3 h4 => hv (j + 1) t' v' (by simpa using h3) (by simpa using h4)) h2
    refine ⟨u :: us, ⟨by simp [hl], fun i w hw => ?_⟩, u, us, rfl, hu2, hus2⟩
    cases i with
    | zero => simp at hw; subst hw; exact hu1
    | succ i => simpa using hus i w (by simpa using hw)
theorem trodAll_below (hl : laidOutB P = true) {W' : World} (hb : Below W.heap.size W W') : ∀ {ts : List TypeId} {vs : List Value} {ds : List (DataW H)} {ps : List MemPlace}, (∀ t ∈ ts, P.readableRec t = true ∧ t < P.types.size) →
    DataW.TrodAll enc P W 0 (fun _ => true) true ts vs ds ps → DataW.TrodAll enc P W' 0 (fun b => decide (b < W.heap.size)) true ts vs ds ps
  | [], vs, ds, ps, _, h => by
    obtain ⟨rfl, rfl, rfl⟩ := trodAll_nil h
    exact trodAll_mk0
  | t :: ts, vs, ds, ps, ht, h => by
    obtain ⟨v, vs, d, ds, p, q, rfl, rfl, rfl, h1, h2⟩ := trodAll_cons h
    obtain ⟨ht1, ht2⟩ := ht t (by simp)
    have lt : ∀ x ∈ p, x.block < W.heap.size := by obtain ⟨m, hm⟩ := h1; exact DataW.trod_lt m _ _ _ hm
    exact trodAll_cons_mk (Below.trod hl ht1 ht2 h1 hb lt) (trodAll_below hl hb (fun t h => ht t (by simp [h])) h2)
/-- A law's call, whatever the arguments. -/
theorem law_top {k : FuncId} {n : Nat} {ts : List TypeId} {vs : List Value} {ds : List (DataW H)} {ps : List MemPlace} {ats : List AT} (hl : laidOutB P = true) (has : ts.mapM (atOf P n) = some ats) (hrd : ∀ t ∈ ts, P.readableRec t = true ∧ t < P.types.size)
    (hv : ∀ (j : Nat) t v, ts[j]? = some t → vs[j]? = some v → Value.okWide P W .any base t v) (h : DataW.TrodAll enc P W 0 (fun _ => true) true ts vs ds ps) (hc : ∀ us, TypedA ats us → CCalls P k us (σ0 W) (fun o _ => o = .ret (.bool true))) :
    Calls P k vs.toArray W fun e w' => e = .returned (.bool true) ∧ Below W.heap.size W w' ∧ DataW.TrodAll enc P w' 0 (fun b => decide (b < W.heap.size)) true ts vs ds ps := by
  obtain ⟨us, ⟨h1, h2⟩, h3⟩ := readA has hv h
  refine (calls_top (hc us h3) ⟨by simpa using h1, fun i u hu => ?_⟩).mono fun e w' ⟨he, hb⟩ => ⟨he, hb, trodAll_below hl hb hrd h⟩
  have := h2 i u hu
  simpa [Array.getD_eq_getD_getElem?, List.getD_eq_getElem?_getD] using this
end
theorem typed_bytes {u : V} (h : Typed (.slc (.int .u8 .nil) .nil) [u]) : ∃ b, (∀ σ, Bs σ u b) ∧ u.row = none ∧ b.length ≤ maxLen := by
  obtain ⟨u', _, e, h, rfl⟩ := h
  simp at e; subst e
  rcases h with rfl | ⟨es, rfl, hm, hes⟩
  · exact ⟨[], fun σ => rfl, rfl, by simp⟩
  · have : ∃ b : List UInt8, es = b.map byteE := by
      clear hm
      induction es with
      | nil => exact ⟨[], rfl⟩
      | cons e es ih =>
        obtain ⟨b, rfl⟩ := ih fun e' he => hes e' (by simp [he])
        obtain ⟨n, _, rfl, hn, rfl⟩ := hes e (by simp)
        have h1 : 0 ≤ n ∧ n < 256 := by simp [IntKind.min, IntKind.max, IntKind.signed, IntKind.bits] at hn; omega
        refine ⟨UInt8.ofNat n.toNat :: b, ?_⟩
        simp [byteE]
        omega
    obtain ⟨b, rfl⟩ := this
    exact ⟨b, fun σ => by simp [Bs, Rd, cont, CT.len], rfl, by simpa using hm⟩
end Go.Proofs.Ytgmjeklneeljdaa.Ab
