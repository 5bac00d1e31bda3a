/-
The walk over the program's texts, told with what its values say: a part of it. No further condition.
-/
import Derived.Test.YtmkgmjdbgjiehaaDoorAbSnA
import Derived.Lib.Join
import Derived.Lib.LaidTab
import Derived.Lib.ItoaNum
namespace Go.Proofs.YtmkgmjdbgjiehaaDoor
open Go.Proofs.YtmkgmjdbgjiehaaDoor.Ab
set_option linter.unusedVariables false
set_option linter.unusedSimpArgs false
attribute [local simp] Gr.refl Gr.new Gr.set Gr.kill Nat.add_assoc r_cks chk wantG
variable {E : En Tryd.prog}
def nE (x : Int) : List V := [.int .u32 x]
def Nm (σ : St) (v : V) (l : List Int) : Prop := Rd σ 1 v (l.map nE)
section
variable {σ σ' σ0 : St} {v : V} {l : List Int}
theorem Nm.len (h : Nm σ v l) : lenV v = some (.int .i64 l.length) := by simpa using Rd.len h
theorem Nm.at (h : Nm σ v l) {k : IntKind} {i : Nat} (hi : i < l.length) : iaV σ 1 v (.int k i) = some (elA v i) := Rd.at h (by simpa using hi)
theorem Nm.ld (h : Nm σ v l) {i : Nat} (hi : i < l.length) : ldV σ (elA v i) = some (.int .u32 (rd l i)) := by
  have h1 : l[i]? = some (rd l i) := by rw [rd_nat, List.getElem?_eq_getElem hi]; rfl
  have := Rd.el h (i := i) (e := nE (rd l i)) (by rw [List.getElem?_map, h1]; rfl)
  simpa [nE] using this
theorem Nm.cutTo (h : Nm σ v l) {n : Nat} (hn : n ≤ l.length) : Nm σ (cutV v 0 n) (l.take n) := by
  have := Rd.cut h (a := 0) (b := n) (Nat.zero_le _) (by simpa using hn)
  simpa [Nm, List.map_take] using this
theorem Nm.gr (h : Nm σ v l) (g : Gr σ σ') (ho : v.old σ) : Nm σ' v l := Rd.gr h g ho
def isl : V → Bool
  | .islc _ _ => true
  | _ => false
structure New (σ0 σ : St) (v : V) (l : List Int) : Prop where
  rd : Nm σ v l
  gr : Gr σ0 σ
  lo : ∀ k, v.row = some k → σ0.n ≤ k ∧ k < σ.n
  wr : isl v = false
theorem New.old (h : New σ0 σ v l) : v.old σ := fun p off len e => (h.lo p (by rw [e]; rfl)).2
theorem New.step (h : New σ0 σ v l) (g : Gr σ σ') : New σ0 σ' v l := ⟨h.rd.gr g h.old, h.gr.trans g, fun k hk => ⟨(h.lo k hk).1, Nat.lt_of_lt_of_le (h.lo k hk).2 g.n⟩, h.wr⟩
theorem New.base {σ1 : St} (h : New σ1 σ v l) (g : Gr σ0 σ1) : New σ0 σ v l := ⟨h.rd, g.trans h.gr, fun k hk => ⟨Nat.le_trans g.n (h.lo k hk).1, (h.lo k hk).2⟩, h.wr⟩
theorem cut_row {v : V} {a b : Nat} : (cutV v a b).row = v.row := by cases v <;> rfl
theorem cut_isl {v : V} {a b : Nat} : isl (cutV v a b) = isl v := by cases v <;> rfl
theorem New.cutTo (h : New σ0 σ v l) {n : Nat} (hn : n ≤ l.length) : New σ0 σ (cutV v 0 n) (l.take n) := ⟨h.rd.cutTo hn, h.gr, fun k hk => h.lo k (by rwa [cut_row] at hk), by rw [cut_isl]; exact h.wr⟩
end
theorem tr_take : ∀ (l : List Int), tr l = l.take (tr l).length
  | [] => rfl
  | x :: t => by
    unfold tr
    split
    · rfl
    · rw [List.length_cons, List.take_succ_cons, ← tr_take t]
theorem trim_loop {σ : St} {v : V} {l : List Int} (hv : Nm σ v l) (hl : l.length < 2 ^ 40) {x : D} (hx : ∀ (f : Fr) (n : Nat), f.ds = [] → f.env 0 = v → f.env 3 = .int .i64 n → n ≤ l.length → run E false [.t 2] [.d x] f σ = some (.ret (cutV v 0 n), σ)) {B : D} (hB : B = b62_0) :
    ∀ (n : Nat) (f : Fr), n ≤ l.length → f.ds = [] → f.env 0 = v → f.env 3 = .int .i64 n → run E false [.t 2] (.d (.loop [0, 3] B) :: .blk 0 :: [.d x]) f σ = some (.ret (cutV v 0 (tr (l.take n)).length), σ)
  | 0, f, hn, hd, e0, e3 => by
    rw [r_loopU hB]
    simp [b62_0, hd, e0, e3, tr]
    exact hx _ 0 (by simp) (by simp) (by simp) (by omega)
  | n + 1, f, hn, hd, e0, e3 => by
    rw [r_loopU hB]
    have hw : IntKind.i64.wrap (((n + 1 : Nat) : Int) - 1) = (n : Int) := by rw [IntWalk.i64_in _ (by omega)]; omega
    have hp : 0 < n + 1 := by omega
    have ld := hv.ld (i := n) (by omega)
    have hit := hv.at (k := .i64) (i := n) (by omega)
    obtain ⟨m, hm⟩ : ∃ m, m = n + 1 := ⟨_, rfl⟩
    rw [← hm] at hw e3 hp
    by_cases h0 : rd l n = 0
    · have ih := fun f => trim_loop hv hl hx hB n f (by omega)
      rw [← trS (by omega) h0]
      simp [b62_0, hd, e0, e3, hp, hw, hit, ld, eq_true h0]
      exact ih _ (by simp) (by simp) (by simp)
    · rw [← trN (by omega) h0]
      simp [b62_0, hd, e0, e3, hp, hw, hit, ld, h0]
      rw [hx _ m (by simp) (by simp) (by simp) (by omega), ← hm, Nat.min_eq_left (by omega)]
theorem trim_ev (hT : E.T = T) {σ : St} {v : V} {l : List Int} (hv : Nm σ v l) (hl : l.length < 2 ^ 40) : ev E 62 [v] σ = some (.ret (cutV v 0 (tr l).length), σ) := by
  refine ev_raw (fd := f62) (by rw [hT]; rfl) (by simp [f62]) rfl ?_
  have k := fun f => trim_loop (E := E) (B := b62_0) hv hl (x := .kb [0, 3] (.seq (.reg [⟨some 18, none, .mv (.t 0)⟩, ⟨some 19, none, .mv (.t 3)⟩, ⟨some 20, none, .lsl 1 (.t 18) none (some (.t 19))⟩, ⟨some 2, none, .mv (.t 20)⟩]) .ret)) (fun f n hd e0 e3 hn => by
    have hcut : ∀ env (hi : Opd), hi.ev env = .int .i64 n → lslV env σ 1 v none (some hi) = some (cutV v 0 n) := fun env hi h => Rd.lsl hv (a := 0) (b := n) rfl (by simp [bound, h]) (Nat.zero_le _) (by simpa using hn)
    simp [hd, e0, e3, hcut]) rfl l.length f (Nat.le_refl _)
  rw [List.take_length] at k
  simp [f62, d62, hv.len]
  exact k _ (by simp) (by simp) (by simp)
theorem trim_nm {σ : St} {v : V} {l : List Int} (hv : Nm σ v l) : Nm σ (cutV v 0 (tr l).length) (tr l) := by
  have := hv.cutTo (tr_length l)
  rwa [← tr_take] at this
theorem New.trim {σ0 σ : St} {v : V} {l : List Int} (h : New σ0 σ v l) : New σ0 σ (cutV v 0 (tr l).length) (tr l) := by
  have := h.cutTo (tr_length l)
  rwa [← tr_take] at this
theorem norm_loop {σ : St} {v : V} {l : List Int} (hv : Nm σ v l) (hl : l.length < 2 ^ 40) {x : D} {C : Option (CO × St) → Prop} (hx : ∀ (f : Fr) (n : Nat), f.ds = [] → f.env 0 = v → f.env 3 = .int .i64 n → n = (tr l).length → C (run E false [.t 2] [.d x] f σ)) {B : D} (hB : B = b67_0) :
    ∀ (n : Nat) (f : Fr), n ≤ l.length → tr (l.take n) = tr l → f.ds = [] → f.env 0 = v → f.env 3 = .int .i64 n → C (run E false [.t 2] (.d (.loop [0, 3] B) :: .blk 0 :: [.d x]) f σ)
  | 0, f, hn, ht, hd, e0, e3 => by
    rw [r_loopU hB]
    simp [b67_0, hd, e0, e3]
    exact hx _ 0 (by simp) (by simp) (by simp) (by rw [← ht]; simp [tr])
  | n + 1, f, hn, ht, hd, e0, e3 => by
    rw [r_loopU hB]
    have hw : IntKind.i64.wrap (((n + 1 : Nat) : Int) - 1) = (n : Int) := by rw [IntWalk.i64_in _ (by omega)]; omega
    have hp : 0 < n + 1 := by omega
    have ld := hv.ld (i := n) (by omega)
    have hit := hv.at (k := .i64) (i := n) (by omega)
    obtain ⟨m, hm⟩ : ∃ m, m = n + 1 := ⟨_, rfl⟩
    rw [← hm] at hw e3 hp
    by_cases h0 : rd l n = 0
    · have ih := fun f => norm_loop hv hl hx hB n f (by omega) (by rw [trS (by omega) h0]; exact ht)
      simp [b67_0, hd, e0, e3, hp, hw, hit, ld, eq_true h0]
      exact ih _ (by simp) (by simp) (by simp)
    · simp [b67_0, hd, e0, e3, hp, hw, hit, ld, h0]
      exact hx _ m (by simp) (by simp) (by simp) (by rw [← ht, ← trN (by omega) h0, List.length_take]; omega)
theorem norm_ev (hT : E.T = T) {σ : St} {v : V} {l : List Int} (hv : Nm σ v l) (hl : l.length < 2 ^ 40) : ∃ u τ, ev E 67 [v] σ = some (.ret u, τ) ∧ New σ τ u (tr l) := by
  suffices h : ∃ u τ, run E false f67.res [.d f67.body] ⟨envOf [v], []⟩ σ = some (.ret u, τ) ∧ New σ τ u (tr l) by
    obtain ⟨u, τ, h, k⟩ := h
    exact ⟨u, τ, ev_raw (fd := f67) (by rw [hT]; rfl) (by simp [f67]) rfl h, k⟩
  have htl := tr_length l
  obtain ⟨n, hn⟩ : ∃ n, n = (tr l).length := ⟨_, rfl⟩
  have hnm := trim_nm hv
  rw [← hn] at hnm htl
  obtain ⟨u, τ, a1, a2, _⟩ := (Own.nils σ 1).appA (y := cutV v 0 n) (ys := (tr l).map nE) (srcOf_rd hnm) (bytes := 4) (by simp [reach]; omega) (by simp [reach]; omega)
  have a2' : Own σ τ 1 u ((tr l).map nE) := by simpa using a2
  have hcut : ∀ env (hi : Opd), hi.ev env = .int .i64 n → lslV env σ 1 v none (some hi) = some (cutV v 0 n) := fun env hi h => Rd.lsl hv (a := 0) (b := n) rfl (by simp [bound, h]) (Nat.zero_le _) (by simpa using htl)
  simp [f67, d67, hv.len]
  refine norm_loop hv hl (C := fun r => ∃ u τ, r = some (CO.ret u, τ) ∧ New σ τ u (tr l)) ?_ rfl l.length _ (Nat.le_refl _) (by rw [List.take_length]) (by simp) (by simp) (by simp)
  intro f k hd e0 e3 hk
  have : k = n := by rw [hk, hn]
  subst this
  exact ⟨u, τ, by simp [hd, e0, e3, hcut, a1], a2'.rd, a2'.gr, a2'.lo, by rcases a2'.sl with ⟨rfl, _⟩ | ⟨_, rfl, _⟩ <;> rfl⟩
theorem add32_ev (hT : E.T = T) {σ : St} {x y c : Int} (hx : 0 ≤ x ∧ x < 4294967296) (hy : 0 ≤ y ∧ y < 4294967296) (hc : 0 ≤ c ∧ c ≤ 1) : ev E 99 [.int .u32 x, .int .u32 y, .int .u32 c] σ = some (.ret (.tup [.int .u32 ((x + y + c) % 4294967296), .int .u32 ((x + y + c) / 4294967296)]), σ) := by
  refine ev_same (fd := f99) (o := .ret (.tup [.int .u32 ((x + y + c) % 4294967296), .int .u32 ((x + y + c) / 4294967296)])) (by rw [hT]; rfl) (by simp [f99]) rfl ?_ (by simp)
  have w1 : IntKind.u64.wrap x = x := u64id (by omega) (by omega)
  have w2 : IntKind.u64.wrap y = y := u64id (by omega) (by omega)
  have w3 : IntKind.u64.wrap c = c := u64id (by omega) (by omega)
  have w4 : IntKind.u64.wrap (x + y) = x + y := u64id (by omega) (by omega)
  have w5 : IntKind.u64.wrap (x + y + c) = x + y + c := u64id (by omega) (by omega)
  obtain ⟨z, hz⟩ : ∃ z, z = x + y + c := ⟨_, rfl⟩
  rw [← hz] at w5 ⊢
  have w6 : IntKind.u32.wrap z = z % 4294967296 := wrap_u32 z
  have w7 : z.fdiv (2 ^ min 32 IntKind.u64.bits) = z / 4294967296 := by
    rw [show min 32 IntKind.u64.bits = 32 from by simp [IntKind.bits], Int.fdiv_eq_ediv_of_nonneg _ (by decide)]; rfl
  have w8 : IntKind.u32.wrap (z / 4294967296) = z / 4294967296 := by rw [wrap_u32]; omega
  simp [f99, d99, w1, w2, w3, w4, w5, ← hz, w6, w7, w8]
end Go.Proofs.YtmkgmjdbgjiehaaDoor
namespace Go.Proofs.YtmkgmjdbgjiehaaDoor
open Go.Proofs.YtmkgmjdbgjiehaaDoor.Ab
set_option linter.unusedVariables false
set_option linter.unusedSimpArgs false
attribute [local simp] Gr.refl Gr.new Gr.set Gr.kill Nat.add_assoc r_cks chk wantG
variable {E : En Tryd.prog} {B : Int}
section
variable {σ : St} {l N i : Nat} {X : List Int}
theorem row_at (h : σ.H l = some (.row 1 (X.map nE))) (hN : N = X.length) (hi : i < N) {k : IntKind} : iaV σ 1 (.slc l 0 N) (.int k i) = some (.ptr l i 0) := by simp [iaV, h, hi]
theorem row_ld (h : σ.H l = some (.row 1 (X.map nE))) (hi : i < X.length) : ldV σ (.ptr l i 0) = some (.int .u32 (rd X i)) := by
  have h1 : X[i]? = some (rd X i) := by rw [rd_nat, List.getElem?_eq_getElem hi]; rfl
  rw [ldV_ptr, h]; simp [h1, nE]
theorem row_st (h : σ.H l = some (.row 1 (X.map nE))) (hi : i < X.length) (y : Int) : stV σ 1 (.ptr l i 0) (.int .u32 y) = some (σ.set l (.row 1 ((X.set i y).map nE))) := by
  rw [stV_ptr, h]
  simp [hi, nE, setAt, List.map_set]
theorem row_nm (h : σ.H l = some (.row 1 (X.map nE))) (hN : N = X.length) : Nm σ (.slc l 0 N) X := by
  subst hN; simp [Nm, Rd, cont, h, List.take_of_length_le]
end
theorem New.row {σ0 σ : St} {l N : Nat} {X : List Int} (h : σ.H l = some (.row 1 (X.map nE))) (hN : N = X.length) (g : Gr σ0 σ) (h0 : σ0.n ≤ l) (h1 : l < σ.n) : New σ0 σ (.slc l 0 N) X :=
  ⟨row_nm h hN, g, fun k hk => by simp [V.row] at hk; omega, rfl⟩
def AddQ (B : Int) (σ0 : St) (l : Nat) (va : V) (a b : List Int) (f' : Fr) (σ' : St) : Prop := ∃ (p : List Int) (c : Int), p.length = a.length ∧ Dg B p ∧ (0 ≤ c ∧ c ≤ 1) ∧ vl B p + B ^ p.length * c = vl B a + vl B b ∧ Gr σ0 σ' ∧ σ'.H l = some (.row 1 ((p ++ [0]).map nE)) ∧ l < σ'.n ∧
  f'.ds = [] ∧ f'.env 0 = va ∧ f'.env 5 = .slc l 0 (a.length + 1) ∧ f'.env 6 = .int .u32 c
theorem add_loop (hT : E.T = T) (hB : B = 4294967296) {σ0 : St} {va vb : V} {a b : List Int} (ha : Nm σ0 va a) (hao : va.old σ0) (hb : Nm σ0 vb b) (hbo : vb.old σ0) (hal : a.length < 2 ^ 30) (hba : b.length ≤ a.length) (da : Dg B a) (db : Dg B b) {l : Nat} (hl0 : σ0.n ≤ l) {dd : Bool} {rs : List RC} {st : List SE} {B0 : D} (hB0 : B0 = b94_0) :
    ∀ (m : Nat) (p : List Int) (c : Int) (f : Fr) (σ : St), p.length + m = a.length → Dg B p → 0 ≤ c ∧ c ≤ 1 → vl B p + B ^ p.length * c = vl B (a.take p.length) + vl B (b.take p.length) → Gr σ0 σ → σ.H l = some (.row 1 ((p ++ List.replicate (m + 1) 0).map nE)) → l < σ.n →
      f.ds = [] → f.env 0 = va → f.env 1 = vb → f.env 5 = .slc l 0 (a.length + 1) → f.env 6 = .int .u32 c → f.env 21 = .int .i64 a.length → f.env 22 = .int .i64 p.length →
      Lands E dd rs st (AddQ B σ0 l va a b) (run E dd rs (.d (.loop [0, 1, 5, 6, 21, 22] B0) :: .blk 0 :: st) f σ)
  | 0, p, c, f, σ, hp, dp, hc, hv, hg, hH, hln, hd, e0, e1, e5, e6, e21, e22 => by
    rw [r_loopU hB0]
    have h : ¬ p.length < a.length := by omega
    simp [b94_0, hd, e0, e1, e5, e6, e21, e22, h]
    exact .here ⟨p, c, by omega, dp, hc, by rw [hv, List.take_of_length_le (by omega), List.take_of_length_le (by omega)], hg, hH, hln, by simp, by simp, by simp, by simp⟩
  | m + 1, p, c, f, σ, hp, dp, hc, hv, hg, hH, hln, hd, e0, e1, e5, e6, e21, e22 => by
    rw [r_loopU hB0]
    have h : p.length < a.length := by omega
    have hx := da.place (by omega) (p.length : Int)
    have hy := db.place (by omega) (p.length : Int)
    have hs := add_step (B := B) (x := rd a p.length) (y := rd b p.length) hv
    rw [← vl_take_succ, ← vl_take_succ] at hs
    have hXl : (p ++ List.replicate (m + 1 + 1) 0).length = a.length + 1 := by simp; omega
    have ha' := ha.gr hg hao
    have hb' := hb.gr hg hbo
    have i1 := ha'.at (k := .i64) h
    have l1 := ha'.ld h
    have i3 : iaV σ 1 (.slc l 0 (a.length + 1)) (.int .i64 p.length) = some (.ptr l p.length 0) := row_at hH hXl.symm (by omega)
    have s3 := row_st hH (i := p.length) (by rw [hXl]; omega) ((rd a p.length + rd b p.length + c) % 4294967296)
    rw [rep_set] at s3
    have hw : IntKind.i64.wrap ((p.length : Int) + 1) = ((p.length + 1 : Nat) : Int) := by rw [IntWalk.i64_in _ (by omega)]; omega
    have ad := add32_ev hT (σ := σ) (x := rd a p.length) (y := rd b p.length) (c := c) (by omega) (by omega) hc
    have ih := fun f a0 a1 a2 a3 a4 a5 a6 => add_loop hT hB ha hao hb hbo hal hba da db hl0 (dd := dd) (rs := rs) (st := st) hB0 m (p ++ [(rd a p.length + rd b p.length + c) % 4294967296]) ((rd a p.length + rd b p.length + c) / 4294967296) f (σ.set l (.row 1 (((p ++ [(rd a p.length + rd b p.length + c) % 4294967296]) ++ List.replicate (m + 1) 0).map nE))) (by simp; omega) (dp.snoc (by omega) (by omega)) (by omega) (by
        rw [vl_snoc, List.length_append, List.length_singleton, Int.pow_succ, ← hB]; exact hs) (hg.set hl0 _) (by simp) (by simpa using hln) a0 a1 a2 a3 a4 a5 a6
    obtain ⟨q, hq⟩ : ∃ q, q = (rd a p.length + rd b p.length + c) % 4294967296 := ⟨_, rfl⟩
    obtain ⟨q', hq'⟩ : ∃ q, q = (rd a p.length + rd b p.length + c) / 4294967296 := ⟨_, rfl⟩
    obtain ⟨R, hR⟩ : ∃ R, R = ((p ++ [q]) ++ List.replicate (m + 1) 0).map nE := ⟨_, rfl⟩
    rw [← hq] at ad s3
    rw [← hq'] at ad
    rw [← hR] at s3
    simp only [← hq, ← hq', ← hR, List.length_append, List.length_singleton] at ih
    obtain ⟨n, hn⟩ : ∃ n, n = p.length + 1 := ⟨_, rfl⟩
    simp only [← hn] at hw ih
    by_cases hbl : p.length < b.length
    · have i2 := hb'.at (k := .i64) hbl
      have l2 := hb'.ld hbl
      simp [b94_0, hd, e0, e1, e5, e6, e21, e22, h, hb'.len, hbl, i1, l1, i2, l2, i3, s3, ad, hw, -stV_ptr]
      exact ih _ (by simp) (by simp) (by simp) (by simp) (by simp) (by simp) (by simp)
    · have hy0 : rd b p.length = 0 := rd_out (by omega)
      rw [hy0] at ad
      simp [b94_0, hd, e0, e1, e5, e6, e21, e22, h, hb'.len, hbl, i1, l1, i3, s3, ad, hw, -stV_ptr]
      exact ih _ (by simp) (by simp) (by simp) (by simp) (by simp) (by simp) (by simp)
def X5 : D := tlD (tlD d94)
theorem add_core (hT : E.T = T) (hB : B = 4294967296) {σ : St} {va vb : V} {a b : List Int} (ha : Nm σ va a) (hao : va.old σ) (hb : Nm σ vb b) (hbo : vb.old σ) (hal : a.length < 2 ^ 30) (hba : b.length ≤ a.length) (da : Dg B a) (db : Dg B b) {f : Fr} (hd : f.ds = []) (e0 : f.env 0 = va) (e1 : f.env 1 = vb) :
    ∃ u τ, run E false [.t 4] [.d X5] f σ = some (.ret u, τ) ∧ New σ τ u (cn B (vl B a + vl B b)) ∧ u ≠ .nils := by
  obtain ⟨n, hn⟩ : ∃ n, n = a.length + 1 := ⟨_, rfl⟩
  have hw : IntKind.i64.wrap ((a.length : Int) + 1) = (n : Int) := by rw [IntWalk.i64_in _ (by omega)]; omega
  obtain ⟨s1, hs1⟩ : ∃ s1, s1 = σ.new (.row 1 (List.replicate n [.int .u32 0])) := ⟨_, rfl⟩
  have g1 : Gr σ s1 := by rw [hs1]; exact (Gr.refl σ).new _
  have hrb : (4 : Int) * n ≤ reach := by simp [reach]; omega
  have hrb2 : (n : Int) ≤ reach := by simp [reach]; omega
  have hmk : mkslV σ 4 [.int .u32 0] (.int .i64 n) (.int .i64 n) = some (.slc σ.n 0 n, s1) := by
    rw [mkslV_int, hs1, if_pos ⟨by omega, by omega, hrb, hrb2⟩]; simp
  have hH : s1.H σ.n = some (.row 1 ((([] : List Int) ++ List.replicate (a.length + 1) 0).map nE)) := by rw [hs1]; simp [hn, nE]
  have ha' := ha.gr g1 hao
  simp [X5, tlD, d94, hd, e0, e1, ha.len, ha'.len, hw, hmk, -mkslV_int]
  refine Lands.to (C := fun r => ∃ u τ, r = some (CO.ret u, τ) ∧ New σ τ u (cn B (vl B a + vl B b)) ∧ u ≠ .nils) (add_loop hT hB ha hao hb hbo hal hba da db (Nat.le_refl σ.n) rfl a.length [] 0 _ s1 (by simp) .nil (by omega) (by simp [vl]) g1 hH (by rw [hs1]; simp) (by simp) (by simp) (by simp) (by simp [hn]) (by simp) (by simp) (by simp)) ?_
  rintro f' σ' ⟨p, c, h1, h2, h3, h4, h5, h6, h7, h8, h9, h10, h11⟩
  have ha2 := ha.gr h5 hao
  have i3 : iaV σ' 1 (.slc σ.n 0 (a.length + 1)) (.int .i64 a.length) = some (.ptr σ.n a.length 0) := row_at h6 (by simp [h1]) (by omega)
  have s3 := row_st h6 (i := a.length) (by simp [h1]) c
  have hset : (p ++ [0]).set a.length c = p ++ [c] := by rw [← h1]; simp
  rw [hset] at s3
  obtain ⟨s2, hs2⟩ : ∃ s2, s2 = σ'.set σ.n (.row 1 ((p ++ [c]).map nE)) := ⟨_, rfl⟩
  have g2 : Gr σ s2 := by rw [hs2]; exact h5.set (Nat.le_refl _) _
  have hrow : s2.H σ.n = some (.row 1 ((p ++ [c]).map nE)) := by rw [hs2]; simp
  have hnew := New.row (N := a.length + 1) hrow (by simp [h1]) g2 (Nat.le_refl _) (by rw [hs2]; simpa using h7)
  have htr := trim_ev hT hnew.rd (by simp; omega)
  have hfin := hnew.trim
  have hcn : tr (p ++ [c]) = cn B (vl B a + vl B b) := by
    rw [tr_cn (B := B) (by omega) (h2.snoc h3.1 (by omega)), vl_snoc, h4]
  rw [hcn] at htr hfin
  rw [← hs2] at s3
  refine ⟨_, s2, ?_, hfin, by simp [cutV]⟩
  simp [h8, h9, h10, h11, ha2.len, i3, s3, htr, -stV_ptr]
theorem add_evN (hT : E.T = T) (hB : B = 4294967296) {σ : St} {va vb : V} {a b : List Int} (ha : Nm σ va a) (hao : va.old σ) (hb : Nm σ vb b) (hbo : vb.old σ) (hal : a.length < 2 ^ 30) (hbl : b.length < 2 ^ 30) (da : Dg B a) (db : Dg B b) :
    ∃ u τ, ev E 94 [va, vb] σ = some (.ret u, τ) ∧ New σ τ u (cn B (vl B a + vl B b)) ∧ u ≠ .nils := by
  suffices h : ∃ u τ, run E false f94.res [.d f94.body] ⟨envOf [va, vb], []⟩ σ = some (.ret u, τ) ∧ New σ τ u (cn B (vl B a + vl B b)) ∧ u ≠ .nils by
    obtain ⟨u, τ, h, k⟩ := h
    exact ⟨u, τ, ev_raw (fd := f94) (by rw [hT]; rfl) (by simp [f94]) rfl h, k⟩
  have hX : f94.body = subD 2 d94 X5 := rfl
  rw [hX]
  by_cases h : a.length < b.length
  · have := fun f => add_core hT hB hb hbo ha hao hbl (by omega) db da (f := f)
    simp [f94, d94, subD, ha.len, hb.len, h]
    rw [Int.add_comm]
    exact this _ (by simp) (by simp) (by simp)
  · have := fun f => add_core hT hB ha hao hb hbo hal (by omega) da db (f := f)
    simp [f94, d94, subD, ha.len, hb.len, h]
    exact this _ (by simp) (by simp) (by simp)
end Go.Proofs.YtmkgmjdbgjiehaaDoor
namespace Go.Proofs.YtmkgmjdbgjiehaaDoor
open Go.Proofs.YtmkgmjdbgjiehaaDoor.Ab
set_option linter.unusedVariables false
set_option linter.unusedSimpArgs false
attribute [local simp] Gr.refl Gr.new Gr.set Gr.kill Nat.add_assoc r_cks chk wantG
variable {E : En Tryd.prog} {B : Int}
structure Ch (σ τ : St) (l : Nat) (r : List Int) : Prop where
  n : τ.n = σ.n
  W : τ.W = σ.W
  H : ∀ k, k ≠ l → τ.H k = σ.H k
  row : τ.H l = some (.row 1 (r.map nE))
theorem Ch.set {σ : St} {l : Nat} (r : List Int) : Ch σ (σ.set l (.row 1 (r.map nE))) l r := ⟨rfl, rfl, fun k hk => by simp [hk], by simp⟩
theorem Ch.trans {σ τ υ : St} {l : Nat} {r r' : List Int} (h : Ch σ τ l r) (k : Ch τ υ l r') : Ch σ υ l r' := ⟨k.n.trans h.n, k.W.trans h.W, fun x hx => (k.H x hx).trans (h.H x hx), k.row⟩
theorem Ch.gr {σ0 σ τ : St} {l : Nat} {r : List Int} (h : Ch σ τ l r) (g : Gr σ0 σ) (hl : σ0.n ≤ l) : Gr σ0 τ := ⟨by rw [h.n]; exact g.n, fun k hk => (h.H k (by omega)).trans (g.H k hk), h.W.trans g.W⟩
theorem Ch.nm {σ τ : St} {l : Nat} {r x : List Int} {v : V} (h : Ch σ τ l r) (hv : Nm σ v x) (hr : ∀ k, v.row = some k → k ≠ l) : Nm τ v x := Rd.mono hv fun k off len e => h.H k (hr k (by rw [e]; rfl))
theorem fd32 (z : Int) (hz : 0 ≤ z) : z.fdiv (2 ^ min 32 IntKind.u64.bits) = z / 4294967296 := by
  rw [show min 32 IntKind.u64.bits = 32 from by simp [IntKind.bits], Int.fdiv_eq_ediv_of_nonneg _ (by decide)]; rfl
theorem addto1 (hB : B = 4294967296) (T : Int) {l N : Nat} {B1 : D} (hB1 : B1 = b100_1) : ∀ (m i : Nat) (row : List Int) (c : Int) (f : Fr) (σ : St), i + m = row.length → row.length = N → N < 2 ^ 30 → Dg B row → 0 ≤ c ∧ c < B → vl B row + B ^ i * c = T → T < B ^ row.length → σ.H l = some (.row 1 (row.map nE)) →
    f.ds = [] → f.env 0 = .slc l 0 N → f.env 8 = .int .u64 c → f.env 12 = .int .i64 i →
    ∃ r τ, run E false [] (.d (.loop [0, 8, 12] B1) :: [.blk 2]) f σ = some (.ret (.tup []), τ) ∧ Ch σ τ l r ∧ Dg B r ∧ r.length = row.length ∧ vl B r = T
  | 0, i, row, c, f, σ, hi, hN, hl, dr, hc, hv, hT, hH, hd, e0, e8, e12 => by
    have h0 : c = 0 := by
      have h1 := vl_nonneg (show 0 ≤ B by omega) dr
      have h2 := pow_pos' (show 0 < B by omega) i
      have e : i = row.length := by omega
      rw [← e] at hT
      rcases (show 0 < c ∨ c ≤ 0 by omega) with h | h
      · have := Int.mul_le_mul_of_nonneg_left (show 1 ≤ c by omega) (show 0 ≤ B ^ i by omega)
        omega
      · omega
    subst h0
    rw [r_loopU hB1]
    exact ⟨row, σ, by simp [b100_1, hd, e0, e8, e12], ⟨rfl, rfl, fun _ _ => rfl, hH⟩, dr, rfl, by simpa using hv⟩
  | m + 1, i, row, c, f, σ, hi, hN, hl, dr, hc, hv, hT, hH, hd, e0, e8, e12 => by
    have hr := dr.place (show 0 < B by omega) (i : Int)
    rw [r_loopU hB1]
    by_cases h0 : c = 0
    · subst h0
      exact ⟨row, σ, by simp [b100_1, hd, e0, e8, e12], ⟨rfl, rfl, fun _ _ => rfl, hH⟩, dr, rfl, by simpa using hv⟩
    · have hs := carry_step (B := B) (r := rd row i) (t := rd row i + c) hv rfl
      rw [← vl_set row i _ (by omega), ← Int.pow_succ] at hs
      have hc0 : 0 < c := by omega
      have i1 : iaV σ 1 (.slc l 0 N) (.int .i64 i) = some (.ptr l i 0) := row_at hH hN.symm (by omega)
      have l1 := row_ld hH (i := i) (by omega)
      obtain ⟨x, hx⟩ : ∃ x, x = rd row i := ⟨_, rfl⟩
      rw [← hx] at l1 hr hs
      have w1 : IntKind.u64.wrap x = x := u64id (by omega) (by omega)
      have w2 : IntKind.u64.wrap (x + c) = x + c := u64id (by omega) (by omega)
      obtain ⟨t, ht⟩ : ∃ t, t = x + c := ⟨_, rfl⟩
      rw [← ht] at w2 hs
      have w3 : IntKind.u32.wrap t = t % B := by rw [wrap_u32, hB]
      have w4 : t.fdiv (2 ^ min 32 IntKind.u64.bits) = t / B := by rw [fd32 t (by omega), hB]
      have w5 : IntKind.i64.wrap ((i : Int) + 1) = ((i + 1 : Nat) : Int) := by rw [IntWalk.i64_in _ (by omega)]; omega
      have s1 := row_st hH (i := i) (by omega) (t % B)
      have ih := fun f => addto1 hB T (l := l) (N := N) hB1 m (i + 1) (row.set i (t % B)) (t / B) f (σ.set l (.row 1 ((row.set i (t % B)).map nE))) (by simp; omega) (by simpa using hN) hl (dr.set (by subst hB; omega) (by subst hB; omega)) (by subst hB; omega) hs (by simpa using hT) (by simp)
      obtain ⟨R, hR⟩ : ∃ R, R = row.set i (t % B) := ⟨_, rfl⟩
      obtain ⟨q, hq⟩ : ∃ q, q = t % B := ⟨_, rfl⟩
      obtain ⟨q', hq'⟩ : ∃ q, q = t / B := ⟨_, rfl⟩
      rw [← hR, ← hq] at s1
      rw [← hq] at w3
      rw [← hq'] at w4
      simp only [← hR, ← hq'] at ih
      have hRl : R.length = row.length := by rw [hR]; simp
      simp only [hRl] at ih
      obtain ⟨k, hk⟩ : ∃ k, k = i + 1 := ⟨_, rfl⟩
      simp only [← hk] at w5 ih
      show ∃ r τ, _ ∧ Ch σ τ l r ∧ _
      simp [b100_1, hd, e0, e8, e12, hc0, i1, l1, w1, w2, ← ht, w3, w4, w5, s1, -stV_ptr, -ldV_ptr]
      obtain ⟨r, τ, a1, a2, a3⟩ := ih (({ env := lk [0, 8, 12] [.slc l 0 N, .int .u64 q', .int .i64 i], ds := [] } : Fr).put (some 52) (.int .i64 i) |>.put (some 53) (.int .i64 k) |>.put (some 12) (.int .i64 k)) (by simp) (by simp) (by simp) (by simp)
      exact ⟨r, τ, a1, (Ch.set R).trans a2, a3⟩
def X14 : D := tlD (tlD d100)
theorem addto0 (hB : B = 4294967296) (row0 : List Int) (s : Nat) (x : Int) {l N : Nat} {vb : V} {b : List Int} (hx : 0 ≤ x ∧ x < B) (db : Dg B b) (hN : row0.length = N) (hl : N < 2 ^ 30) (hsb : s + b.length ≤ N) (hT : vl B row0 + x * (B ^ s * vl B b) < B ^ row0.length) (hbr : ∀ k, vb.row = some k → k ≠ l) {B0 : D} (hB0 : B0 = b100_0) :
    ∀ (m i : Nat) (row : List Int) (c : Int) (f : Fr) (σ : St), i + m = b.length → row.length = row0.length → Dg B row → 0 ≤ c ∧ c < B → vl B row + B ^ (s + i) * c = vl B row0 + x * (B ^ s * vl B (b.take i)) → Nm σ vb b → σ.H l = some (.row 1 (row.map nE)) →
    f.ds = [] → f.env 0 = .slc l 0 N → f.env 1 = .int .i64 s → f.env 2 = .int .u32 x → f.env 3 = vb → f.env 8 = .int .u64 c → f.env 14 = vb → f.env 15 = .int .i64 b.length → f.env 16 = .int .i64 i →
    ∃ r τ, run E false [] (.d (.loop [0, 1, 2, 3, 8, 14, 15, 16] B0) :: .blk 0 :: [.d (.kb [0, 1, 3, 8] X14)]) f σ = some (.ret (.tup []), τ) ∧ Ch σ τ l r ∧ Dg B r ∧ r.length = row0.length ∧ vl B r = vl B row0 + x * (B ^ s * vl B b)
  | 0, i, row, c, f, σ, hi, hr, dr, hc, hv, hb, hH, hd, e0, e1, e2, e3, e8, e14, e15, e16 => by
    rw [show b.take i = b from List.take_of_length_le (by omega), show i = b.length by omega] at hv
    rw [r_loopU hB0]
    have h : ¬ i < b.length := by omega
    obtain ⟨k, hk⟩ : ∃ k, k = s + b.length := ⟨_, rfl⟩
    have hw : IntKind.i64.wrap ((s : Int) + b.length) = (k : Int) := by rw [IntWalk.i64_in _ (by omega)]; omega
    rw [← hk] at hv
    have a1 := fun f => addto1 (E := E) hB _ (l := l) (N := N) (B1 := b100_1) rfl (row.length - k) k row c f σ (by omega) (by omega) hl dr hc hv (by rw [hr]; exact hT) hH
    simp [b100_0, hd, e0, e1, e2, e3, e8, e14, e15, e16, h, X14, tlD, d100, hb.len, hw]
    simp only [hr] at a1
    exact a1 _ (by simp) (by simp) (by simp) (by simp)
  | m + 1, i, row, c, f, σ, hi, hr, dr, hc, hv, hb, hH, hd, e0, e1, e2, e3, e8, e14, e15, e16 => by
    have hr0 := dr.place (show 0 < B by omega) ((s + i : Nat) : Int)
    have hy := db.place (show 0 < B by omega) (i : Int)
    have hil : i < b.length := by omega
    obtain ⟨z, hz⟩ : ∃ z, z = rd row ((s + i : Nat) : Int) := ⟨_, rfl⟩
    obtain ⟨y, hyy⟩ : ∃ y, y = rd b i := ⟨_, rfl⟩
    rw [← hz] at hr0
    rw [← hyy] at hy
    have hf := mul_fits (x := x) (y := y) (r := z) (c := c) (by omega) (by omega) (by omega) (by omega)
    have hq : (x * y + z + c) / B < B := Int.ediv_lt_of_lt_mul (by omega) (by rw [hB]; omega)
    have hm0 := Int.emod_nonneg (x * y + z + c) (show B ≠ 0 by omega)
    have hm1 := Int.emod_lt_of_pos (x * y + z + c) (show 0 < B by omega)
    have hs : vl B (row.set (s + i) ((x * y + z + c) % B)) + B ^ (s + (i + 1)) * ((x * y + z + c) / B) = vl B row0 + x * (B ^ s * vl B (b.take (i + 1))) := by
      rw [vl_set row (s + i) _ (by omega), vl_take_succ, ← Nat.add_assoc, Int.pow_succ, ← hz, ← hyy]
      have h1 := Int.emod_add_mul_ediv (x * y + z + c) B
      have h2 : B ^ (s + i) = B ^ s * B ^ i := Int.pow_add _ _ _
      generalize B ^ (s + i) = P at *
      generalize (x * y + z + c) % B = q at *
      generalize (x * y + z + c) / B = q' at *
      generalize B ^ s = S at *
      generalize B ^ i = I at *
      clear hN hT hbr hB0 hi hr dr hb hH hd e0 e1 e2 e3 e8 e14 e15 e16 hf hm0 hm1 hq hz hyy
      grind
    obtain ⟨j, hj⟩ : ∃ j, j = s + i := ⟨_, rfl⟩
    have i0 := hb.at (k := .i64) hil
    have l0 := hb.ld hil
    rw [← hyy] at l0
    have i1 : iaV σ 1 (.slc l 0 N) (.int .i64 j) = some (.ptr l j 0) := row_at hH (by omega) (by omega)
    have l1 := row_ld hH (i := j) (by omega)
    rw [hj, ← hz, ← hj] at l1
    have w1 : IntKind.u64.wrap x = x := u64id (by omega) (by omega)
    have w2 : IntKind.u64.wrap y = y := u64id (by omega) (by omega)
    have w3 : IntKind.u64.wrap (x * y) = x * y := u64id (by omega) (by omega)
    have w4 : IntKind.u64.wrap z = z := u64id (by omega) (by omega)
    have w5 : IntKind.u64.wrap (x * y + z) = x * y + z := u64id (by omega) (by omega)
    have w6 : IntKind.u64.wrap (x * y + z + c) = x * y + z + c := u64id (by omega) (by omega)
    have w7 : IntKind.i64.wrap ((s : Int) + i) = (j : Int) := by rw [IntWalk.i64_in _ (by omega)]; omega
    have w8 : IntKind.i64.wrap ((i : Int) + 1) = ((i + 1 : Nat) : Int) := by rw [IntWalk.i64_in _ (by omega)]; omega
    obtain ⟨p, hp⟩ : ∃ p, p = x * y := ⟨_, rfl⟩
    rw [← hp] at w3 w5 w6 hq hm0 hm1 hs hf
    obtain ⟨pz, hpz⟩ : ∃ p', p' = p + z := ⟨_, rfl⟩
    rw [← hpz] at w5 w6 hq hm0 hm1 hs hf
    obtain ⟨t, ht⟩ : ∃ t, t = pz + c := ⟨_, rfl⟩
    rw [← ht] at w6 hq hm0 hm1 hs hf
    have w9 : IntKind.u32.wrap t = t % B := by rw [wrap_u32, hB]
    have w10 : t.fdiv (2 ^ min 32 IntKind.u64.bits) = t / B := by rw [fd32 t (by omega), hB]
    have s1 := row_st hH (i := j) (by omega) (t % B)
    rw [← hj] at hs
    have ih := fun f => addto0 (l := l) hB row0 s x hx db hN hl hsb hT hbr hB0 m (i + 1) (row.set j (t % B)) (t / B) f (σ.set l (.row 1 ((row.set j (t % B)).map nE))) (by omega) (by simpa using hr) (dr.set hm0 hm1) ⟨Int.ediv_nonneg (by omega) (by omega), hq⟩ hs ((Ch.set _).nm hb hbr) (by simp)
    obtain ⟨R, hR⟩ : ∃ R, R = row.set j (t % B) := ⟨_, rfl⟩
    obtain ⟨q, hqq⟩ : ∃ q, q = t % B := ⟨_, rfl⟩
    obtain ⟨q', hq'⟩ : ∃ q, q = t / B := ⟨_, rfl⟩
    rw [← hR, ← hqq] at s1
    rw [← hqq] at w9
    rw [← hq'] at w10
    simp only [← hR, ← hq'] at ih
    obtain ⟨k, hk⟩ : ∃ k, k = i + 1 := ⟨_, rfl⟩
    simp only [← hk] at w8 ih
    rw [r_loopU hB0]
    have fin : ∀ f : Fr, f.ds = [] → f.env 0 = .slc l 0 N → f.env 1 = .int .i64 s → f.env 2 = .int .u32 x → f.env 3 = vb → f.env 8 = .int .u64 q' → f.env 14 = vb → f.env 15 = .int .i64 b.length → f.env 16 = .int .i64 k → ∃ r τ, run E false [] (.d (.loop [0, 1, 2, 3, 8, 14, 15, 16] B0) :: .blk 0 :: [.d (.kb [0, 1, 3, 8] X14)]) f (σ.set l (.row 1 (R.map nE))) = some (.ret (.tup []), τ) ∧ Ch σ τ l r ∧ Dg B r ∧ r.length = row0.length ∧ vl B r = vl B row0 + x * (B ^ s * vl B b) := fun f a0 a1 a2 a3 a4 a5 a6 a7 a8 => by
      obtain ⟨r, τ, z1, z2, z3⟩ := ih f a0 a1 a2 a3 a4 a5 a6 a7 a8
      exact ⟨r, τ, z1, (Ch.set R).trans z2, z3⟩
    clear ih
    show ∃ r τ, _ ∧ Ch σ τ l r ∧ _
    simp [b100_0, hd, e0, e1, e2, e3, e8, e14, e15, e16, hil, i0, l0, i1, l1, w1, w2, w3, w4, ← hp, w5, w6, ← hpz, ← ht, w7, w8, w9, w10, s1, -stV_ptr, -ldV_ptr]
    exact fin _ (by simp) (by simp) (by simp) (by simp) (by simp) (by simp) (by simp) (by simp) (by simp)
theorem addto_ev (hT0 : E.T = T) (hB : B = 4294967296) {σ : St} {row : List Int} {s l N : Nat} {x : Int} {vb : V} {b : List Int} (hH : σ.H l = some (.row 1 (row.map nE))) (hb : Nm σ vb b) (hbr : ∀ k, vb.row = some k → k ≠ l) (hx : 0 ≤ x ∧ x < B) (dr : Dg B row) (db : Dg B b) (hN : row.length = N) (hl : N < 2 ^ 30) (hsb : s + b.length ≤ N) (hT : vl B row + x * (B ^ s * vl B b) < B ^ row.length) :
    ∃ r τ, ev E 100 [.slc l 0 N, .int .i64 s, .int .u32 x, vb] σ = some (.ret (.tup []), τ) ∧ Ch σ τ l r ∧ Dg B r ∧ r.length = row.length ∧ vl B r = vl B row + x * (B ^ s * vl B b) := by
  suffices h : ∃ r τ, run E false f100.res [.d f100.body] ⟨envOf [.slc l 0 N, .int .i64 s, .int .u32 x, vb], []⟩ σ = some (.ret (.tup []), τ) ∧ Ch σ τ l r ∧ Dg B r ∧ r.length = row.length ∧ vl B r = vl B row + x * (B ^ s * vl B b) by
    obtain ⟨r, τ, h, k⟩ := h
    exact ⟨r, τ, ev_raw (fd := f100) (by rw [hT0]; rfl) (by simp [f100]) rfl h, k⟩
  have k := fun f => addto0 (E := E) (l := l) (N := N) hB row s x hx db hN hl hsb hT hbr rfl b.length 0 row 0 f σ (by omega) rfl dr (by omega) (by simp [vl]) hb hH
  have hX : f100.body = subD 2 d100 X14 := rfl
  rw [hX]
  simp [f100, d100, subD, hb.len]
  exact k _ (by simp) (by simp) (by simp) (by simp) (by simp) (by simp) (by simp) (by simp) (by simp)
end Go.Proofs.YtmkgmjdbgjiehaaDoor
namespace Go.Proofs.YtmkgmjdbgjiehaaDoor
open Go.Proofs.YtmkgmjdbgjiehaaDoor.Ab
set_option linter.unusedVariables false
set_option linter.unusedSimpArgs false
attribute [local simp] Gr.refl Gr.new Gr.set Gr.kill Nat.add_assoc r_cks chk wantG
variable {E : En Tryd.prog} {B : Int}
theorem Nm.old_ne {σ0 : St} {v : V} {l : Nat} (ho : v.old σ0) (hl : σ0.n ≤ l) : ∀ k, v.row = some k → k ≠ l := fun k hk => by
  cases v <;> simp [V.row] at hk
  subst hk
  have := ho _ _ _ rfl
  omega
def MulQ (B : Int) (σ0 : St) (l : Nat) (a b : List Int) (f' : Fr) (σ' : St) : Prop := ∃ X : List Int, X.length = a.length + b.length ∧ Dg B X ∧ vl B X = vl B a * vl B b ∧ Gr σ0 σ' ∧ σ'.H l = some (.row 1 (X.map nE)) ∧ l < σ'.n ∧ f'.ds = [] ∧ f'.env 5 = .slc l 0 (a.length + b.length)
theorem mul_loop (hT : E.T = T) (hB : B = 4294967296) {σ0 : St} {va vb : V} {a b : List Int} (ha : Nm σ0 va a) (hao : va.old σ0) (hb : Nm σ0 vb b) (hbo : vb.old σ0) (hal : a.length + b.length < 2 ^ 30) (da : Dg B a) (db : Dg B b) {l : Nat} (hl0 : σ0.n ≤ l) {dd : Bool} {rs : List RC} {st : List SE} {B0 : D} (hB0 : B0 = b95_0) :
    ∀ (m i : Nat) (row : List Int) (f : Fr) (σ : St), i + m = a.length → row.length = a.length + b.length → Dg B row → vl B row = vl B (a.take i) * vl B b → Gr σ0 σ → σ.H l = some (.row 1 (row.map nE)) → l < σ.n →
      f.ds = [] → f.env 1 = vb → f.env 5 = .slc l 0 (a.length + b.length) → f.env 26 = va → f.env 27 = .int .i64 a.length → f.env 28 = .int .i64 i →
      Lands E dd rs st (MulQ B σ0 l a b) (run E dd rs (.d (.loop [1, 5, 26, 27, 28] B0) :: .blk 0 :: st) f σ)
  | 0, i, row, f, σ, hi, hr, dr, hv, hg, hH, hln, hd, e1, e5, e26, e27, e28 => by
    rw [r_loopU hB0]
    have h : ¬ i < a.length := by omega
    simp [b95_0, hd, e1, e5, e26, e27, e28, h]
    exact .here ⟨row, hr, dr, by rw [hv, List.take_of_length_le (by omega)], hg, hH, hln, by simp, by simp⟩
  | m + 1, i, row, f, σ, hi, hr, dr, hv, hg, hH, hln, hd, e1, e5, e26, e27, e28 => by
    have h : i < a.length := by omega
    have hx := da.place (show 0 < B by omega) (i : Int)
    have e : vl B row + rd a i * (B ^ i * vl B b) = vl B (a.take (i + 1)) * vl B b := by rw [hv, vl_take_succ]; grind
    have hT1 : vl B row + rd a i * (B ^ i * vl B b) < B ^ row.length := by
      rw [e, hr]
      have h1 := vl_lt (show 0 < B by omega) (da.take (i + 1))
      rw [List.length_take, Nat.min_eq_left (by omega)] at h1
      have h2 := vl_lt (show 0 < B by omega) db
      have h3 := vl_nonneg (show 0 ≤ B by omega) db
      have h4 := pow_pos' (show 0 < B by omega) (i + 1)
      have h5 := Int.mul_le_mul_of_nonneg_right (show vl B (a.take (i + 1)) ≤ B ^ (i + 1) by omega) h3
      have h6 := Int.mul_lt_mul_of_pos_left h2 h4
      have h7 := pow_le (show 1 ≤ B by omega) (show i + 1 + b.length ≤ a.length + b.length by omega)
      rw [Int.pow_add _ (i + 1)] at h7
      omega
    have ha' := ha.gr hg hao
    have hb' := hb.gr hg hbo
    have hbr := Nm.old_ne hbo hl0
    obtain ⟨r, τ, k1, k2, k3, k4, k5⟩ := addto_ev hT hB (N := a.length + b.length) (s := i) hH hb' hbr hx dr db hr hal (by omega) hT1
    have i0 := ha'.at (k := .i64) h
    have l0 := ha'.ld h
    have hw : IntKind.i64.wrap ((i : Int) + 1) = ((i + 1 : Nat) : Int) := by rw [IntWalk.i64_in _ (by omega)]; omega
    have ih := fun f => mul_loop hT hB ha hao hb hbo hal da db hl0 (dd := dd) (rs := rs) (st := st) hB0 m (i + 1) r f τ (by omega) (by omega) k3 (by rw [k5, e]) (k2.gr hg hl0) k2.row (by rw [k2.n]; exact hln)
    obtain ⟨k, hk⟩ : ∃ k, k = i + 1 := ⟨_, rfl⟩
    rw [← hk] at hw
    simp only [← hk] at ih
    rw [r_loopU hB0]
    simp [b95_0, hd, e1, e5, e26, e27, e28, h, i0, l0, k1, hw]
    exact ih _ (by simp) (by simp) (by simp) (by simp) (by simp) (by simp)
theorem New.nils (σ : St) : New σ σ .nils [] := ⟨rfl, Gr.refl _, fun k hk => by simp [V.row] at hk, rfl⟩
theorem mul_ev (hT : E.T = T) (hB : B = 4294967296) {σ : St} {va vb : V} {a b : List Int} (ha : Nm σ va a) (hao : va.old σ) (hb : Nm σ vb b) (hbo : vb.old σ) (hal : a.length < 2 ^ 28) (hbl : b.length < 2 ^ 28) (da : Dg B a) (db : Dg B b) :
    ∃ u τ, ev E 95 [va, vb] σ = some (.ret u, τ) ∧ New σ τ u (cn B (vl B a * vl B b)) := by
  suffices h : ∃ u τ, run E false f95.res [.d f95.body] ⟨envOf [va, vb], []⟩ σ = some (.ret u, τ) ∧ New σ τ u (cn B (vl B a * vl B b)) by
    obtain ⟨u, τ, h, k⟩ := h
    exact ⟨u, τ, ev_raw (fd := f95) (by rw [hT]; rfl) (by simp [f95]) rfl h, k⟩
  have t1 := trim_ev hT ha (by omega)
  have t2 := trim_ev hT hb (by omega)
  have n1 := trim_nm ha
  have n2 := trim_nm hb
  have l1 := tr_length a
  have l2 := tr_length b
  have d1 := tr_Dg da
  have d2 := tr_Dg db
  have o1 : (cutV va 0 (tr a).length).old σ := V.old_cut hao 0 _
  have o2 : (cutV vb 0 (tr b).length).old σ := V.old_cut hbo 0 _
  rw [← tr_vl a, ← tr_vl b]
  obtain ⟨x, hx⟩ : ∃ x, x = tr a := ⟨_, rfl⟩
  obtain ⟨y, hy⟩ : ∃ y, y = tr b := ⟨_, rfl⟩
  rw [← hx] at t1 n1 l1 d1 o1 ⊢
  rw [← hy] at t2 n2 l2 d2 o2 ⊢
  obtain ⟨ux, hux⟩ : ∃ u, u = cutV va 0 x.length := ⟨_, rfl⟩
  obtain ⟨uy, huy⟩ : ∃ u, u = cutV vb 0 y.length := ⟨_, rfl⟩
  rw [← hux] at t1 n1 o1
  rw [← huy] at t2 n2 o2
  by_cases hx0 : x.length = 0
  · have hz : cn B (vl B x * vl B y) = [] := by rw [vl_empty hx0, Int.zero_mul]; exact cn_zero (Int.le_refl _)
    rw [hz]
    exact ⟨.nils, σ, by simp [f95, d95, t1, t2, n1.len, n2.len, hx0], New.nils σ⟩
  by_cases hy0 : y.length = 0
  · have hz : cn B (vl B x * vl B y) = [] := by rw [vl_empty hy0, Int.mul_zero]; exact cn_zero (Int.le_refl _)
    rw [hz]
    exact ⟨.nils, σ, by simp [f95, d95, t1, t2, n1.len, n2.len, hx0, hy0], New.nils σ⟩
  obtain ⟨n, hn⟩ : ∃ n, n = x.length + y.length := ⟨_, rfl⟩
  have hw : IntKind.i64.wrap ((x.length : Int) + y.length) = (n : Int) := by rw [IntWalk.i64_in _ (by omega)]; omega
  obtain ⟨s1, hs1⟩ : ∃ s1, s1 = σ.new (.row 1 (List.replicate n [.int .u32 0])) := ⟨_, rfl⟩
  have g1 : Gr σ s1 := by rw [hs1]; exact (Gr.refl σ).new _
  have hrb : (4 : Int) * n ≤ reach := by simp [reach]; omega
  have hrb2 : (n : Int) ≤ reach := by simp [reach]; omega
  have hmk : mkslV σ 4 [.int .u32 0] (.int .i64 n) (.int .i64 n) = some (.slc σ.n 0 n, s1) := by
    rw [mkslV_int, hs1, if_pos ⟨by omega, by omega, hrb, hrb2⟩]; simp
  have hH : s1.H σ.n = some (.row 1 ((List.replicate (x.length + y.length) (0 : Int)).map nE)) := by rw [hs1]; simp [hn, nE]
  have ha' := n1.gr g1 o1
  simp [f95, d95, t1, t2, n1.len, n2.len, hx0, hy0, hw, hmk, -mkslV_int]
  refine Lands.to (C := fun r => ∃ u τ, r = some (CO.ret u, τ) ∧ New σ τ u (cn B (vl B x * vl B y))) (mul_loop hT hB n1 o1 n2 o2 (by omega) d1 d2 (Nat.le_refl σ.n) rfl x.length 0 _ _ s1 (by omega) (by simp) (.zeros (by omega) _) (by rw [vl_zeros]; simp [vl]) g1 hH (by rw [hs1]; simp) (by simp) (by simp) (by simp [hn]) (by simp) (by simp [ha'.len]) (by simp)) ?_
  rintro f' σ' ⟨X, h1, h2, h3, h5, h6, h7, h8, h9⟩
  have hnew := New.row (N := x.length + y.length) h6 h1.symm h5 (Nat.le_refl _) h7
  have htr := trim_ev hT hnew.rd (by omega)
  have hfin := hnew.trim
  have hcn : tr X = cn B (vl B x * vl B y) := by rw [tr_cn (B := B) (by omega) h2, h3]
  rw [hcn] at htr hfin
  exact ⟨_, σ', by simp [h8, h9, htr], hfin⟩
end Go.Proofs.YtmkgmjdbgjiehaaDoor
namespace Go.Proofs.YtmkgmjdbgjiehaaDoor
open Go.Proofs.YtmkgmjdbgjiehaaDoor.Ab

set_option linter.unusedVariables false
set_option linter.unusedSimpArgs false
def limbOf : List V → Option Int
  | [.int .u32 n] => some n
  | _ => none
theorem limb_map : ∀ (l : List Int), (l.map nE).mapM limbOf = some l
  | [] => rfl
  | x :: l => by rw [List.map_cons, List.mapM_cons]; simp [nE, limbOf, limb_map l]
theorem limb_of : ∀ {es : List (List V)} {l : List Int}, es.mapM limbOf = some l → es = l.map nE
  | [], l, h => by simp at h; subst h; rfl
  | e :: es, l, h => by
    rw [List.mapM_cons] at h
    simp only [Option.bind_eq_bind, Option.bind_eq_some_iff, Option.pure_def, Option.some.injEq] at h
    obtain ⟨x, hx, xs, hxs, rfl⟩ := h
    rw [List.map_cons, ← limb_of hxs]
    congr 1
    unfold limbOf at hx
    split at hx <;> simp at hx
    subst hx; rfl
def boxL (σ : St) (c : V) : Option (List Int) := (ldV σ c).bind fun v => (cont σ 1 v).bind fun es => es.mapM limbOf
theorem boxL_of {σ : St} {c v : V} {l : List Int} (h : ldV σ c = some v) (hv : Nm σ v l) : boxL σ c = some l := by
  have hc : cont σ 1 v = some (l.map nE) := hv
  unfold boxL
  rw [h]
  simp only [Option.bind_some, hc]
  exact limb_map l
theorem boxL_inv {σ : St} {c : V} {l : List Int} (h : boxL σ c = some l) : ∃ v, ldV σ c = some v ∧ Nm σ v l := by
  unfold boxL at h
  obtain ⟨v, h1, h⟩ := Option.bind_eq_some_iff.1 h
  obtain ⟨es, h2, h3⟩ := Option.bind_eq_some_iff.1 h
  exact ⟨v, h1, by unfold Nm Rd; rw [h2, limb_of h3]⟩
def lx (l : List Int) : Nat → List (List V)
  | 0 => []
  | n + 1 => [.int .i64 n, .int .u32 (rd l n)] :: lx l n
theorem lx_len (l : List Int) : ∀ n, (lx l n).length = n
  | 0 => rfl
  | n + 1 => by simp [lx, lx_len l n]
theorem iter76 (c : V) (l : List Int) (hl : l.length < 2 ^ 40) : Iter Tryd.prog 76 [c] (fun σ => boxL σ c = some l) (lx l l.length) := by
  intro Y y J X σ hJ hX hY h0
  refine ccallsY_of (T_ok 76 _ rfl).1 (by simp [f76]) ?_
  simp only [f76, d76, b76_0, D.er]
  obtain ⟨v, hc, hv⟩ := boxL_inv (hJ 0 σ h0)
  have hw0 : IntKind.i64.wrap ((l.length : Int) - 1) = (l.length : Int) - 1 := IntWalk.i64_in _ (by omega)
  refine cw_seq (cw_reg ?_)
  simp [rwp, rwp1, wantG, hc, hv.len, hw0]
  refine cw_block (cw_loop (fun n f σ => ∃ m : Nat, m + n = l.length ∧ f.ds = [] ∧ f.env 0 = .func (.yield y) [] [] ∧ f.env 1 = c ∧ f.env 3 = .int .i64 ((n : Int) - 1) ∧ (lx l l.length).drop m = lx l n ∧ J m σ) l.length ⟨0, by omega, rfl, by simp, by simp, by simp, by simp, h0⟩ ?_)
  rintro n f σ ⟨m, hmn, hd, e0, e1, e3, hm, hj⟩
  obtain ⟨v, hc, hv⟩ := boxL_inv (hJ m σ hj)
  cases n with
  | zero =>
    refine cw_seq (cw_seq (cw_reg ?_))
    simp [rwp, rwp1, wantG, e3]
    refine cw_cond (t := false) (by simp) (cw_exit ?_)
    simp [Post, DLv, hd]
    obtain rfl : m = l.length := by omega
    rw [lx_len]; exact .inl hj
  | succ n =>
    refine cw_seq (cw_seq (cw_reg ?_))
    have h1 : (((n + 1 : Nat) : Int) - 1) = (n : Int) := by omega
    rw [h1] at e3
    simp [rwp, rwp1, wantG, e3]
    refine cw_cond (t := true) (by simp) (cw_skip ?_)
    have hx : (lx l l.length)[m]? = some [.int .i64 n, .int .u32 (rd l n)] := by
      have := congrArg (·[0]?) hm
      simpa [lx] using this
    have hnx : (lx l l.length).drop (m + 1) = lx l n := by rw [← List.drop_drop, hm]; rfl
    have hyl := hY m _ σ hx hj
    refine cw_seq (cw_block (cw_seq (cw_reg ?_)))
    simp [rwp, rwp1, wantG, e0, e1, e3, hc, hv.at (show n < l.length by omega), hv.ld (show n < l.length by omega)]
    refine Y.mono _ _ _ _ _ ?_ hyl
    have w1 : IntKind.i64.wrap ((n : Int) - 1) = (n : Int) - 1 := IntWalk.i64_in _ (by omega)
    rintro o σ' (⟨rfl, hj'⟩ | ⟨rfl, hj'⟩)
    · simp
      refine cw_cond (t := false) (by simp) (cw_skip ?_)
      refine cw_reg ?_
      simp [rwp, rwp1, wantG, e0, e1, e3, hd, w1]
      exact ⟨n, by omega, m + 1, by omega, by simp, hnx, hj'⟩
    · simp
      refine cw_cond (t := true) (by simp) (cw_ret ?_)
      simp [Post, DLv, hd]
      exact .inr hj'
def It76 (σ : St) (c : V) : Option (V × List (List V)) := (boxL σ c).bind fun l => if l.length < 2 ^ 40 then some (.islc 1 (l.map nE), lx l l.length) else none
def strOf : List V → Option (List UInt8)
  | [.str s] => some s
  | _ => none
def strL (σ : St) (v : V) : Option (List (List UInt8)) := (match v with
  | .nils => some []
  | .slc l off len => (match σ.H l with
    | some (.row 1 es) => if off + len ≤ es.length then some ((es.drop off).take len) else none
    | _ => none)
  | .islc 1 es => some es
  | _ => none).bind fun es => es.mapM strOf
open Classical in
noncomputable def BtF (k : FuncId) (vs : List V) (σ : St) : Option V :=
  if k = 20 then (match vs with
    | [v, .str sep] => (strL σ v).bind fun l => if l.length ≤ 140737488355328 ∧ (Lib.join l sep).length ≤ 140737488355328 then some (.str (Lib.join l sep)) else none
    | _ => none)
  else if k = 34 then (match vs with
    | [.int .i64 n] => if 0 ≤ n ∧ n < 2 ^ 63 ∧ Lib.TabIs Tryd.prog σ.W "internal/strconv.uint64pow10" .u64 Lib.pow10Tab then some (.str (Lib.decDigits n.toNat)) else none
    | _ => none)
  else none
noncomputable def ET : En Tryd.prog := ⟨T, fun gf cap σ => if gf = 76 then (match cap with | [c] => It76 σ c | _ => none) else none, BtF, fun _ _ _ _ => none⟩
theorem It26_inv {σ : St} {c : V} {ky : V} {xs : List (List V)} (h : It76 σ c = some (ky, xs)) : ∃ l, boxL σ c = some l ∧ l.length < 2 ^ 40 ∧ ky = .islc 1 (l.map nE) ∧ xs = lx l l.length := by
  unfold It76 at h
  obtain ⟨b, h1, h2⟩ := Option.bind_eq_some_iff.1 h
  split at h2
  · rename_i hl
    simp only [Option.some.injEq, Prod.mk.injEq] at h2
    exact ⟨b, h1, hl, h2.1.symm, h2.2.symm⟩
  · simp at h2
theorem map_nE_inj {a b : List Int} (h : a.map nE = b.map nE) : a = b := by
  have h1 := limb_map a
  rw [h, limb_map b] at h1
  exact (Option.some.inj h1).symm
theorem limbs_ev {σ : St} {v : V} (hv : v.scal = true) : ev ET 63 [v] σ = some (.ret (.func (.func 76) [] [.ptr σ.n 0 0]), σ.new (.row 1 [[v]])) := by
  refine ev_raw (fd := f63) rfl (by simp [f63]) rfl ?_
  simp [f63, d63, boxV_v σ v hv]
theorem it_box {σ : St} {p : Nat} {v : V} {l : List Int} (h : σ.H p = some (.row 1 [[v]])) (hv : Nm σ v l) (hl : l.length < 2 ^ 40) : ET.It 76 [.ptr p 0 0] σ = some (.islc 1 (l.map nE), lx l l.length) := by
  simp only [ET, if_true]
  unfold It76
  rw [boxL_of (v := v) (by simp [h]) hv]
  simp [hl]
end Go.Proofs.YtmkgmjdbgjiehaaDoor
namespace Go.Proofs.YtmkgmjdbgjiehaaDoor
open Go.Proofs.YtmkgmjdbgjiehaaDoor.Ab
set_option linter.unusedVariables false
set_option linter.unusedSimpArgs false
attribute [local simp] Gr.refl Gr.new Gr.set Gr.kill Nat.add_assoc r_cks chk wantG
variable {B : Int}
theorem join_n {x y : Int} (hx : 0 ≤ x ∧ x < 4294967296) (hy : 0 ≤ y ∧ y < 4294967296) : IntKind.u64.wrap ↑((x * 4294967296 % 2 ^ IntKind.u64.bits).toNat ||| (y % 2 ^ IntKind.u64.bits).toNat) = x * 4294967296 + y := by
  have e : (2 : Int) ^ IntKind.u64.bits = 18446744073709551616 := by simp [IntKind.bits]
  rw [e, Int.emod_eq_of_lt (by omega) (by omega), Int.emod_eq_of_lt (by omega) (by omega)]
  have h3 : (x * 4294967296).toNat = 2 ^ 32 * x.toNat := by omega
  rw [h3, ← Nat.two_pow_add_eq_or_of_lt (show y.toNat < 2 ^ 32 by omega), wrap_u64]
  omega
theorem shl32 {x : Int} (hx : 0 ≤ x ∧ x < 4294967296) : IntKind.u64.wrap (x * 2 ^ min 32 IntKind.u64.bits) = x * 4294967296 := by
  rw [show min 32 IntKind.u64.bits = 32 from by simp [IntKind.bits], wrap_u64]
  omega
structure ShI (σ0 σ : St) (e : Env) (m p N : Nat) (va : V) (d rest : Int) (Q : List Int) (lq : Nat) : Prop where
  gr : Gr σ0 σ
  q : σ0.n ≤ p ∧ p ≠ m ∧ σ0.n ≤ m
  hm : σ.H m = some (.lp .busy)
  hp : σ.H p = some (.row 1 [[va]])
  hq : σ.H lq = some (.row 1 (Q.map nE)) ∧ Q.length = N ∧ lq ≠ m ∧ lq ≠ p ∧ σ0.n ≤ lq ∧ lq < σ.n
  rs : ∃ r3 r6 r7, e 3 = .ptr r3 0 0 ∧ e 6 = .ptr r6 0 0 ∧ e 7 = .ptr r7 0 0 ∧ σ.H r3 = some (.row 1 [[.int .u32 d]]) ∧ σ.H r6 = some (.row 1 [[.slc lq 0 N]]) ∧ σ.H r7 = some (.row 1 [[.int .u64 rest]]) ∧
    r3 ≠ lq ∧ r6 ≠ lq ∧ r7 ≠ lq ∧ r3 ≠ r7 ∧ r6 ≠ r7 ∧ r7 ≠ m ∧ r7 ≠ p ∧ r6 ≠ m ∧ σ0.n ≤ r7
def ShQ (σ0 : St) (e : Env) (m p : Nat) (va : V) (l : List Int) (d : Int) (lq : Nat) (B : Int) (f' : Fr) (σ' : St) : Prop := f'.ds = [.coll] ∧ f'.env = e ∧ ∃ σ2 rest Q, ShI σ0 σ2 e m p l.length va d rest Q lq ∧ Dg B Q ∧ (0 ≤ rest ∧ rest < d) ∧ vl B Q * d + rest = vl B l ∧ σ' = σ2.kill m
theorem short_loop (hB : B = 4294967296) {σ0 : St} {va : V} {l : List Int} (ha : Nm σ0 va l) (hao : va.old σ0) (dl : Dg B l) (hl : l.length < 2 ^ 30) {d : Int} (hd : 0 < d ∧ d < B) {e : Env} {m p lq : Nat} {A B1 : D} (hA : A = b68_0) (hB1 : B1 = b68_1) {st : List SE} :
    ∀ (n k : Nat) (qs : List Int) (rest : Int) (f : Fr) (σ : St), n + k = l.length → qs.length = k → Dg B qs → 0 ≤ rest ∧ rest < d → vl B qs * d + rest = vl B (l.drop n) → ShI σ0 σ e m p l.length va d rest (List.replicate n 0 ++ qs) lq →
      Lands ET false [.t 4, .t 5] st (ShQ σ0 e m p va l d lq B) (run ET false [.t 4, .t 5] (.rnd e [] m [16, 17] A B1 76 [.ptr p 0 0] (.islc 1 (l.map nE)) (lx l l.length) k :: .blk 0 :: st) f σ)
  | 0, k, qs, rest, f, σ, hn, hqs, dq, hr, hv, hI => by
    have g1 : Nm (σ.set m (.lp .ready)) va l := ha.gr (hI.gr.set hI.q.2.2 _) hao
    rw [rnd_end hI.hm (it_box (v := va) (by simp [hI.q.2.1, hI.hp]) g1 (by omega)) (by rw [List.getElem?_eq_none]; rw [lx_len]; omega)]
    simp
    refine .here ⟨rfl, rfl, σ, rest, qs, by simpa using hI, dq, hr, by simpa using hv, rfl⟩
  | n + 1, k, qs, rest, f, σ, hn, hqs, dq, hr, hv, hI => by
    obtain ⟨r3, r6, r7, a3, a6, a7, c3, c6, c7, n1, n2, n3, n4, n5, n6, n7, n8, n9⟩ := hI.rs
    obtain ⟨q1, q2, q3, q4, q5, q6⟩ := hI.hq
    have g1 : Nm (σ.set m (.lp .ready)) va l := ha.gr (hI.gr.set hI.q.2.2 _) hao
    have hdrop : ∀ n k, n + k = l.length → (lx l l.length)[k]? = (lx l n)[0]? := by
      intro n k h
      have : ∀ N, n ≤ N → N ≤ l.length → (lx l N)[N - n]? = (lx l n)[0]? := by
        intro N h1 _
        induction N with
        | zero => obtain rfl : n = 0 := by omega
                  rfl
        | succ N ih =>
          rcases Nat.lt_or_ge N n with h2 | h2
          · obtain rfl : n = N + 1 := by omega
            simp
          · rw [show N + 1 - n = (N - n) + 1 by omega]
            simp only [lx, List.getElem?_cons_succ]
            exact ih h2 (by omega)
      have := this l.length (by omega) (Nat.le_refl _)
      rwa [show l.length - n = k by omega] at this
    have hat : (lx l l.length)[k]? = some [.int .i64 n, .int .u32 (rd l n)] := by rw [hdrop (n + 1) k hn]; rfl
    rw [rnd_at (e' := (setPs e [16, 17] [.int .i64 n, .int .u32 (rd l n)]).put (some 8) (.int .i64 n) |>.put (some 9) (.int .u32 (rd l n))) hB1 hI.hm (it_box (v := va) (by simp [hI.q.2.1, hI.hp]) g1 (by omega)) hat rfl (by rw [hA]; rfl)]
    have e31 : ∀ (t : Nat), ((setPs e [16, 17] [.int .i64 n, .int .u32 (rd l n)]).put (some 8) (.int .i64 n) |>.put (some 9) (.int .u32 (rd l n))) t = if t = 9 then .int .u32 (rd l n) else if t = 8 then .int .i64 n else (if t = 17 then .int .u32 (rd l n) else if t = 16 then .int .i64 n else e t) := fun t => rfl
    generalize ((setPs e [16, 17] [.int .i64 n, .int .u32 (rd l n)]).put (some 8) (.int .i64 n) |>.put (some 9) (.int .u32 (rd l n))) = e' at e31
    have hx := dl.place (show 0 < B by omega) (n : Int)
    have e2 := vl_drop (B := B) (l := l) (i := n) (by omega)
    obtain ⟨x, hxx⟩ : ∃ x, x = rd l n := ⟨_, rfl⟩
    simp only [← hxx] at hx e2 e31
    have w1 : IntKind.u64.wrap (rest * 2 ^ min 32 IntKind.u64.bits) = rest * 4294967296 := shl32 (by omega)
    have w2 : IntKind.u64.wrap x = x := u64id (by omega) (by omega)
    have w3 := join_n (x := rest) (y := x) (by omega) (by omega)
    obtain ⟨hi, hhi⟩ : ∃ h, h = rest * 4294967296 := ⟨_, rfl⟩
    rw [← hhi] at w1 w3
    obtain ⟨t, ht⟩ : ∃ t, t = hi + x := ⟨_, rfl⟩
    rw [← ht] at w3
    have hlt : t < d * 4294967296 := by omega
    have hq0 : 0 ≤ t / d := Int.ediv_nonneg (by omega) (by omega)
    have hq1 : t / d < 4294967296 := Int.ediv_lt_of_lt_mul hd.1 (by omega)
    have hm' := Int.emod_add_mul_ediv t d
    have hm0 := Int.emod_nonneg t (show d ≠ 0 by omega)
    have hm1 := Int.emod_lt_of_pos t hd.1
    have w4 : IntKind.u64.wrap d = d := u64id (by omega) (by omega)
    have w5 : Int.tdiv t d = t / d := tdiv10 (by omega)
    have w6 : Int.tmod t d = t % d := tmod10 (by omega)
    have w7 : IntKind.u64.wrap (t / d) = t / d := u64id hq0 (by omega)
    have w8 : IntKind.u32.wrap (t / d) = t / d := by rw [wrap_u32]; omega
    have hd0 : ¬ d = 0 := by omega
    have i1 : iaV σ 1 (.slc lq 0 l.length) (.int .i64 n) = some (.ptr lq n 0) := row_at q1 q2.symm (by omega)
    have s1 := row_st q1 (i := n) (by omega) (t / d)
    have hset : (List.replicate (n + 1) 0 ++ qs).set n (t / d) = List.replicate n 0 ++ (t / d) :: qs := by
      rw [List.replicate_succ', List.append_assoc, List.set_append_right _ _ (by simp)]
      simp
    rw [hset] at s1
    have hv' : vl B (t / d :: qs) * d + t % d = vl B (l.drop n) := by
      rw [vl_cons, e2, ← hv]
      generalize t / d = q at *
      generalize t % d = mm at *
      generalize vl B qs = vq at *
      rw [hB]
      have : mm + d * q = rest * 4294967296 + x := by omega
      grind
    obtain ⟨qd, hqd⟩ : ∃ q, q = t / d := ⟨_, rfl⟩
    obtain ⟨md, hmd⟩ : ∃ q, q = t % d := ⟨_, rfl⟩
    rw [← hqd] at w5 w7 w8 s1 hv' hq0 hq1
    rw [← hmd] at w6 hv' hm0 hm1
    obtain ⟨R, hR⟩ : ∃ R, R = List.replicate n 0 ++ qd :: qs := ⟨_, rfl⟩
    rw [← hR] at s1
    have dq' : Dg B (qd :: qs) := by
      intro y hy
      rcases List.mem_cons.1 hy with rfl | hy
      · exact ⟨hq0, by omega⟩
      · exact dq y hy
    have hRl : R.length = l.length := by rw [hR]; simp; omega
    have s2 : stV (σ.set lq (.row 1 (R.map nE))) 1 (.ptr r7 0 0) (.int .u64 md) = some ((σ.set lq (.row 1 (R.map nE))).set r7 (.row 1 [[.int .u64 md]])) := by
      rw [stV_ptr]; simp [n3, c7, setAt]
    have ih := fun f => short_loop hB ha hao dl hl hd hA hB1 (st := st) n (k + 1) (qd :: qs) md f ((σ.set lq (.row 1 (R.map nE))).set r7 (.row 1 [[.int .u64 md]])) (by omega) (by simp [hqs]) dq' ⟨hm0, hm1⟩ hv'
      ⟨(hI.gr.set q5 _).set n9 _, hI.q, by simp [Ne.symm n6, Ne.symm q3, hI.hm], by simp [Ne.symm n7, Ne.symm q4, hI.hp], ⟨by rw [← hR]; simp [Ne.symm n3], by rw [← hR]; exact hRl, q3, q4, q5, by simpa using q6⟩, r3, r6, r7, a3, a6, a7, by simp [n1, n4, c3], by simp [n2, n5, c6], by simp, n1, n2, n3, n4, n5, n6, n7, n8, n9⟩
    simp [b68_1, e31, a3, a6, a7, c3, c6, c7, w1, w2, w3, w4, w5, w6, w7, w8, hd0, i1, s1, s2, n1, n2, n3, n4, n5, -stV_ptr]
    exact ih _
theorem short_ev (hB : B = 4294967296) {σ : St} {va : V} {l : List Int} (ha : Nm σ va l) (hao : va.old σ) (hsc : va.scal = true) (dl : Dg B l) (hl : l.length < 2 ^ 30) {d : Int} (hd : 0 < d ∧ d < B) :
    ∃ u τ, ev ET 68 [va, .int .u32 d] σ = some (.ret (.tup [u, .int .u32 (vl B l % d)]), τ) ∧ New σ τ u (cn B (vl B l / d)) := by
  suffices h : ∃ u τ, run ET false f68.res [.d f68.body] ⟨envOf [va, .int .u32 d], []⟩ σ = some (.ret (.tup [u, .int .u32 (vl B l % d)]), τ) ∧ New σ τ u (cn B (vl B l / d)) by
    obtain ⟨u, τ, h, k⟩ := h
    exact ⟨u, τ, ev_raw (fd := f68) rfl (by simp [f68]) rfl h, k⟩
  have hbx := boxV_v σ (.int .u32 d) rfl
  obtain ⟨s1, hs1⟩ : ∃ s1, s1 = (σ.new (.row 1 [[.int .u32 d]])).new (.row 1 (List.replicate l.length [.int .u32 0])) := ⟨_, rfl⟩
  have hrb : (4 : Int) * l.length ≤ reach := by simp [reach]; omega
  have hrb2 : (l.length : Int) ≤ reach := by simp [reach]; omega
  have hmk : mkslV (σ.new (.row 1 [[.int .u32 d]])) 4 [.int .u32 0] (.int .i64 l.length) (.int .i64 l.length) = some (.slc (σ.n + 1) 0 l.length, s1) := by
    rw [mkslV_int, hs1, if_pos ⟨by omega, by omega, hrb, hrb2⟩]; simp
  obtain ⟨s2, hs2⟩ : ∃ s2, s2 = (((s1.new (.row 1 [[.nils]])).set (σ.n + 2) (.row 1 [[.slc (σ.n + 1) 0 l.length]])).new (.row 1 [[.int .u64 0]])).set (σ.n + 3) (.row 1 [[.int .u64 0]]) := ⟨_, rfl⟩
  have m1 : s1.n = σ.n + 2 := by rw [hs1]; simp
  have m2 : s2.n = σ.n + 4 := by rw [hs2]; simp [m1]
  have g1 : Gr σ s1 := by rw [hs1]; exact ((Gr.refl σ).new _).new _
  have g2 : Gr σ s2 := by rw [hs2]; exact ((((g1.new _).set (by omega) _).new _).set (by omega) _)
  obtain ⟨s3, hs3⟩ : ∃ s3, s3 = s2.new (.row 1 [[va]]) := ⟨_, rfl⟩
  have m3 : s3.n = σ.n + 5 := by rw [hs3]; simp [m2]
  have g3 : Gr σ s3 := by rw [hs3]; exact g2.new _
  have hit := limbs_ev (σ := s2) hsc
  rw [← hs3] at hit
  have hla := ha.len
  show ∃ u τ, _ ∧ New σ τ u _
  simp [f68, d68, hbx, hla, hmk, -mkslV_int, m1, ← hs2, hit]
  rw [rng_in (.t 15) rfl rfl (it_box (p := s2.n) (v := va) (l := l) (by rw [hs3]; simp) (ha.gr g3 hao) (by omega))]
  have c3 : s3.H σ.n = some (.row 1 [[.int .u32 d]]) := by rw [hs3, hs2, hs1]; simp
  have cq : s3.H (σ.n + 1) = some (.row 1 ((List.replicate l.length (0 : Int) ++ []).map nE)) := by rw [hs3, hs2, hs1]; simp [nE]
  have c6 : s3.H (σ.n + 2) = some (.row 1 [[.slc (σ.n + 1) 0 l.length]]) := by rw [hs3, hs2, hs1]; simp
  have c7 : s3.H (σ.n + 3) = some (.row 1 [[.int .u64 0]]) := by rw [hs3, hs2, hs1]; simp
  have cp : s3.H s2.n = some (.row 1 [[va]]) := by rw [hs3]; simp
  refine Lands.to (C := fun r => ∃ u τ, r = some (CO.ret (.tup [u, .int .u32 (vl B l % d)]), τ) ∧ New σ τ u (cn B (vl B l / d))) (short_loop hB ha hao dl hl hd (e := lk [3, 6, 7, 15] [.ptr σ.n 0 0, .ptr (σ.n + 2) 0 0, .ptr (σ.n + 3) 0 0, .func (.func 76) [] [.ptr s2.n 0 0]]) (m := s3.n) (p := s2.n) (lq := σ.n + 1) (A := b68_0) (B1 := b68_1) rfl rfl l.length 0 [] 0 _ _ (by omega) rfl .nil (by omega) (by simp [vl])
    ⟨g3.new _, by omega, by simp, by simp [show s2.n ≠ s3.n by omega, cp], ⟨by simp [show σ.n + 1 ≠ s3.n by omega, cq], by simp, by omega, by omega, by omega, by simp; omega⟩, σ.n, σ.n + 2, σ.n + 3, by simp, by simp, by simp, by simp [show σ.n ≠ s3.n by omega, c3], by simp [show σ.n + 2 ≠ s3.n by omega, c6], by simp [show σ.n + 3 ≠ s3.n by omega, c7], by omega, by omega, by omega, by omega, by omega, by omega, by omega, by omega, by omega⟩) ?_
  rintro f' σ' ⟨q1, q2, σ2, rest, Q, hI, dQ, hr, hv, rfl⟩
  obtain ⟨r3, r6, r7, a3, a6, a7, b3, b6, b7, n1, n2, n3, n4, n5, n6, n7, n8, n9⟩ := hI.rs
  obtain ⟨p1, p2, p3, p4, p5, p6⟩ := hI.hq
  simp at a3 a6 a7
  subst a3; subst a6; subst a7
  obtain ⟨s5, hs5⟩ : ∃ s5, s5 = σ2.kill s3.n := ⟨_, rfl⟩
  have g5 : Gr σ s5 := by rw [hs5]; exact hI.gr.kill (by omega)
  have y6 : s5.H (σ.n + 2) = some (.row 1 [[.slc (σ.n + 1) 0 l.length]]) := by rw [hs5]; simp [n8, b6]
  have y7 : s5.H (σ.n + 3) = some (.row 1 [[.int .u64 rest]]) := by rw [hs5]; simp [n6, b7]
  have yq : s5.H (σ.n + 1) = some (.row 1 (Q.map nE)) := by rw [hs5]; simp [p3, p1]
  have hnew := New.row (N := l.length) yq p2.symm g5 (by omega) (by rw [hs5]; simpa using p6)
  have htr := trim_ev (E := ET) rfl hnew.rd (by omega)
  have hfin := hnew.trim
  have hq : vl B l / d = vl B Q := by
    rw [← hv, Int.mul_comm, Int.add_comm, Int.add_mul_ediv_left _ _ (by omega), Int.ediv_eq_zero_of_lt hr.1 hr.2]; omega
  have hrr : vl B l % d = rest := by
    rw [← hv, Int.mul_comm, Int.add_comm, Int.add_mul_emod_self_left, Int.emod_eq_of_lt hr.1 hr.2]
  have hcn : tr Q = cn B (vl B l / d) := by rw [tr_cn (B := B) (by omega) dQ, hq]
  rw [hcn] at htr hfin
  rw [hrr]
  have w1 : IntKind.u32.wrap rest = rest := by rw [wrap_u32]; omega
  rw [← hs5]
  refine ⟨_, s5, ?_, hfin⟩
  simp [q1, q2, y6, y7, w1, htr, fin_coll]
end Go.Proofs.YtmkgmjdbgjiehaaDoor
