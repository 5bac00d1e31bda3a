/-
The walk over the program's texts, told with what its values say: a part of it. No further condition.
-/
import Derived.Test.YtgmjeklneeljdaaAbLxD
namespace Go.Proofs.Ytgmjeklneeljdaa
open Go.Proofs.Ytgmjeklneeljdaa.Ab
set_option linter.unusedVariables false
set_option linter.unusedSimpArgs false
variable {E : En Try.prog}
attribute [local simp] Gr.refl Gr.new Gr.set Gr.kill Nat.add_assoc r_cks chk wantG
theorem Rd_cla {σ : St} {z : Nat} {v : V} {es : List (List V)} (h : Rd σ z v es) {i j m : Nat} {e : List V} (he : es[i]? = some e) (hm : j + m ≤ e.length) : ldaV σ m (celA v i j) = some (.agg ((e.drop j).take m)) := by
  have hi : i < es.length := (List.getElem?_eq_some_iff.1 he).1
  rcases h.inv with ⟨rfl, rfl⟩ | rfl | ⟨l, off, rows, rfl, h1, h2, h3⟩
  · simp at he
  · simp [elA, celA, he, hm]
  · have : rows[off + i]? = some e := by
      rw [h3, List.getElem?_take, List.getElem?_drop] at he
      simpa [hi] using he
    simp [elA, celA, h1, this, hm]
def pa1 : List UInt8 := [97, 60, 61, 98, 49, 32, 47, 47, 32, 99]
def paL : List (List V) := [[.int .i64 1, .str [97], .int .i64 0, .int .i64 1], [.int .i64 4, .str [60, 61], .int .i64 1, .int .i64 3], [.int .i64 1, .str [98, 49], .int .i64 3, .int .i64 5], [.int .i64 0, .str [], .int .i64 10, .int .i64 10]]
theorem pa1_V : tokensV pa1 = .tup [.islc 4 paL, .int .i64 0, .int .i64 0] := by kernel_rfl
theorem pa2_V : tokensV [120, 35] = .tup [.nils, .int .i64 1, .int .i64 20] := by kernel_rfl
theorem parted_ev (hT : E.T = T) {σ : St} : ev E 5 [] σ = some (.ret (.bool true), σ) := by
  obtain ⟨s1, hs1⟩ : ∃ s1, s1 = σ.new (.row 1 (pa1.map byteE)) := ⟨_, rfl⟩
  obtain ⟨s2, hs2⟩ : ∃ s2, s2 = s1.new (.row 1 (([120, 35] : List UInt8).map byteE)) := ⟨_, rfl⟩
  have n1 : s1.n = σ.n + 1 := by rw [hs1]; simp
  have h1 := tokens_ev hT (σ := s1) (v := .slc σ.n 0 10) (b := pa1) (by rw [hs1]; simp [Bs, Rd, cont, pa1]) (fun l off len e => by simp at e; omega) (by simp [pa1])
  have h2 := tokens_ev hT (σ := s2) (v := .slc s1.n 0 2) (b := [120, 35]) (by rw [hs2]; simp [Bs, Rd, cont]) (fun l off len e => by simp at e; rw [hs2]; simp; omega) (by simp)
  have r1 : s1.H σ.n = some (.row 1 (pa1.map byteE)) := by rw [hs1]; simp
  have r2 : s2.H (σ.n + 1) = some (.row 1 (([120, 35] : List UInt8).map byteE)) := by rw [hs2]; simp [n1]
  rw [pa1_V] at h1
  rw [pa2_V] at h2
  simp [pa1, byteE] at hs1
  simp [byteE] at hs2
  have g : Gr σ s2 := by rw [hs2, hs1]; exact ((Gr.refl σ).new _).new _
  rw [n1] at h2
  obtain ⟨u, hu⟩ : ∃ u, u = V.islc 4 paL := ⟨_, rfl⟩
  rw [← hu] at h1
  have hrd : Rd s2 4 u paL := by rw [hu]; simp [Rd, cont]
  have i1 : iaV s2 4 u (.int .i64 1) = some (elA u 1) := Rd.at hrd (i := 1) (by simp [paL])
  have i2 : iaV s2 4 u (.int .i64 2) = some (elA u 2) := Rd.at hrd (i := 2) (by simp [paL])
  have hl : lenV u = some (.int .i64 4) := Rd.len hrd
  have f1 : faV 1 (elA u 1) = some (celA u 1 1) := Rd.fa hrd (by simp [paL])
  have c1 : ldV s2 (celA u 1 1) = some (.str [60, 61]) := Rd.cel hrd (i := 1) (j := 1) rfl
  have f2 : faV 2 (elA u 2) = some (celA u 2 2) := Rd.fa hrd (by simp [paL])
  have c2 : ldaV s2 2 (celA u 2 2) = some (.agg [.int .i64 3, .int .i64 5]) := Rd_cla hrd (i := 2) (j := 2) (m := 2) rfl (by simp)
  refine ev_pure (fd := f5) (o := .ret (.bool true)) (σ' := s2) (by rw [hT]; rfl) (by simp [f5]) rfl ?_ g.H g.W (by simp)
  simp [f5, d5, ← hs1, n1, h1, ← hs2, h2, r1, r2, i1, i2, f1, f2, c1, c2, hl]
end Go.Proofs.Ytgmjeklneeljdaa
namespace Go.Proofs.Ytgmjeklneeljdaa
open Go.Proofs.Ytgmjeklneeljdaa.Ab
set_option linter.unusedVariables false
set_option linter.unusedSimpArgs false
variable {E : En Try.prog}
attribute [local simp] Gr.refl Gr.new Gr.set Gr.kill Nat.add_assoc r_cks chk wantG
def intE (n : Nat) : List V := [.int .i64 n]
def marksF : Bool → List UInt8 → List Nat
  | _, [] => []
  | r, c :: t => (if offB r c t || blankB c then 1 else 0) :: marksF (offB r c t) t
theorem marks_len : ∀ (s : List UInt8) (r : Bool), (marksF r s).length = s.length
  | [], _ => rfl
  | c :: t, r => by simp [marksF, marks_len t]
theorem set_mid {α : Type} (d : List α) (x y : α) (t : List α) (i : Nat) (h : d.length = i) : (d ++ x :: t).set i y = (d ++ [y]) ++ t := by
  subst h; simp
theorem marks_loop {σ0 : St} {v : V} {b : List UInt8} (hv : Bs σ0 v b) (ho : v.old σ0) (hb : b.length < 2 ^ 40) {l : Nat} (hl0 : σ0.n ≤ l) {dd : Bool} {rs : List RC} {st : List SE} {B : D} (hB : B = b11_0) :
    ∀ (s : List UInt8) (i : Nat) (r : Bool) (d : List Nat) (f : Fr) (σ : St), b.drop i = s → d.length = i → i ≤ b.length → Gr σ0 σ → σ.H l = some (.row 1 ((d ++ List.replicate s.length 0).map intE)) → l < σ.n → f.ds = [] → f.env 0 = v → f.env 3 = .slc l 0 b.length → f.env 4 = .bool r → f.env 5 = .int .i64 i →
      Lands E dd rs st (fun f' σ' => Gr σ0 σ' ∧ σ'.H l = some (.row 1 ((d ++ marksF r s).map intE)) ∧ l < σ'.n ∧ f'.ds = [] ∧ f'.env 3 = .slc l 0 b.length) (run E dd rs (.d (.loop [0, 3, 4, 5] B) :: .blk 0 :: st) f σ)
  | [], i, r, d, f, σ, h, hd, hi, hg, hH, hln, hds, e0, e3, e4, e5 => by
    have hlen := congrArg List.length h
    simp at hlen
    obtain rfl : i = b.length := by omega
    rw [r_loopU hB]
    have hv' := hv.gr hg ho
    simp [b11_0, hds, e0, e3, e4, e5, hv'.len]
    exact .here ⟨hg, by simpa [marksF] using hH, hln, by simp, by simp⟩
  | c :: t, i, r, d, f, σ, h, hd, hi, hg, hH, hln, hds, e0, e3, e4, e5 => by
    obtain ⟨g1, g2, g3⟩ := at_drop h
    have hlen := congrArg List.length h
    simp at hlen
    have hv' := hv.gr hg ho
    have ld := hv'.ld g2
    have hit := hv'.at g1 (k := .i64)
    have hw : IntKind.i64.wrap ((i : Int) + 1) = ((i + 1 : Nat) : Int) := by rw [IntWalk.i64_in _ (by omega)]; omega
    obtain ⟨k, hk⟩ : ∃ k, k = i + 1 := ⟨_, rfl⟩
    rw [← hk] at hw g3
    have hia : iaV σ 1 (.slc l 0 b.length) (.int .i64 i) = some (.ptr l i 0) := by simp [iaV, hH, g1]
    have hget : ((d ++ List.replicate (c :: t).length 0).map intE)[i]? = some (intE 0) := by
      rw [List.getElem?_map, List.getElem?_append_right (by omega), hd, Nat.sub_self]; rfl
    have hset : ((d ++ List.replicate (c :: t).length 0).map intE).set i (intE 1) = ((d ++ [1]) ++ List.replicate t.length 0).map intE := by
      rw [List.length_cons, List.replicate_succ, List.map_append, List.map_cons, set_mid _ _ _ _ i (by simp [hd])]
      simp [intE]
    have hst : stV σ 1 (.ptr l i 0) (.int .i64 1) = some (σ.set l (.row 1 (((d ++ [1]) ++ List.replicate t.length 0).map intE))) := by
      have h0 : setAt (intE 0) 0 (V.int .i64 1).cells = intE 1 := by simp [intE, setAt]
      rw [stV_ptr, hH]
      simp only [hget, Option.bind_some, h0, hset]
      simp [intE]
    obtain ⟨R, hR⟩ : ∃ R, R = ((d ++ [1]) ++ List.replicate t.length 0).map intE := ⟨_, rfl⟩
    rw [← hR] at hst
    have yes : ∀ (r2 : Bool) (f : Fr), f.ds = [] → f.env 0 = v → f.env 3 = .slc l 0 b.length → f.env 4 = .bool r2 → f.env 5 = .int .i64 k → r2 = offB r c t → (offB r c t || blankB c) = true →
        Lands E dd rs st (fun f' σ' => Gr σ0 σ' ∧ σ'.H l = some (.row 1 ((d ++ marksF r (c :: t)).map intE)) ∧ l < σ'.n ∧ f'.ds = [] ∧ f'.env 3 = .slc l 0 b.length) (run E dd rs (.d (.loop [0, 3, 4, 5] B) :: .blk 0 :: st) f (σ.set l (.row 1 R))) := fun r2 f q0 q1 q2 q3 q4 hr hm => by
      have := marks_loop hv ho hb hl0 (dd := dd) (rs := rs) (st := st) hB t k r2 (d ++ [1]) f (σ.set l (.row 1 R)) g3 (by simp [hd, hk]) (by omega) (hg.set hl0 _) (by simp [hR]) (by simpa using hln) q0 q1 q2 q3 q4
      rw [hr] at this
      have e : marksF r (c :: t) = 1 :: marksF (offB r c t) t := by simp [marksF, hm]
      rw [e]
      simpa using this
    have no : ∀ (r2 : Bool) (f : Fr), f.ds = [] → f.env 0 = v → f.env 3 = .slc l 0 b.length → f.env 4 = .bool r2 → f.env 5 = .int .i64 k → r2 = offB r c t → (offB r c t || blankB c) = false →
        Lands E dd rs st (fun f' σ' => Gr σ0 σ' ∧ σ'.H l = some (.row 1 ((d ++ marksF r (c :: t)).map intE)) ∧ l < σ'.n ∧ f'.ds = [] ∧ f'.env 3 = .slc l 0 b.length) (run E dd rs (.d (.loop [0, 3, 4, 5] B) :: .blk 0 :: st) f σ) := fun r2 f q0 q1 q2 q3 q4 hr hm => by
      have := marks_loop hv ho hb hl0 (dd := dd) (rs := rs) (st := st) hB t k r2 (d ++ [0]) f σ g3 (by simp [hd, hk]) (by omega) hg (by rw [hH]; simp [List.replicate_succ]) hln q0 q1 q2 q3 q4
      rw [hr] at this
      have e : marksF r (c :: t) = 0 :: marksF (offB r c t) t := by simp [marksF, hm]
      rw [e]
      simpa using this
    rw [r_loopU hB]
    have hn : (r && c.toNat != 10) = true ∨ (r && c.toNat != 10) = false := by cases (r && c.toNat != 10) <;> simp
    by_cases c10 : (c.toNat : Int) = 10
    · have c10' : c.toNat = 10 := by omega
      have ho2 : offB r c t = false := by simp [offB, c10']
      cases r <;>
      · simp [b11_0, hds, e0, e3, e4, e5, hv'.len, g1, hit, ld, eq_true c10, c10', hia, hst, hw, -stV_ptr, -List.map_append]
        exact yes false _ (by simp) (by simp) (by simp) (by simp) (by simp) ho2.symm (by simp [blankB, c10'])
    have c10' : ¬ c.toNat = 10 := by omega
    cases hr : r with
    | true =>
      rw [hr] at e4 yes no
      have ho2 : offB true c t = true := by simp [offB, c10']
      simp [b11_0, hds, e0, e3, e4, e5, hv'.len, g1, hit, ld, c10, hia, hst, hw, -stV_ptr, -List.map_append]
      exact yes true _ (by simp) (by simp) (by simp) (by simp) (by simp) ho2.symm (by simp [ho2])
    | false =>
      rw [hr] at e4 yes no
      by_cases c47 : (c.toNat : Int) = 47
      · have c47' : c.toNat = 47 := by omega
        cases ht : t with
        | nil =>
          rw [ht] at g3 yes no
          have hkb : ¬ k < b.length := by simp at g3; omega
          have ho2 : offB false c [] = false := by simp [offB, slashB]
          simp [b11_0, hds, e0, e3, e4, e5, hv'.len, g1, hit, ld, c47, hkb, hia, hst, hw, -stV_ptr, -List.map_append]
          exact no false _ (by simp) (by simp) (by simp) (by simp) (by simp) ho2.symm (by simp [ho2, blankB, c47'])
        | cons d' u =>
          rw [ht] at g3 yes no
          obtain ⟨j1, j2, j3⟩ := at_drop g3
          have ld2 := hv'.ld j2
          have hit2 := hv'.at j1 (k := .i64)
          by_cases d47 : (d'.toNat : Int) = 47
          · have d47' : d'.toNat = 47 := by omega
            have ho2 : offB false c (d' :: u) = true := by simp [offB, slashB, c47', d47']
            simp [b11_0, hds, e0, e3, e4, e5, hv'.len, g1, hit, ld, c47, j1, hit2, ld2, d47, hia, hst, hw, -stV_ptr, -List.map_append]
            exact yes true _ (by simp) (by simp) (by simp) (by simp) (by simp) ho2.symm (by simp [ho2])
          · have d47' : ¬ d'.toNat = 47 := by omega
            have ho2 : offB false c (d' :: u) = false := by simp [offB, slashB, d47']
            simp [b11_0, hds, e0, e3, e4, e5, hv'.len, g1, hit, ld, c47, j1, hit2, ld2, d47, hia, hst, hw, -stV_ptr, -List.map_append]
            exact no false _ (by simp) (by simp) (by simp) (by simp) (by simp) ho2.symm (by simp [ho2, blankB, c47'])
      · have c47' : ¬ c.toNat = 47 := by omega
        have ho2 : offB false c t = false := by simp [offB, c47']
        by_cases b1 : (c.toNat : Int) = 32
        · simp [b11_0, hds, e0, e3, e4, e5, hv'.len, g1, hit, ld, c47, c10, eq_true b1, hia, hst, hw, -stV_ptr, -List.map_append]
          exact yes false _ (by simp) (by simp) (by simp) (by simp) (by simp) ho2.symm (by simp [blankB]; omega)
        by_cases b2 : (c.toNat : Int) = 9
        · simp [b11_0, hds, e0, e3, e4, e5, hv'.len, g1, hit, ld, c47, c10, b1, eq_true b2, hia, hst, hw, -stV_ptr, -List.map_append]
          exact yes false _ (by simp) (by simp) (by simp) (by simp) (by simp) ho2.symm (by simp [blankB]; omega)
        by_cases b3 : (c.toNat : Int) = 13
        · simp [b11_0, hds, e0, e3, e4, e5, hv'.len, g1, hit, ld, c47, c10, b1, b2, eq_true b3, hia, hst, hw, -stV_ptr, -List.map_append]
          exact yes false _ (by simp) (by simp) (by simp) (by simp) (by simp) ho2.symm (by simp [blankB]; omega)
        simp [b11_0, hds, e0, e3, e4, e5, hv'.len, g1, hit, ld, c47, c10, b1, b2, b3, hia, hst, hw, -stV_ptr, -List.map_append]
        exact no false _ (by simp) (by simp) (by simp) (by simp) (by simp) ho2.symm (by simp [ho2, blankB]; omega)
theorem marks_ev (hT : E.T = T) {σ : St} {v : V} {b : List UInt8} (hv : Bs σ v b) (ho : v.old σ) (hb : b.length < 2 ^ 40) :
    ev E 11 [v] σ = some (.ret (.islc 1 ((marksF false b).map intE)), σ) := by
  obtain ⟨s1, hs1⟩ : ∃ s1, s1 = σ.new (.row 1 (List.replicate b.length [.int .i64 0])) := ⟨_, rfl⟩
  have g1 : Gr σ s1 := by rw [hs1]; exact (Gr.refl σ).new _
  have hrb : (8 : Int) * b.length ≤ reach := by simp [reach]; omega
  have hrb2 : (b.length : Int) ≤ reach := by simp [reach]; omega
  have hmk : mkslV σ 8 [.int .i64 0] (.int .i64 b.length) (.int .i64 b.length) = some (.slc σ.n 0 b.length, s1) := by
    rw [mkslV_int, hs1, if_pos ⟨by omega, by omega, hrb, hrb2⟩]; simp
  suffices hr : ∃ τ u, run E false f11.res [.d f11.body] ⟨envOf [v], []⟩ σ = some (.ret u, τ) ∧ Gr σ τ ∧ u = .slc σ.n 0 b.length ∧ τ.H σ.n = some (.row 1 ((marksF false b).map intE)) by
    obtain ⟨τ, u, hr, hg, rfl, hH⟩ := hr
    refine ev_pure (fd := f11) (o := .ret (.slc σ.n 0 b.length)) (by rw [hT]; rfl) (by simp [f11]) rfl hr hg.H hg.W ?_
    have hsl : Sl τ 1 (.slc σ.n 0 b.length) ((marksF false b).map intE) := .inr ⟨σ.n, by simp [marks_len], hH⟩
    have := hsl.frz (n := fun l => decide (l < σ.n)) (fun l h => by simp [V.row] at h; simp; omega) (fun e he u hu => by
      simp at he; obtain ⟨c, _, rfl⟩ := he; simp [intE] at hu; subst hu; rfl) 3
    simpa [told] using this
  show ∃ τ u, _ ∧ Gr σ τ ∧ _
  simp [f11, d11, hv.len, hmk, -mkslV_int]
  refine Lands.to (C := fun r => ∃ τ u, r = some (CO.ret u, τ) ∧ Gr σ τ ∧ u = .slc σ.n 0 b.length ∧ τ.H σ.n = some (.row 1 ((marksF false b).map intE))) (marks_loop (σ0 := σ) hv ho hb (l := σ.n) (Nat.le_refl _) rfl b 0 false [] _ s1 rfl rfl (by omega) g1 (by rw [hs1]; simp [intE]) (by rw [hs1]; simp) (by simp) (by simp) (by simp) (by simp) (by simp)) ?_
  rintro f' σ' ⟨q0, q1, q2, q3, q4⟩
  exact ⟨_, _, by simp [q3, q4], q0, rfl, by simpa using q1⟩
end Go.Proofs.Ytgmjeklneeljdaa
namespace Go.Proofs.Ytgmjeklneeljdaa
open Go.Proofs.Ytgmjeklneeljdaa.Ab
set_option linter.unusedVariables false
set_option linter.unusedSimpArgs false
variable {E : En Try.prog}
attribute [local simp] Gr.refl Gr.new Gr.set Gr.kill Nat.add_assoc r_cks chk wantG
def spE (x : Nat × Nat) : List V := [.int .i64 x.1, .int .i64 x.2]
theorem spE_pure (l : List (Nat × Nat)) : ∀ e ∈ l.map spE, ∀ u ∈ e, u.pure = true := fun e he u hu => by
  simp at he; obtain ⟨a, b, _, rfl⟩ := he; simp [spE] at hu; rcases hu with rfl | rfl <;> rfl
/-- Where items stand, by marks. -/
def itemsM (L : Nat) : Bool → Nat → Bool → List UInt8 → List (Nat × Nat)
  | _, fr, so, [] => if so then [(fr, L)] else []
  | r, fr, so, c :: t => if offB r c t || blankB c then itemsM L (offB r c t) fr so t
    else if c.toNat = 59 then (fr, L - t.length) :: itemsM L (offB r c t) (L - t.length) false t
    else itemsM L (offB r c t) fr true t
theorem itemsM_len {L : Nat} : ∀ (s : List UInt8) (r : Bool) (fr : Nat) (so : Bool), (itemsM L r fr so s).length ≤ s.length + (if so then 1 else 0)
  | [], r, fr, so => by unfold itemsM; cases so <;> simp
  | c :: t, r, fr, so => by
    unfold itemsM
    have h1 := itemsM_len (L := L) t (offB r c t) fr so
    have h2 := itemsM_len (L := L) t (offB r c t) (L - t.length) false
    have h3 := itemsM_len (L := L) t (offB r c t) fr true
    split
    · simp at h1 ⊢; split at h1 <;> simp_all <;> omega
    · split
      · simp at h2 ⊢; omega
      · simp at h3 ⊢; omega
def ItQ (σ0 : St) (v : V) (L : Nat) (l : List (Nat × Nat)) (f' : Fr) (σ' : St) : Prop :=
  f'.ds = [] ∧ f'.env 0 = v ∧ ∃ (acc' : List (Nat × Nat)) (fr' : Nat) (so' : Bool), Own σ0 σ' 2 (f'.env 4) (acc'.map spE) ∧ f'.env 5 = .int .i64 fr' ∧ f'.env 6 = .bool so' ∧ acc'.length ≤ L ∧ acc' ++ (if so' then [(fr', L)] else []) = l
theorem itemsM_loop {σ0 : St} {v : V} {b : List UInt8} (hv : Bs σ0 v b) (ho : v.old σ0) (hb : b.length < 2 ^ 40) {dd : Bool} {rs : List RC} {st : List SE} {B : D} (hB : B = b6_0) :
    ∀ (s : List UInt8) (i : Nat) (r : Bool) (fr : Nat) (so : Bool) (acc : List (Nat × Nat)) (f : Fr) (σ : St), b.drop i = s → i ≤ b.length → (marksF false b).drop i = marksF r s → acc.length ≤ i → f.ds = [] → f.env 0 = v → f.env 3 = .islc 1 ((marksF false b).map intE) → Own σ0 σ 2 (f.env 4) (acc.map spE) → f.env 5 = .int .i64 fr → f.env 6 = .bool so → f.env 7 = .int .i64 i →
      Lands E dd rs st (ItQ σ0 v b.length (acc ++ itemsM b.length r fr so s)) (run E dd rs (.d (.loop [0, 3, 4, 5, 6, 7] B) :: .blk 0 :: st) f σ)
  | [], i, r, fr, so, acc, f, σ, h, hi, hm, ha, hds, e0, e3, hq, e5, e6, e7 => by
    have hlen := congrArg List.length h
    simp at hlen
    obtain rfl : i = b.length := by omega
    rw [r_loopU hB]
    have hv' := hv.gr hq.gr ho
    simp [b6_0, hds, e0, e3, e5, e6, e7, hv'.len]
    exact .here ⟨by simp, by simp, acc, fr, so, by simpa using hq, by simp, by simp, ha, by simp [itemsM]⟩
  | c :: t, i, r, fr, so, acc, f, σ, h, hi, hm, ha, hds, e0, e3, hq, e5, e6, e7 => by
    obtain ⟨g1, g2, g3⟩ := at_drop h
    have hlen := congrArg List.length h
    simp at hlen
    have hv' := hv.gr hq.gr ho
    have ld := hv'.ld g2
    have hit := hv'.at g1 (k := .i64)
    have hw : IntKind.i64.wrap ((i : Int) + 1) = ((i + 1 : Nat) : Int) := by rw [IntWalk.i64_in _ (by omega)]; omega
    obtain ⟨k, hk⟩ : ∃ k, k = i + 1 := ⟨_, rfl⟩
    have hkt : b.length - t.length = k := by omega
    rw [← hk] at hw g3
    have hml := marks_len b false
    have hrd : Rd σ 1 (.islc 1 ((marksF false b).map intE)) ((marksF false b).map intE) := by simp [Rd, cont]
    obtain ⟨M, hM⟩ : ∃ M, M = V.islc 1 ((marksF false b).map intE) := ⟨_, rfl⟩
    rw [← hM] at e3 hrd
    have hmit : iaV σ 1 M (.int .i64 i) = some (elA M i) := Rd.at hrd (by simpa [hml] using g1)
    have hm0 : (marksF false b)[i]? = some (if offB r c t || blankB c then 1 else 0) := by
      have := congrArg (·[0]?) hm
      simpa [marksF] using this
    have hmt : (marksF false b).drop k = marksF (offB r c t) t := by rw [hk, ← List.drop_drop, hm]; rfl
    have hmld : ldV σ (elA M i) = some (.int .i64 (if offB r c t || blankB c then 1 else 0 : Nat)) := by
      have := Rd.el hrd (i := i) (e := intE (if offB r c t || blankB c then 1 else 0)) (by rw [List.getElem?_map, hm0]; rfl)
      simpa [intE] using this
    rw [r_loopU hB]
    have ih := fun fr so acc f σ => itemsM_loop hv ho hb (dd := dd) (rs := rs) (st := st) hB t k (offB r c t) fr so acc f σ g3 (by omega) hmt
    simp only [← hM] at ih
    cases hmk : (offB r c t || blankB c) with
    | true =>
      have e : itemsM b.length r fr so (c :: t) = itemsM b.length (offB r c t) fr so t := by
        simp only [itemsM, hmk, if_true]
      rw [e]
      rw [hmk] at hmld
      simp at hmld
      simp [b6_0, hds, e0, e3, e5, e6, e7, hv'.len, g1, hmit, hmld, hw]
      exact ih fr so acc _ σ (by omega) (by simp) (by simp) (by simp) (by simpa using hq) (by simp) (by simp) (by simp)
    | false =>
      rw [hmk] at hmld
      simp at hmld
      by_cases c59 : (c.toNat : Int) = 59
      · have c59' : c.toNat = 59 := by omega
        have e : itemsM b.length r fr so (c :: t) = (fr, k) :: itemsM b.length (offB r c t) k false t := by
          simp only [itemsM, hmk, c59', hkt, if_true]
          rfl
        rw [e]
        obtain ⟨u, τ, ap, hq'⟩ := hq.app1 [spE (fr, k)] (by simp) (bytes := 16) (by simp [reach]; omega) (by simp [reach]; omega) (n := 1) rfl
        simp only [spE] at ap
        simp [b6_0, hds, e0, e3, e5, e6, e7, hv'.len, g1, hmit, hmld, hit, ld, eq_true c59, hw, ap]
        refine Lands.mono (ih k false (acc ++ [(fr, k)]) _ τ (by simp; omega) (by simp) (by simp) (by simp) (by simpa using hq') (by simp) (by simp) (by simp)) fun f' σ' h => ?_
        simpa using h
      · have c59' : ¬ c.toNat = 59 := by omega
        have e : itemsM b.length r fr so (c :: t) = itemsM b.length (offB r c t) fr true t := by
          simp only [itemsM, hmk, c59', if_false]
          rfl
        rw [e]
        simp [b6_0, hds, e0, e3, e5, e6, e7, hv'.len, g1, hmit, hmld, hit, ld, c59, hw]
        exact ih fr true acc _ σ (by omega) (by simp) (by simp) (by simp) (by simpa using hq) (by simp) (by simp) (by simp)
theorem ritems_ev (hT : E.T = T) {σ : St} {v : V} {b : List UInt8} (hv : Bs σ v b) (ho : v.old σ) (hb : b.length < 2 ^ 40) :
    ∃ u, ev E 6 [v] σ = some (.ret u, σ) ∧ Tl 2 u ((itemsM b.length false 0 false b).map spE) := by
  have hm := marks_ev hT hv ho hb
  suffices hr : ∃ τ u, run E false f6.res [.d f6.body] ⟨envOf [v], []⟩ σ = some (.ret u, τ) ∧ Own σ τ 2 u ((itemsM b.length false 0 false b).map spE) by
    obtain ⟨τ, u, hr, hq⟩ := hr
    exact ⟨_, ev_pure (fd := f6) (o := .ret u) (by rw [hT]; rfl) (by simp [f6]) rfl hr hq.gr.H hq.gr.W (by simp only [frzO_ret]; rw [hq.frzV (spE_pure _)]), hq.tl⟩
  simp [f6, d6, hm]
  refine Lands.to (C := fun r => ∃ τ u, r = some (CO.ret u, τ) ∧ Own σ τ 2 u ((itemsM b.length false 0 false b).map spE)) (itemsM_loop (σ0 := σ) hv ho hb rfl b 0 false 0 false [] _ σ rfl (by omega) rfl (by simp) (by simp) (by simp) (by simp) (by simpa using Own.nils σ 2) (by simp) (by simp) (by simp)) ?_
  rintro f' σ' ⟨q0, q1, acc, fr, so, hq, q2, q3, ha, he⟩
  simp only [List.nil_append] at he
  rw [← he]
  have hv' := hv.gr hq.gr ho
  cases so with
  | false =>
    refine ⟨_, _, ?_, by simpa using hq⟩
    simp [q0, q1, q2, q3]
  | true =>
    obtain ⟨u, τ, ap, hq'⟩ := hq.app1 [spE (fr, b.length)] (by simp) (bytes := 16) (by simp [reach]; omega) (by simp [reach]; omega) (n := 1) rfl
    simp only [spE] at ap
    exact ⟨_, _, by simp [q0, q1, q2, q3, hv'.len, ap]; exact ⟨rfl, rfl⟩, by simpa [spE] using hq'⟩
theorem same_loop {σ : St} {u w : V} {A C : List (Nat × Nat)} (hu : Rd σ 2 u (A.map spE)) (hw : Rd σ 2 w (C.map spE)) (hA : A.length < 2 ^ 40) (hl : A.length = C.length) {x : D} (hx : ∀ e, run E false [.t 4] [.d x] ⟨e, []⟩ σ = some (.ret (.bool true), σ)) {B : D} (hB : B = b8_0) :
    ∀ (n i : Nat) (f : Fr), A.length ≤ i + n → f.ds = [] → f.env 0 = u → f.env 1 = w → f.env 5 = .int .i64 i → run E false [.t 4] (.d (.loop [0, 1, 5] B) :: .blk 0 :: [.d x]) f σ = some (.ret (.bool (decide (A.drop i = C.drop i))), σ)
  | 0, i, f, hn, hd, e0, e1, e5 => by
    have h1 : A.drop i = [] := List.drop_eq_nil_of_le (by omega)
    have h2 : C.drop i = [] := List.drop_eq_nil_of_le (by omega)
    have hlu : lenV u = some (.int .i64 A.length) := by simpa using hu.len
    rw [r_loopU hB, h1, h2]
    have h : ¬ i < A.length := by omega
    simp [b8_0, hd, e0, e1, e5, hlu, h]
    exact hx _
  | n + 1, i, f, hn, hd, e0, e1, e5 => by
    have hlu : lenV u = some (.int .i64 A.length) := by simpa using hu.len
    rw [r_loopU hB]
    by_cases h : i < A.length
    · have h' : i < C.length := by omega
      have hw1 : IntKind.i64.wrap ((i : Int) + 1) = ((i + 1 : Nat) : Int) := by rw [IntWalk.i64_in _ (by omega)]; omega
      have i1 : iaV σ 2 u (.int .i64 i) = some (elA u i) := Rd.at hu (by simpa using h)
      have i2 : iaV σ 2 w (.int .i64 i) = some (elA w i) := Rd.at hw (by simpa using h')
      have d1 := Rd.lda hu (i := i) (m := 2) (e := spE A[i]) (by simp [h]) rfl
      have d2 := Rd.lda hw (i := i) (m := 2) (e := spE C[i]) (by simp [h']) rfl
      have ih := fun f => same_loop hu hw hA hl hx hB n (i + 1) f (by omega)
      rw [List.drop_eq_getElem_cons h, List.drop_eq_getElem_cons h']
      obtain ⟨xa, hxa⟩ : ∃ x, A[i] = x := ⟨_, rfl⟩
      obtain ⟨xc, hxc⟩ : ∃ x, C[i] = x := ⟨_, rfl⟩
      rw [hxa] at d1 ⊢
      rw [hxc] at d2 ⊢
      obtain ⟨a1, a2⟩ := xa
      obtain ⟨c1, c2⟩ := xc
      simp only [spE] at d1 d2
      obtain ⟨k, hk⟩ : ∃ k, k = i + 1 := ⟨_, rfl⟩
      rw [← hk] at hw1 ih ⊢
      by_cases k1 : (a1 : Int) = c1
      · have k1' : a1 = c1 := by omega
        by_cases k2 : (a2 : Int) = c2
        · have k2' : a2 = c2 := by omega
          simp [b8_0, hd, e0, e1, e5, hlu, h, i1, i2, d1, d2, k1', k2', hw1]
          rw [ih _ (by simp) (by simp) (by simp) (by simp)]
        · have k2' : ¬ a2 = c2 := by omega
          simp [b8_0, hd, e0, e1, e5, hlu, h, i1, i2, d1, d2, k1', k2, k2', hw1]
      · have k1' : ¬ a1 = c1 := by omega
        simp [b8_0, hd, e0, e1, e5, hlu, h, i1, i2, d1, d2, k1, k1', hw1]
    · have h1 : A.drop i = [] := List.drop_eq_nil_of_le (by omega)
      have h2 : C.drop i = [] := List.drop_eq_nil_of_le (by omega)
      rw [h1, h2]
      simp [b8_0, hd, e0, e1, e5, hlu, h]
      exact hx _
theorem same_ev (hT : E.T = T) {σ : St} {u w : V} {A C : List (Nat × Nat)} (hu : Rd σ 2 u (A.map spE)) (hw : Rd σ 2 w (C.map spE)) (hA : A.length < 2 ^ 40) : ev E 8 [u, w] σ = some (.ret (.bool (decide (A = C))), σ) := by
  refine ev_same (fd := f8) (o := .ret (.bool (decide (A = C)))) (by rw [hT]; rfl) (by simp [f8]) rfl ?_ (by simp)
  have hlu : lenV u = some (.int .i64 A.length) := by simpa using hu.len
  have hlw : lenV w = some (.int .i64 C.length) := by simpa using hw.len
  by_cases h : (A.length : Int) = C.length
  · have h' : A.length = C.length := by omega
    simp [f8, d8, hlu, hlw, h']
    rw [same_loop hu hw hA h' (fun e => by simp) rfl A.length 0 _ (by omega) (by simp) (by simp) (by simp) (by simp)]
    simp
  · have h' : ¬ A.length = C.length := by omega
    have h'' : ¬ A = C := fun e => h' (by rw [e])
    simp [f8, d8, hlu, hlw, h, h', h'']
end Go.Proofs.Ytgmjeklneeljdaa
namespace Go.Proofs.Ytgmjeklneeljdaa
open Go.Proofs.Ytgmjeklneeljdaa.Ab
set_option linter.unusedVariables false
set_option linter.unusedSimpArgs false
/-- What the box of an iterator holds. -/
def boxB (σ : St) (c : V) : Option (List UInt8) := (ldV σ c).bind fun v => (cont σ 1 v).bind fun es => es.mapM Go.Proofs.Ytgmjeklneeljdaa.Ab.byteOf
theorem boxB_of {σ : St} {c v : V} {b : List UInt8} (h : ldV σ c = some v) (hv : Bs σ v b) : boxB σ c = some b := by
  have h' := hv.b2s
  have hc : cont σ 1 v = some (b.map byteE) := hv
  unfold boxB
  rw [h]
  simp only [Option.bind_some, hc] at h' ⊢
  generalize (b.map byteE).mapM Go.Proofs.Ytgmjeklneeljdaa.Ab.byteOf = o at *
  cases o <;> simp_all
theorem byteE_of : ∀ {es : List (List V)} {b : List UInt8}, es.mapM Go.Proofs.Ytgmjeklneeljdaa.Ab.byteOf = some b → es = b.map byteE
  | [], b, h => by simp at h; subst h; rfl
  | e :: es, b, h => by
    rw [List.mapM_cons] at h
    simp only [Option.bind_eq_bind, Option.bind_eq_some_iff, Option.pure_def, Option.some.injEq] at h
    obtain ⟨x, hx, xs, hxs, rfl⟩ := h
    rw [List.map_cons, ← byteE_of hxs]
    congr 1
    unfold Go.Proofs.Ytgmjeklneeljdaa.Ab.byteOf at hx
    split at hx <;> try (simp at hx; done)
    rename_i n
    split at hx
    · rename_i hn
      simp at hx; subst hx
      simp [byteE]
      omega
    · simp at hx
theorem boxB_inv {σ : St} {c : V} {b : List UInt8} (h : boxB σ c = some b) : ∃ v, ldV σ c = some v ∧ Bs σ v b := by
  unfold boxB at h
  obtain ⟨v, h1, h⟩ := Option.bind_eq_some_iff.1 h
  obtain ⟨es, h2, h3⟩ := Option.bind_eq_some_iff.1 h
  refine ⟨v, h1, ?_⟩
  unfold Bs Rd
  rw [h2, byteE_of h3]
/-- The telling, alone. -/
def E0 : En Try.prog := ⟨T, fun _ _ _ => none, fun _ _ _ => none, fun _ _ _ _ => none⟩
theorem E0_ok : E0.Ok := ⟨T_ok, fun _ _ _ _ _ h => by simp [E0] at h, fun _ _ _ _ h => by simp [E0] at h, fun _ _ _ _ _ h => by simp [E0] at h⟩
def spA (x : Nat × Nat) : List V := [.agg [.int .i64 x.1, .int .i64 x.2]]
theorem itemsM_skip (L fr : Nat) (so : Bool) : ∀ (s : List UInt8) (r : Bool), itemsM L r fr so s = match skipF r s with
    | [] => if so then [(fr, L)] else []
    | c :: t => if c.toNat = 59 then (fr, L - t.length) :: itemsM L false (L - t.length) false t else itemsM L false fr true t
  | [], r => rfl
  | c :: t, r => by
    cases h : (offB r c t || blankB c) with
    | true =>
      have e1 : itemsM L r fr so (c :: t) = itemsM L (offB r c t) fr so t := by simp only [itemsM, h, if_true]
      have e2 : skipF r (c :: t) = skipF (offB r c t) t := by simp only [skipF, h, if_true]
      rw [e1, e2]; exact itemsM_skip L fr so t _
    | false =>
      have e2 : skipF r (c :: t) = c :: t := by simp only [skipF, h]; rfl
      have e3 : offB r c t = false := by simp at h; exact h.1
      rw [e2]
      simp only [itemsM, h]
      rw [e3]
      rfl
theorem skip_of {c : UInt8} {t s : List UInt8} {r : Bool} (h : skipF r s = c :: t) : c :: t <:+ s := h ▸ skip_suf s r
def IIv (b : List UInt8) (l : Nat) (c : V) (J : Nat → St → Prop) (X : St → Prop) (n : Nat) (f : Fr) (σ : St) : Prop :=
  f.ds = [] ∧ f.env 0 = .func (.yield l) [] [] ∧ f.env 1 = c ∧ ((∃ (i m fr : Nat) (so : Bool), n = b.length - i ∧ i ≤ b.length ∧ f.env 3 = .int .i64 fr ∧ f.env 4 = .int .i64 i ∧ fr ≤ b.length ∧
    ((itemsM b.length false 0 false b).map spA).drop m = (itemsM b.length false fr so (b.drop i)).map spA ∧ m ≤ (itemsM b.length false 0 false b).length ∧ (i < b.length ∨ so = false) ∧
    (so = false → skipF false (b.drop fr) = skipF false (b.drop i)) ∧ (so = true → skipF false (b.drop fr) ≠ []) ∧ J m σ) ∨
   (n = 0 ∧ (∃ fr, f.env 3 = .int .i64 fr) ∧ f.env 4 = .int .i64 b.length ∧ (J ((itemsM b.length false 0 false b).map spA).length σ ∨ X σ)))
theorem iter12 (c : V) (b : List UInt8) (hb : b.length < 2 ^ 40) : Iter Try.prog 12 [c] (fun σ => boxB σ c = some b) ((itemsM b.length false 0 false b).map spA) := by
  intro Y l J X σ hJ hX hY h0
  refine ccallsY_of (T_ok 12 _ rfl).1 (by simp [f12]) ?_
  simp only [f12, d12, b12_0, D.er]
  refine cw_seq (cw_reg ?_)
  simp [rwp, rwp1, wantG]
  refine cw_seq (cw_reg ?_)
  simp [rwp, rwp1, wantG]
  refine cw_block (cw_loop (IIv b l c J X) b.length ⟨rfl, by simp, by simp, .inl ⟨0, 0, 0, false, rfl, by omega, by simp, by simp, by omega, by simp, by omega, .inr rfl, fun _ => rfl, by simp, h0⟩⟩ ?_)
  rintro n f σ ⟨hd, e0, e1, h | h⟩
  · obtain ⟨i, m, fr, so, rfl, hi, e3, e4, hfr, hm, hml, his, hs1, hs2, hj⟩ := h
    obtain ⟨v, hc, hv⟩ := boxB_inv (hJ m σ hj)
    by_cases h : i < b.length
    · refine cw_seq (cw_seq (cw_reg ?_))
      simp [rwp, rwp1, wantG, e4, e1, hc, hv.len]
      refine cw_cond (t := true) (by simp [h]) (cw_skip ?_)
      have hsk := skip_ev (E := E0) rfl hv hb (i := i) (by omega)
      refine cw_block (cw_seq (cw_reg ?_))
      simp [rwp, rwp1, wantG, e4, e1, hc]
      refine (ev_calls E0_ok hsk).mono ?_
      rintro _ _ ⟨rfl, rfl⟩
      have hms := itemsM_skip b.length fr so (b.drop i) false
      cases hk : skipF false (b.drop i) with
      | nil =>
        rw [hk] at hms
        simp only at hms
        rw [hms] at hm
        simp
        refine cw_seq (cw_seq (cw_reg ?_))
        simp [rwp, rwp1, wantG, e1, hc, hv.len]
        refine cw_cond (t := true) (by simp) ?_
        simp
        have hhas := has_ev (E := E0) rfl hv hb hfr
        refine cw_seq (cw_seq (cw_reg ?_))
        simp [rwp, rwp1, wantG, e1, e3, hc]
        refine (ev_calls E0_ok hhas).mono ?_
        rintro _ _ ⟨rfl, rfl⟩
        simp
        cases so with
        | false =>
          have := hs1 rfl
          rw [hk] at this
          refine cw_cond (t := false) (by simp [this]) (cw_skip ?_)
          refine cw_ret ?_
          simp [Post, DLv, hd]
          have := congrArg List.length hm
          simp at this
          obtain rfl : m = (itemsM b.length false 0 false b).length := by omega
          exact .inl hj
        | true =>
          have hne := hs2 rfl
          refine cw_cond (t := true) (by simp; exact List.length_pos_iff.2 hne) ?_
          have hml' : m < ((itemsM b.length false 0 false b).map spA).length := by
            have := congrArg List.length hm
            simp at this ⊢; omega
          have hx : ((itemsM b.length false 0 false b).map spA)[m]? = some (spA (fr, b.length)) := by
            have := congrArg (·[0]?) hm
            simpa using this
          have hyl := hY m _ _ hx hj
          simp [spA] at hyl
          simp
          refine cw_reg ?_
          simp [rwp, rwp1, wantG, e0, e1, e3, hc, hv.len]
          refine Y.mono _ _ _ _ _ ?_ hyl
          have hm1 : m + 1 = (itemsM b.length false 0 false b).length := by
            have := congrArg List.length hm
            simp at this; omega
          rintro o σ' (⟨rfl, hj'⟩ | ⟨rfl, hj'⟩)
          · simp
            refine cw_ret ?_
            simp [Post, DLv, hd]
            rw [hm1] at hj'
            exact .inl hj'
          · simp
            refine cw_ret ?_
            simp [Post, DLv, hd]
            exact .inr hj'
      | cons d t =>
        rw [hk] at hms
        simp only at hms
        rw [hms] at hm
        obtain ⟨at', hat⟩ : ∃ a, a = b.length - (d :: t).length := ⟨_, rfl⟩
        have hsuf : d :: t <:+ b := (skip_of hk).trans (List.drop_suffix _ _)
        have hdr := suf_drop hsuf
        rw [← hat] at hdr
        obtain ⟨g1, g2, g3⟩ := at_drop hdr
        have hlen := congrArg List.length hdr
        simp at hlen
        have hsl := (skip_suf (b.drop i) false).length_le
        rw [hk] at hsl
        simp at hsl
        have hw : IntKind.i64.wrap ((at' : Int) + 1) = ((at' + 1 : Nat) : Int) := by rw [IntWalk.i64_in _ (by omega)]; omega
        obtain ⟨k, hkk⟩ : ∃ k, k = at' + 1 := ⟨_, rfl⟩
        rw [← hkk] at hw g3
        have hkt : b.length - t.length = k := by omega
        rw [hkt] at hm
        simp
        rw [show b.length - (t.length + 1) = at' by rw [hat]; rfl]
        refine cw_seq (cw_seq (cw_reg ?_))
        simp [rwp, rwp1, wantG, e1, hc, hv.len]
        refine cw_cond (t := false) (by simp; omega) (cw_skip ?_)
        refine cw_seq (cw_reg ?_)
        simp [rwp, rwp1, wantG, hw]
        refine cw_seq (cw_seq (cw_reg ?_))
        simp [rwp, rwp1, wantG, e1, hc, hv.at g1, hv.ld g2]
        by_cases c59 : (d.toNat : Int) = 59
        · have c59' : d.toNat = 59 := by omega
          refine cw_cond (t := false) (by simp [eq_true c59]) (cw_skip ?_)
          rw [if_pos c59', List.map_cons] at hm
          have hml' : m < ((itemsM b.length false 0 false b).map spA).length := by
            have := congrArg List.length hm
            simp at this ⊢; omega
          have hx : ((itemsM b.length false 0 false b).map spA)[m]? = some (spA (fr, k)) := by
            have := congrArg (·[0]?) hm
            simpa using this
          have hm1 : ((itemsM b.length false 0 false b).map spA).drop (m + 1) = (itemsM b.length false k false t).map spA := by
            rw [← List.drop_drop, hm]; rfl
          have hyl := hY m _ _ hx hj
          simp [spA] at hyl
          refine cw_seq (cw_seq (cw_reg ?_))
          simp [rwp, rwp1, wantG, e0, e3]
          refine Y.mono _ _ _ _ _ ?_ hyl
          rintro o σ' (⟨rfl, hj'⟩ | ⟨rfl, hj'⟩)
          · simp
            refine cw_cond (t := false) (by simp) (cw_skip ?_)
            refine cw_reg ?_
            simp [rwp, rwp1, wantG, e0, e1, hd]
            refine ⟨b.length - k, by omega, by simp [hd], by simp [e0], by simp [e1], .inl ⟨k, m + 1, k, false, rfl, by omega, by simp, by simp, by omega, ?_, by simp at hml'; omega, .inr rfl, fun _ => rfl, by simp, hj'⟩⟩
            rw [hm1, g3]
          · simp
            refine cw_cond (t := true) (by simp) (cw_ret ?_)
            simp [Post, DLv, hd]
            exact .inr hj'
        · have c59' : ¬ d.toNat = 59 := by omega
          refine cw_cond (t := true) (by simp [c59]) ?_
          rw [if_neg c59'] at hm
          simp
          refine cw_seq (cw_seq (cw_reg ?_))
          simp [rwp, rwp1, wantG, e1, hc, hv.len]
          by_cases hkb : k = b.length
          · have ht : t = [] := List.eq_nil_of_length_eq_zero (by omega)
            subst ht
            have hme : itemsM b.length false fr true [] = [(fr, b.length)] := rfl
            rw [hme] at hm
            have hml' : m < ((itemsM b.length false 0 false b).map spA).length := by
              have := congrArg List.length hm
              simp at this ⊢; omega
            have hx : ((itemsM b.length false 0 false b).map spA)[m]? = some (spA (fr, b.length)) := by
              have := congrArg (·[0]?) hm
              simpa using this
            have hm1 : m + 1 = (itemsM b.length false 0 false b).length := by
              have := congrArg List.length hm
              simp at this; omega
            have hyl := hY m _ _ hx hj
            simp [spA] at hyl
            refine cw_cond (t := true) (by simp; omega) ?_
            simp
            refine cw_reg ?_
            simp [rwp, rwp1, wantG, e0, e1, e3, hc, hv.len]
            refine Y.mono _ _ _ _ _ ?_ hyl
            rintro o σ' (⟨rfl, hj'⟩ | ⟨rfl, hj'⟩)
            · simp
              refine cw_exit ?_
              simp [hd]
              refine ⟨0, by omega, by simp [hd], by simp [e0], by simp [e1], .inr ⟨rfl, ⟨fr, by simp [e3]⟩, by simp [hkb], .inl ?_⟩⟩
              rw [List.length_map, ← hm1]; exact hj'
            · simp
              refine cw_exit ?_
              simp [hd]
              exact ⟨0, by omega, by simp [hd], by simp [e0], by simp [e1], .inr ⟨rfl, ⟨fr, by simp [e3]⟩, by simp [hkb], .inr hj'⟩⟩
          · refine cw_cond (t := false) (by simp; omega) (cw_skip ?_)
            refine cw_exit ?_
            simp [hd]
            refine ⟨b.length - k, by omega, by simp [hd], by simp [e0], by simp [e1], .inl ⟨k, m, fr, true, rfl, by omega, by simp [e3], by simp, hfr, ?_, hml, .inl (by omega), by simp, fun _ => ?_, hj⟩⟩
            · rw [hm, g3]
            · cases so with
              | false => rw [hs1 rfl, hk]; simp
              | true => exact hs2 rfl
    · refine cw_seq (cw_seq (cw_reg ?_))
      simp [rwp, rwp1, wantG, e4, e1, hc, hv.len]
      refine cw_cond (t := false) (by simp; omega) (cw_exit ?_)
      simp [Post, DLv, hd]
      obtain rfl : i = b.length := by omega
      have hso : so = false := by rcases his with h | h; omega; exact h
      subst hso
      rw [List.drop_length] at hm
      have := congrArg List.length hm
      simp [itemsM] at this
      obtain rfl : m = (itemsM b.length false 0 false b).length := by omega
      exact .inl hj
  · obtain ⟨rfl, ⟨fr, e3⟩, e4, hj⟩ := h
    have hG : boxB σ c = some b := by rcases hj with h | h; exact hJ _ _ h; exact hX _ h
    obtain ⟨v, hc, hv⟩ := boxB_inv hG
    refine cw_seq (cw_seq (cw_reg ?_))
    simp [rwp, rwp1, wantG, e4, e1, hc, hv.len]
    refine cw_cond (t := false) (by simp) (cw_exit ?_)
    simp [Post, DLv, hd]
    simpa using hj
end Go.Proofs.Ytgmjeklneeljdaa
