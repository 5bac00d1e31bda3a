/-
The walk over the program's texts, told with what its values say: a part of it. No further condition.
-/
import Derived.Test.YtogibebpoliolaaAbTyA
import Derived.Test.YtogibebpoliolaaAbTxC
import Derived.Below
import Derived.WalkKit
import Derived.Deep.Slices
import Derived.ChangeArms
import Derived.DataReads
import Derived.WideShapes
import Derived.Carry
import Derived.OpenShut
import Derived.ChangeShapes
namespace Go.Proofs.Ytogibebpoliolaa
open Go.Proofs.Ytogibebpoliolaa.Ab
set_option linter.unusedVariables false
set_option linter.unusedSimpArgs false
attribute [local simp] Gr.refl Gr.new Gr.set Gr.kill Nat.add_assoc r_cks chk wantG
theorem applyF_one (b : List UInt8) (acc : List Ed) (c : Ch) (cs : List Ch) : applyF b acc (c :: cs) = match oneR b c with
    | .err n => .err n
    | .ok b' e => applyF b' (acc ++ [e]) cs := by
  simp only [applyF, oneR]
  split
  · split <;> rfl
  · rfl
theorem oneR_len {b b' : List UInt8} {c : Ch} {e : Ed} (h : oneR b c = .ok b' e) : b'.length ≤ 1048576 := by
  have hin := edit_in (b := b) (c := c)
  unfold oneR at h
  split at h
  · split at h
    · simp at h
    · rename_i h2
      injection h with h3 h4
      rw [← h3]
      simp [spliceF]
      omega
  · simp at h
theorem oneR_err {b : List UInt8} {c : Ch} {n : Nat} (h : oneR b c = .err n) : n = 3 ∨ n = 10 := by
  unfold oneR at h
  split at h
  · split at h
    · injection h with h; exact .inl h.symm
    · simp at h
  · injection h with h; exact .inr h.symm
def RpR (σ0 : St) (r : Option (CO × St)) : Rs → Prop
  | .err e => ∃ τ, r = some (.ret (.tup [.str [], .nils, .int .i64 e]), τ) ∧ Gr σ0 τ
  | .ok b ed => ∃ u τ, r = some (.ret (.tup [.str b, u, .int .i64 0]), τ) ∧ Own σ0 τ 3 u (ed.map edE)
theorem rap_loop {σ0 : St} {cv : V} {all : List Ch} (hcv : Rd σ0 6 cv (all.map chE)) (hco : cv.old σ0) (hall : ∀ c ∈ all, c.ok ∧ c.text.length < 2 ^ 40) (hal : all.length < 2 ^ 40) {B : D} (hB : B = b13_0) :
    ∀ (cs : List Ch) (i : Nat) (acc : List Ed) (b : List UInt8) (f : Fr) (σ : St), all.drop i = cs → acc.length ≤ i → b.length ≤ 1048576 → f.ds = [] → f.env 0 = .str b → f.env 1 = cv → Own σ0 σ 3 (f.env 7) (acc.map edE) → f.env 8 = .int .i64 i →
      RpR σ0 (run ET false [.t 4, .t 5, .t 6] (.d (.loop [0, 1, 7, 8] B) :: .blk 0 :: [.d (.kb [0, 7] (.seq (.reg [⟨some 36, none, .mv (.t 0)⟩, ⟨some 37, none, .mv (.t 7)⟩, ⟨some 4, none, .mv (.t 36)⟩, ⟨some 5, none, .mv (.t 37)⟩, ⟨some 6, none, .mv (.c (.int .i64 0))⟩]) .ret))]) f σ) (applyF b acc cs)
  | [], i, acc, b, f, σ, hl, ha, hb, hd, h0, h1, h7, h8 => by
    rw [r_loopU hB]
    have hcl : lenV cv = some (.int .i64 all.length) := by simpa using hcv.len
    have hlen := congrArg List.length hl
    simp at hlen
    have h : ¬ i < all.length := by omega
    simp [b13_0, h0, h1, h8, hcl, h, hd]
    exact ⟨_, _, rfl, h7⟩
  | c :: cs, i, acc, b, f, σ, hl, ha, hb, hd, h0, h1, h7, h8 => by
    rw [r_loopU hB, applyF_one]
    have hcl : lenV cv = some (.int .i64 all.length) := by simpa using hcv.len
    have hlen := congrArg List.length hl
    simp at hlen
    have h : i < all.length := by omega
    have hat : all[i]? = some c := by
      have := congrArg (·[0]?) hl
      simpa using this
    have hnext : all.drop (i + 1) = cs := by rw [← List.drop_drop, hl]; rfl
    obtain ⟨hc, hct⟩ := hall c (List.mem_of_getElem? hat)
    have g := h7.gr
    have hia := Rd.at (hcv.gr g hco) (k := .i64) (i := i) (by simpa using h)
    have hld := Rd.lda (hcv.gr g hco) (i := i) (m := 6) (e := chE c) (by simp [hat]) rfl
    have hone := rone_ev (σ := σ) hc hb hct
    obtain ⟨v7, e7⟩ : ∃ v, f.env 7 = v := ⟨_, rfl⟩
    rw [e7] at h7
    cases hR : oneR b c with
    | err n =>
      rw [hR] at hone
      simp [r1V] at hone
      have hn : ¬ n = 0 := by rcases oneR_err hR with rfl | rfl <;> simp
      simp only
      show ∃ τ, _ ∧ Gr σ0 τ
      refine ⟨_, by simp [b13_0, h0, h1, e7, h8, hcl, h, hd, hia, hld, hone, hn]; rfl, ?_⟩
      exact (g.new _).set g.n _
    | ok b' e =>
      rw [hR] at hone
      simp [r1V, edE] at hone
      have gg : Gr σ ((σ.new (.row 3 [[.int .i64 0, .int .i64 0, .int .i64 0]])).set σ.n (.row 3 [[.int .i64 e.fr, .int .i64 e.to, .int .i64 e.sz]])) := ((Gr.refl σ).new _).set (Nat.le_refl _) _
      obtain ⟨u, τ, ap, q⟩ := (h7.step gg).app1 [edE e] (by simp) (bytes := 24) (n := 1) (by simp [reach]; omega) (by simp [reach]; omega) rfl
      simp [edE] at ap
      have hw : IntKind.i64.wrap ((i : Int) + 1) = ((i + 1 : Nat) : Int) := by rw [IntWalk.i64_in _ (by omega)]; omega
      obtain ⟨j, hj⟩ : ∃ j, j = i + 1 := ⟨_, rfl⟩
      rw [← hj] at hw hnext
      simp only
      simp [b13_0, h0, h1, e7, h8, hcl, h, hd, hia, hld, hone, ap, hw]
      refine rap_loop hcv hco hall hal hB cs j (acc ++ [e]) b' _ τ hnext ?_ (oneR_len hR) ?_ ?_ ?_ ?_ ?_
      · simp; omega
      · rfl
      · simp
      · simp
      · simpa using q
      · simp
theorem rapply_ev {σ : St} {cv : V} {b : List UInt8} {cs : List Ch} (hcv : Rd σ 6 cv (cs.map chE)) (hco : cv.old σ) (hall : ∀ c ∈ cs, c.ok ∧ c.text.length < 2 ^ 40) (hal : cs.length < 2 ^ 40) (hb : b.length ≤ 1048576) :
    match applyF b [] cs with
    | .err e => ev ET 13 [.str b, cv] σ = some (.ret (.tup [.str [], .nils, .int .i64 e]), σ)
    | .ok b' ed => ∃ u, ev ET 13 [.str b, cv] σ = some (.ret (.tup [.str b', u, .int .i64 0]), σ) ∧ Tl 3 u (ed.map edE) := by
  have key := rap_loop hcv hco hall hal rfl cs 0 [] b ⟨lk [0, 1, 7, 8] [.str b, cv, .nils, .int .i64 0], []⟩ σ rfl (by simp) hb rfl (by simp) (by simp) (by simpa using Own.nils σ 3) (by simp)
  have hrun : run ET false f13.res [.d f13.body] ⟨envOf [.str b, cv], []⟩ σ = run ET false [.t 4, .t 5, .t 6] (.d (.loop [0, 1, 7, 8] b13_0) :: .blk 0 :: [.d (.kb [0, 7] (.seq (.reg [⟨some 36, none, .mv (.t 0)⟩, ⟨some 37, none, .mv (.t 7)⟩, ⟨some 4, none, .mv (.t 36)⟩, ⟨some 5, none, .mv (.t 37)⟩, ⟨some 6, none, .mv (.c (.int .i64 0))⟩]) .ret))]) ⟨lk [0, 1, 7, 8] [.str b, cv, .nils, .int .i64 0], []⟩ σ := by
    simp [f13, d13]
  rw [← hrun] at key
  revert key
  cases applyF b [] cs with
  | err e =>
    rintro ⟨τ, h1, h2⟩
    exact ev_pure (fd := f13) rfl (by simp [f13]) rfl h1 h2.H h2.W (by simp)
  | ok b' ed =>
    rintro ⟨v, σ', h1, h7⟩
    have hf := h7.frzV (edE_pure _)
    have hfA : frzA σ'.H (fun l => decide (l < σ.n)) v = told 3 v (ed.map edE) := by
      rcases h7.sl with ⟨e, _⟩ | ⟨l, e, _⟩
      · rw [e]; rfl
      · rw [e] at hf ⊢; simpa using hf
    exact ⟨told 3 v (ed.map edE), ev_pure (fd := f13) (o := .ret (.tup [.str b', v, .int .i64 0])) (σ' := σ') rfl (by simp [f13]) rfl h1 h7.gr.H h7.gr.W (by simp [hfA]), h7.tl⟩
end Go.Proofs.Ytogibebpoliolaa
namespace Go.Proofs.Ytogibebpoliolaa
open Go.Proofs.Ytogibebpoliolaa.Ab
set_option linter.unusedVariables false
set_option linter.unusedSimpArgs false
attribute [local simp] Gr.refl Gr.new Gr.set Gr.kill Nat.add_assoc r_cks chk wantG
theorem Rd_ldaC {σ : St} {z : Nat} {v : V} {es : List (List V)} (h : Rd σ z v es) {i j m : Nat} {e : List V} (he : es[i]? = some e) (hm : j + m ≤ e.length) : ldaV σ m (celA v i j) = some (.agg ((e.drop j).take m)) := by
  have hi : i < es.length := (List.getElem?_eq_some_iff.1 he).1
  rcases h.inv with ⟨rfl, rfl⟩ | rfl | ⟨l, off, rows, rfl, h1, h2, h3⟩
  · simp at he
  · simp [celA, elA, he, hm]
  · have : rows[off + i]? = some e := by
      rw [h3, List.getElem?_take, List.getElem?_drop] at he
      simpa [hi] using he
    simp [celA, elA, h1, this, hm]
theorem chE_pure (l : List Ch) : ∀ e ∈ l.map chE, ∀ u ∈ e, u.pure = true := fun e he u hu => by
  simp at he; obtain ⟨c, _, rfl⟩ := he; simp [chE] at hu; rcases hu with rfl | rfl | rfl | rfl | rfl | rfl <;> rfl
theorem chg_loop {σ0 : St} {cv : V} {all : List Ch} (hcv : Rd σ0 6 cv (all.map chE)) (hco : cv.old σ0) (hal : all.length < 2 ^ 20) {dd : Bool} {rs : List RC} {s : List SE} {B : D} (hB : B = b14_0) :
    ∀ (cs : List Ch) (i : Nat) (acc : List Ch) (f : Fr) (σ : St), all.drop i = cs → acc.length ≤ i → f.ds = [] → f.env 0 = cv → f.env 4 = .int .i64 i → Own σ0 σ 6 (f.env 3) (acc.map chE) →
      Lands ET dd rs s (fun f' σ' => f'.ds = [] ∧ Own σ0 σ' 6 (f'.env 3) ((acc ++ cs).map chE)) (run ET dd rs (.d (.loop [0, 3, 4] B) :: .blk 0 :: s) f σ)
  | [], i, acc, f, σ, hl, ha, hd, h0, h4, hq => by
    rw [r_loopU hB]
    have hcl : lenV cv = some (.int .i64 all.length) := by simpa using hcv.len
    have hlen := congrArg List.length hl
    simp at hlen
    have h : ¬ i < all.length := by omega
    simp [b14_0, h0, h4, hcl, h, hd]
    exact .here ⟨by simp, by simpa using hq⟩
  | c :: cs, i, acc, f, σ, hl, ha, hd, h0, h4, hq => by
    rw [r_loopU hB]
    have hcl : lenV cv = some (.int .i64 all.length) := by simpa using hcv.len
    have hlen := congrArg List.length hl
    simp at hlen
    have h : i < all.length := by omega
    have hat : all[i]? = some c := by
      have := congrArg (·[0]?) hl
      simpa using this
    have hnext : all.drop (i + 1) = cs := by rw [← List.drop_drop, hl]; rfl
    have hcg := hcv.gr hq.gr hco
    have hia := Rd.at hcg (k := .i64) (i := i) (by simpa using h)
    have hf0 := Rd.fa hcg (i := i) (j := 0) (by simpa using h)
    have hf1 := Rd.fa hcg (i := i) (j := 1) (by simpa using h)
    have hf3 := Rd.fa hcg (i := i) (j := 3) (by simpa using h)
    have hf5 := Rd.fa hcg (i := i) (j := 5) (by simpa using h)
    have hl0 := Rd.cel hcg (i := i) (j := 0) (e := chE c) (by simp [hat])
    have hl5 := Rd.cel hcg (i := i) (j := 5) (e := chE c) (by simp [hat])
    have hl1 := Rd_ldaC hcg (i := i) (j := 1) (m := 2) (e := chE c) (by simp [hat]) (by simp [chE])
    have hl3 := Rd_ldaC hcg (i := i) (j := 3) (m := 2) (e := chE c) (by simp [hat]) (by simp [chE])
    obtain ⟨u, τ, ap, q⟩ := hq.app1 [chE c] (by simp) (bytes := 56) (n := 1) (by simp [reach]; omega) (by simp [reach]; omega) rfl
    simp [chE] at hl0 hl5 hl1 hl3 ap
    have hw : IntKind.i64.wrap ((i : Int) + 1) = ((i + 1 : Nat) : Int) := by rw [IntWalk.i64_in _ (by omega)]; omega
    obtain ⟨j, hj⟩ : ∃ j, j = i + 1 := ⟨_, rfl⟩
    rw [← hj] at hw hnext
    simp [b14_0, h0, h4, hcl, h, hd, hia, hf0, hf1, hf3, hf5, hl0, hl1, hl3, hl5, ap, hw]
    refine Lands.mono (chg_loop hcv hco hal hB cs j (acc ++ [c]) _ τ hnext ?_ ?_ ?_ ?_ ?_) (fun _ _ h => by simpa using h)
    · simp; omega
    · rfl
    · simp
    · simp
    · simpa using q
theorem changes_ev {σ : St} {cv : V} {cs : List Ch} (hcv : Rd σ 6 cv (cs.map chE)) (hco : cv.old σ) (hal : cs.length < 2 ^ 20) : ∃ u, ev ET 14 [cv] σ = some (.ret u, σ) ∧ Tl 6 u (cs.map chE) := by
  obtain ⟨f', σ', e, hd, hq'⟩ := chg_loop hcv hco hal (dd := false) (rs := f14.res) (s := [.d (.kb [3] (.seq (.reg [⟨some 35, none, .mv (.t 3)⟩, ⟨some 2, none, .mv (.t 35)⟩]) .ret))]) rfl cs 0 [] ⟨lk [0, 3, 4] [cv, .nils, .int .i64 0], []⟩ σ rfl (by simp) rfl (by simp) (by simp) (by simpa using Own.nils σ 6)
  refine ⟨_, ev_pure (fd := f14) (o := .ret (f'.env 3)) (σ' := σ') rfl (by simp [f14]) rfl ?_ hq'.gr.H hq'.gr.W (by simp only [frzO_ret]; rw [hq'.frzV (chE_pure _)]), by simpa using hq'.tl⟩
  simp [f14, d14] at e ⊢
  rw [e]
  simp [hd]
theorem same_loop {σ : St} {u w : V} {all : List Ed} (hu : Rd σ 3 u (all.map edE)) (hv : Rd σ 3 w (all.map edE)) (hal : all.length < 2 ^ 40) {x : D} {B : D} (hB : B = b17_0) (hx : ∀ e, run ET false [.t 4] [.d x] ⟨e, []⟩ σ = some (.ret (.bool true), σ)) :
    ∀ (l : List Ed) (i : Nat) (f : Fr), all.drop i = l → f.ds = [] → f.env 0 = u → f.env 1 = w → f.env 5 = .int .i64 i → run ET false [.t 4] (.d (.loop [0, 1, 5] B) :: .blk 0 :: [.d x]) f σ = some (.ret (.bool true), σ)
  | [], i, f, hl, hd, h0, h1, h5 => by
    rw [r_loopU hB]
    have hcl : lenV u = some (.int .i64 all.length) := by simpa using hu.len
    have hlen := congrArg List.length hl
    simp at hlen
    have h : ¬ i < all.length := by omega
    simp [b17_0, h0, h1, h5, hcl, h, hd, hx]
  | c :: cs, i, f, hl, hd, h0, h1, h5 => by
    rw [r_loopU hB]
    have hcl : lenV u = some (.int .i64 all.length) := by simpa using hu.len
    have hlen := congrArg List.length hl
    simp at hlen
    have h : i < all.length := by omega
    have hat : all[i]? = some c := by
      have := congrArg (·[0]?) hl
      simpa using this
    have hnext : all.drop (i + 1) = cs := by rw [← List.drop_drop, hl]; rfl
    have hia := Rd.at hu (k := .i64) (i := i) (by simpa using h)
    have hib := Rd.at hv (k := .i64) (i := i) (by simpa using h)
    have hf0 := Rd.fa hu (i := i) (j := 0) (by simpa using h)
    have hf1 := Rd.fa hu (i := i) (j := 1) (by simpa using h)
    have hf2 := Rd.fa hu (i := i) (j := 2) (by simpa using h)
    have hg0 := Rd.fa hv (i := i) (j := 0) (by simpa using h)
    have hg1 := Rd.fa hv (i := i) (j := 1) (by simpa using h)
    have hg2 := Rd.fa hv (i := i) (j := 2) (by simpa using h)
    have hl0 := Rd.cel hu (i := i) (j := 0) (e := edE c) (by simp [hat])
    have hl1 := Rd.cel hu (i := i) (j := 1) (e := edE c) (by simp [hat])
    have hl2 := Rd.cel hu (i := i) (j := 2) (e := edE c) (by simp [hat])
    have hm0 := Rd.cel hv (i := i) (j := 0) (e := edE c) (by simp [hat])
    have hm1 := Rd.cel hv (i := i) (j := 1) (e := edE c) (by simp [hat])
    have hm2 := Rd.cel hv (i := i) (j := 2) (e := edE c) (by simp [hat])
    simp [edE] at hl0 hl1 hl2 hm0 hm1 hm2
    have hw : IntKind.i64.wrap ((i : Int) + 1) = ((i + 1 : Nat) : Int) := by rw [IntWalk.i64_in _ (by omega)]; omega
    obtain ⟨j, hj⟩ : ∃ j, j = i + 1 := ⟨_, rfl⟩
    rw [← hj] at hw hnext
    simp [b17_0, h0, h1, h5, hcl, h, hd, hia, hib, hf0, hf1, hf2, hg0, hg1, hg2, hl0, hl1, hl2, hm0, hm1, hm2, hw]
    refine same_loop hu hv hal hB hx cs j _ hnext ?_ ?_ ?_ ?_ <;> simp
theorem same_ev {σ : St} {u w : V} {l : List Ed} (hu : Rd σ 3 u (l.map edE)) (hv : Rd σ 3 w (l.map edE)) (hal : l.length < 2 ^ 40) : ev ET 17 [u, w] σ = some (.ret (.bool true), σ) := by
  refine ev_same (fd := f17) (o := .ret (.bool true)) rfl (by simp [f17]) rfl ?_ (by simp)
  have hcu : lenV u = some (.int .i64 l.length) := by simpa using hu.len
  have hcv : lenV w = some (.int .i64 l.length) := by simpa using hv.len
  simp [f17, d17, hcu, hcv]
  refine same_loop hu hv hal rfl (fun e => by simp) l 0 _ rfl ?_ ?_ ?_ ?_ <;> simp
end Go.Proofs.Ytogibebpoliolaa
namespace Go.Proofs.Ytogibebpoliolaa.Ab
open Go.RowKit
set_option linter.unusedVariables false
/-! The top: a law's call, at the arguments as they stand. -/
def σ0 (W : World) : St := ⟨fun _ => none, 0, W⟩
def φ0 : Phi := fun _ => none
def I0 (W : World) (b : Nat) : Prop := b < W.heap.size
theorem sim0 (W : World) : Sim φ0 (I0 W) (σ0 W) W :=
  ⟨fun l x h => by simp [φ0] at h, fun l x h => by simp [φ0] at h, fun l b h => by simp [σ0] at h, fun b ⟨l, x, h, _⟩ => by simp [σ0] at h, fun l l' x x' h => by simp [σ0] at h, fun b h => h, fun b h => ⟨h, rfl⟩⟩
theorem calls_top {P : Program} {k : FuncId} {vs : List V} {W : World} {args : Array Value} (hc : CCalls P k vs (σ0 W) (fun o _ => o = .ret (.bool true))) (hr : RelA φ0 (I0 W) W vs args) :
    Calls P k args W fun e w' => e = .returned (.bool true) ∧ Below W.heap.size W w' := by
  refine (hc _ _ _ _ (sim0 W) hr).mono ?_
  rintro e w' ⟨o, σ', φ', I', rfl, ho, he, hs⟩
  cases ho with
  | ret h =>
    refine ⟨by rw [h.bool_inv], he.os, he.tape, he.output, he.size, fun b hb => he.frame b hb ?_⟩
    rintro ⟨l, x, h, _⟩
    simp [σ0] at h
/-- A slice of bytes. -/
theorem rel_bytes {W : World} {a : Option Addr} {len cap : Nat} {zs : List Int}
    (h : (a = none ∧ len = 0 ∧ cap = 0 ∧ zs = []) ∨ ∃ x, a = some x ∧ len ≤ cap ∧ cap ≤ maxLen ∧ zs.length = cap ∧ (∀ i, i < zs.length → W.cell? (x.add i) = some (.int .u8 (zs.getD i 0))) ∧ ∀ n ∈ zs, (Lit.int .u8 n).wf = true) :
    ∃ v b, Rel φ0 (I0 W) W v (.slice a len cap) ∧ (∀ σ, Bs σ v b) ∧ v.row = none ∧ b.length = len := by
  rcases h with ⟨rfl, rfl, rfl, rfl⟩ | ⟨x, rfl, hl, hm, hz, hcell, hwf⟩
  · exact ⟨.nils, [], .nils, fun σ => rfl, rfl, rfl⟩
  · let b : List UInt8 := (zs.take len).map fun n => UInt8.ofNat n.toNat
    have hbl : b.length = len := by simp [b]; omega
    have hget : ∀ i, i < len → ∃ n, zs[i]? = some n ∧ 0 ≤ n ∧ n < 256 ∧ b[i]? = some (UInt8.ofNat n.toNat) := fun i hi => by
      have hi' : i < zs.length := by omega
      refine ⟨zs[i], List.getElem?_eq_getElem hi', ?_⟩
      have hw := hwf zs[i] (List.getElem_mem hi')
      simp [Lit.wf, IntKind.min, IntKind.max, IntKind.signed, IntKind.bits] at hw
      refine ⟨by omega, by omega, ?_⟩
      simp [b, hi, hi']
    refine ⟨.islc 1 (b.map byteE), b, ?_, fun σ => by simp [Bs, Rd, cont], rfl, hbl⟩
    have key : ∀ i, i < len → x.spot = none ∧ x.block < W.heap.size ∧ W.cell? ⟨x.block, x.off + i, none⟩ = some (.int .u8 (zs.getD i 0)) := fun i hi => by
      have h0 := hcell 0 (by omega)
      have hi' := hcell i (by omega)
      simp only [Addr.add, if_pos] at h0
      have hx : x.spot = none ∧ x.block < W.heap.size := by
        unfold World.cell? at h0
        split at h0
        · rename_i hh
          split at h0
          · simp at h0
          · rename_i hs
            refine ⟨by simpa using hs, ?_⟩
            rcases Nat.lt_or_ge x.block W.heap.size with h | h
            · exact h
            · rw [Array.getElem?_eq_none h] at hh; simp at hh
        · simp at h0
      refine ⟨hx.1, hx.2, ?_⟩
      rw [← hi']
      congr 1
      unfold Addr.add
      split
      · rename_i h; subst h
        cases x; simp_all
      · cases x; simp_all
    have hbm : (b.map byteE).length = len := by simp [hbl]
    have := Rel.islc (φ := φ0) (I := I0 W) (w := W) (z := 1) (es := b.map byteE) (b := x.block) (o := x.off) (cap := cap) (a := x) (cs := fun i _ => .int .u8 (zs.getD i 0))
      (by rw [hbm]; exact hl) (fun hne => ?_) (fun e he => ?_) (fun i j hi hj => ?_) (fun i j hi hj => rfl) ?_ (fun i j e v hi hj => ?_)
    · rw [hbm] at this; exact this
    · have h0 : 0 < len := by rw [← hbm]; exact List.length_pos_iff.2 hne
      obtain ⟨h1, h2, _⟩ := key 0 h0
      exact ⟨by cases x; simp_all, h2⟩
    · obtain ⟨c, _, rfl⟩ := List.mem_map.1 he
      rfl
    · rw [hbm] at hi
      obtain rfl : j = 0 := by omega
      rw [Nat.mul_one, Nat.add_zero]
      exact (key i hi).2.2
    · simp [byteE, V.pure]
    · have hil : i < len := by rw [← hbm]; exact (List.getElem?_eq_some_iff.1 hi).1
      obtain ⟨n, h1, h2, h3, h4⟩ := hget i hil
      rw [List.getElem?_map, h4] at hi
      simp at hi
      subst hi
      have hj0 : j = 0 := by
        have := (List.getElem?_eq_some_iff.1 hj).1
        simp [byteE] at this; exact this
      subst hj0
      simp [byteE] at hj
      subst hj
      have hzs : zs.getD i 0 = n := by simp [h1]
      rw [hzs]
      have hmx : max n 0 % 256 = n := by omega
      simp [hmx]
      exact .int _ _
end Go.Proofs.Ytogibebpoliolaa.Ab
namespace Go.Proofs.Ytogibebpoliolaa.Ab
open Go.RowKit
set_option linter.unusedVariables false
/-! The arguments of a law: any data of numbers, texts, truths, structs and rows of these. -/
/-- The cells of a type, one behind the other. -/
inductive CT where
  | nil
  | bool (r : CT)
  | int (k : IntKind) (r : CT)
  | str (r : CT)
  | slc (row : CT) (r : CT)
def CT.len : CT → Nat
  | .nil => 0
  | .bool r | .int _ r | .str r | .slc _ r => r.len + 1
def CT.app : CT → CT → CT
  | .nil, s => s
  | .bool r, s => .bool (r.app s)
  | .int k r, s => .int k (r.app s)
  | .str r, s => .str (r.app s)
  | .slc w r, s => .slc w (r.app s)
def Typed : CT → List V → Prop
  | .nil, vs => vs = []
  | .bool r, vs => ∃ b vs', vs = .bool b :: vs' ∧ Typed r vs'
  | .int k r, vs => ∃ n vs', vs = .int k n :: vs' ∧ (k.min ≤ n ∧ n ≤ k.max) ∧ Typed r vs'
  | .str r, vs => ∃ s vs', vs = .str s :: vs' ∧ s.length ≤ maxLen ∧ Typed r vs'
  | .slc w r, vs => ∃ u vs', vs = u :: vs' ∧ (u = .nils ∨ ∃ es, u = .islc w.len es ∧ es.length ≤ maxLen ∧ ∀ e ∈ es, Typed w e) ∧ Typed r vs'
theorem Typed.len : ∀ {c : CT} {vs : List V}, Typed c vs → vs.length = c.len
  | .nil, vs, h => by simp [Typed] at h; simp [h, CT.len]
  | .bool r, vs, h => by obtain ⟨b, vs', rfl, h⟩ := h; simp [CT.len, h.len]
  | .int k r, vs, h => by obtain ⟨b, vs', rfl, _, h⟩ := h; simp [CT.len, h.len]
  | .str r, vs, h => by obtain ⟨b, vs', rfl, _, h⟩ := h; simp [CT.len, h.len]
  | .slc w r, vs, h => by obtain ⟨b, vs', rfl, _, h⟩ := h; simp [CT.len, h.len]
theorem Typed.app : ∀ {c d : CT} {vs us : List V}, Typed c vs → Typed d us → Typed (c.app d) (vs ++ us)
  | .nil, d, vs, us, h, k => by simp [Typed] at h; simp [h, CT.app, k]
  | .bool r, d, vs, us, h, k => by obtain ⟨b, vs', rfl, h⟩ := h; exact ⟨b, vs' ++ us, rfl, h.app k⟩
  | .int _ r, d, vs, us, h, k => by obtain ⟨b, vs', rfl, h1, h⟩ := h; exact ⟨b, vs' ++ us, rfl, h1, h.app k⟩
  | .str r, d, vs, us, h, k => by obtain ⟨b, vs', rfl, h1, h⟩ := h; exact ⟨b, vs' ++ us, rfl, h1, h.app k⟩
  | .slc w r, d, vs, us, h, k => by obtain ⟨b, vs', rfl, h1, h⟩ := h; exact ⟨b, vs' ++ us, rfl, h1, h.app k⟩
theorem CT.app_len : ∀ (c d : CT), (c.app d).len = c.len + d.len
  | .nil, d => by simp [CT.app, CT.len]
  | .bool r, d | .int _ r, d | .str r, d | .slc _ r, d => by simp [CT.app, CT.len, CT.app_len r d]; omega
/-- A struct's fields: one behind the other, and all that there is. -/
def ctFs (P : Program) (ct : TypeId → Option CT) : Nat → List Field → Option CT
  | _, [] => some .nil
  | o, f :: fs => if f.offset = o then (ct f.type).bind fun c => if c.len = P.cellsOf f.type then (ctFs P ct (o + c.len) fs).map (c.app ·) else none else none
def ctOf (P : Program) : Nat → TypeId → Option CT
  | 0, _ => none
  | n + 1, t => match P.underlying t with
    | some .bool => some (.bool .nil)
    | some (.int k) => some (.int k .nil)
    | some .string => some (.str .nil)
    | some (.slice e) => (ctOf P n e).bind fun w => if 0 < w.len ∧ w.len = P.cellsOf e then some (.slc w .nil) else none
    | some (.struct fs) => (ctFs P (ctOf P n) 0 fs.toList).bind fun c => if c.len = P.cellsOf t then some c else none
    | _ => none
def RelL (W : World) (vs : List V) (cs : List Value) : Prop :=
  vs.length = cs.length ∧ ∀ (i : Nat) (v : V) (c : Value), vs[i]? = some v → cs[i]? = some c → Rel φ0 (I0 W) W v c ∧ c.oneCell' = true ∧ v.pure = true
theorem RelL.one {W : World} {v : V} {c : Value} (h : Rel φ0 (I0 W) W v c) (hc : c.oneCell' = true) (hp : v.pure = true) : RelL W [v] [c] :=
  ⟨rfl, fun i v' c' h1 h2 => by
    cases i with
    | zero => simp at h1 h2; subst h1; subst h2; exact ⟨h, hc, hp⟩
    | succ i => simp at h1⟩
theorem RelL.app {W : World} {vs us : List V} {cs ds : List Value} (h : RelL W vs cs) (k : RelL W us ds) : RelL W (vs ++ us) (cs ++ ds) :=
  ⟨by simp [h.1, k.1], fun i v c h1 h2 => by
    by_cases hi : i < vs.length
    · rw [List.getElem?_append_left hi] at h1
      rw [List.getElem?_append_left (by rw [← h.1]; exact hi)] at h2
      exact h.2 i v c h1 h2
    · rw [List.getElem?_append_right (by omega)] at h1
      rw [List.getElem?_append_right (by rw [← h.1]; omega), ← h.1] at h2
      exact k.2 _ v c h1 h2⟩
theorem rows_of {Q : Nat → List V → Prop} : ∀ (n : Nat), (∀ i, i < n → ∃ e, Q i e) → ∃ es : List (List V), es.length = n ∧ ∀ (i : Nat) e, es[i]? = some e → Q i e
  | 0, _ => ⟨[], rfl, fun i e h => by simp at h⟩
  | n + 1, h => by
    obtain ⟨es, h1, h2⟩ := rows_of n fun i hi => h i (by omega)
    obtain ⟨e, he⟩ := h n (by omega)
    refine ⟨es ++ [e], by simp [h1], fun i e' hi => ?_⟩
    by_cases hl : i < es.length
    · rw [List.getElem?_append_left hl] at hi; exact h2 i e' hi
    · rw [List.getElem?_append_right (by omega)] at hi
      have : i - es.length = 0 := by
        rcases Nat.eq_zero_or_pos (i - es.length) with h | h
        · exact h
        · rw [List.getElem?_eq_none (by simp; omega)] at hi; simp at hi
      rw [this] at hi; simp at hi; subst hi
      rw [show i = n by omega]; exact he
theorem cell_at {W : World} {a : Addr} {c : Value} (h : W.cell? a = some c) : a.spot = none ∧ a.block < W.heap.size := by
  unfold World.cell? at h
  split at h
  · rename_i hh
    split at h
    · simp at h
    · rename_i hs
      refine ⟨by simpa using hs, ?_⟩
      rcases Nat.lt_or_ge a.block W.heap.size with h' | h'
      · exact h'
      · rw [Array.getElem?_eq_none h'] at hh; simp at hh
  · simp at h
theorem add_at {a : Addr} (hs : a.spot = none) (k : Nat) : a.add k = ⟨a.block, a.off + k, none⟩ := by
  unfold Addr.add
  split
  · rename_i h; subst h; cases a; simp_all
  · rfl
section
variable {H : Type} {enc : TypeId × Value → H} {P : Program} {W : World} {sp : Nat → Bool} {held : Bool}
theorem read_fs {ct : TypeId → Option CT} {n : Nat} {cs : List Value} (hct : ∀ t c cs x, ct t = some c → DataW.trod enc P W 0 sp held n t cs = some x → ∃ vs, RelL W vs cs ∧ Typed c vs) :
    ∀ (fs : List Field) (o : Nat) (c : CT), ctFs P ct o fs = some c → (∀ f ∈ fs, ∃ x, DataW.trod enc P W 0 sp held n f.type ((cs.drop f.offset).take (P.cellsOf f.type)) = some x) →
      ∃ vs, RelL W vs ((cs.drop o).take c.len) ∧ Typed c vs
  | [], o, c, h, _ => by
    simp only [ctFs, Option.some.injEq] at h; subst h
    exact ⟨[], ⟨by simp [CT.len], fun i v c h => by simp at h⟩, rfl⟩
  | f :: fs, o, c, h, hf => by
    simp only [ctFs] at h
    split at h
    · rename_i ho
      obtain ⟨c1, hc1, h⟩ := Option.bind_eq_some_iff.1 h
      split at h
      · rename_i hl
        obtain ⟨c2, hc2, rfl⟩ := Option.map_eq_some_iff.1 h
        obtain ⟨x, hx⟩ := hf f (by simp)
        obtain ⟨v1, r1, t1⟩ := hct _ _ _ _ hc1 hx
        obtain ⟨v2, r2, t2⟩ := read_fs hct fs _ c2 hc2 fun g hg => hf g (by simp [hg])
        refine ⟨v1 ++ v2, ?_, t1.app t2⟩
        have := r1.app r2
        rw [CT.app_len]
        rw [ho, ← hl, ← List.drop_drop] at this
        rwa [List.take_add]
      · simp at h
    · simp at h
theorem read : ∀ (n : Nat) (fuel : Nat) (t : TypeId) (c : CT) (cs : List Value) (x : DataW H × List MemPlace), ctOf P n t = some c → DataW.trod enc P W 0 sp held fuel t cs = some x → ∃ vs, RelL W vs cs ∧ Typed c vs
  | 0, _, _, _, _, _, h, _ => by simp [ctOf] at h
  | n + 1, fuel, t, c, cs, x, h, hx => by
    simp only [ctOf] at h
    split at h
    · rename_i ht
      simp only [Option.some.injEq] at h; subst h
      obtain ⟨b, rfl, _⟩ := DataW.trod_bool ht hx
      exact ⟨[.bool b], .one (.bool b) rfl rfl, b, [], rfl, rfl⟩
    · rename_i k ht
      simp only [Option.some.injEq] at h; subst h
      obtain ⟨b, rfl, _, hw⟩ := DataW.trod_int ht hx
      simp only [Lit.wf, Bool.and_eq_true, decide_eq_true_eq] at hw
      exact ⟨[.int k b], .one (.int k b) rfl rfl, b, [], rfl, hw, rfl⟩
    · rename_i ht
      simp only [Option.some.injEq] at h; subst h
      obtain ⟨s, rfl, _, hm⟩ := DataW.trod_string ht hx
      exact ⟨[.str s.data.toList], .one (.str rfl) rfl rfl, _, [], rfl, by simpa using hm, rfl⟩
    · rename_i e ht
      obtain ⟨w, hw, h⟩ := Option.bind_eq_some_iff.1 h
      split at h
      · rename_i hl
        simp only [Option.some.injEq] at h; subst h
        rcases Deep.open_slice ht hx with ⟨rfl, _⟩ | ⟨a, len, cap, m, k, D, Pl, rfl, _, hlc, hcm, hmm, _, hel⟩
        · exact ⟨[.nils], .one .nils rfl rfl, .nils, [], rfl, .inl rfl, rfl⟩
        · have hlm : len ≤ m := by rw [hmm]; split <;> omega
          obtain ⟨es, hes, hq⟩ := rows_of (Q := fun i e' => ∃ cs', W.cells? 0 (a.add (i * P.cellsOf e)) (P.cellsOf e) = some cs' ∧ RelL W e' cs' ∧ Typed w e') len fun i hi => by
            obtain ⟨cs', h1, h2⟩ := hel i (by omega)
            obtain ⟨vs, h3, h4⟩ := read n _ _ _ _ _ hw h2
            exact ⟨vs, cs', h1, h3, h4⟩
          have cel : ∀ i j e', es[i]? = some e' → j < w.len → ∃ c v, W.cell? (a.add (i * w.len + j)) = some c ∧ e'[j]? = some v ∧ Rel φ0 (I0 W) W v c ∧ c.oneCell' = true ∧ v.pure = true := fun i j e' hi hj => by
            obtain ⟨cs', h1, h2, h3⟩ := hq i e' hi
            obtain ⟨_, h4, h5⟩ := World.cells?_some h1
            have hjl : j < cs'.length := by rw [h4, ← hl.2]; exact hj
            have hc : cs'[j]? = some cs'[j] := List.getElem?_eq_getElem hjl
            have hv : e'[j]? = some (e'[j]'(by rw [h3.len]; exact hj)) := List.getElem?_eq_getElem _
            refine ⟨_, _, ?_, hv, h2.2 j _ _ hv hc⟩
            have := h5 j (by rw [← h4]; exact hjl)
            rw [hc, ← hl.2] at this
            have aa : (a.add (i * w.len)).add j = a.add (i * w.len + j) := by
              unfold Addr.add
              by_cases h1 : i * w.len = 0 <;> by_cases h2 : j = 0 <;> simp [h1, h2, Nat.add_assoc]
            rw [aa] at this
            exact this
          have hsp : es ≠ [] → a.spot = none ∧ a.block < W.heap.size := fun hne => by
            have h0 : 0 < es.length := List.length_pos_iff.2 hne
            obtain ⟨c, v, h1, _⟩ := cel 0 0 _ (List.getElem?_eq_getElem h0) hl.1
            have := cell_at h1
            simpa [Addr.add] using this
          have hidx : ∀ i j, i < es.length → a.add (i * w.len + j) = ⟨a.block, a.off + i * w.len + j, none⟩ := fun i j hi => by
            rw [add_at (hsp (fun e => by simp [e] at hi)).1, Nat.add_assoc]
          have key := Rel.islc (φ := φ0) (I := I0 W) (w := W) (z := w.len) (es := es) (b := a.block) (o := a.off) (cap := cap) (a := a) (cs := fun i j => (W.cell? ⟨a.block, a.off + i * w.len + j, none⟩).getD undef)
            (by omega) (fun hne => ⟨by cases a; have := (hsp hne).1; simp_all, (hsp hne).2⟩) (fun e' he => by
              obtain ⟨i, hi⟩ := List.mem_iff_getElem?.1 he
              obtain ⟨_, _, _, h3⟩ := hq i e' hi
              exact h3.len)
            (fun i j hi hj => by
              obtain ⟨c, v, h1, _⟩ := cel i j _ (List.getElem?_eq_getElem hi) hj
              rw [hidx i j hi] at h1; rw [h1]; rfl)
            (fun i j hi hj => by
              obtain ⟨c, v, h1, _, _, h4, _⟩ := cel i j _ (List.getElem?_eq_getElem hi) hj
              rw [hidx i j hi] at h1; simp only [h1]; exact h4)
            (by
              rw [List.all_eq_true]; intro e' he
              obtain ⟨i, hi⟩ := List.mem_iff_getElem?.1 he
              rw [List.all_eq_true]; intro v hv
              obtain ⟨j, hj⟩ := List.mem_iff_getElem?.1 hv
              obtain ⟨_, _, h2, h3⟩ := hq i e' hi
              have hjl := (List.getElem?_eq_some_iff.1 hj).1
              rw [h3.len] at hjl
              obtain ⟨c, v', _, h1, _, _, h5⟩ := cel i j e' hi hjl
              rw [hj] at h1; simp at h1; subst h1; exact h5)
            (fun i j e' v hi hj => by
              have hil := (List.getElem?_eq_some_iff.1 hi).1
              obtain ⟨_, _, h2, h3⟩ := hq i e' hi
              have hjl := (List.getElem?_eq_some_iff.1 hj).1
              rw [h3.len] at hjl
              obtain ⟨c, v', h0, h1, h4, _, _⟩ := cel i j e' hi hjl
              rw [hj] at h1; simp at h1; subst h1
              rw [hidx i j hil] at h0; simp only [h0]; exact h4)
          rw [hes] at key
          refine ⟨[.islc w.len es], .one key rfl rfl, _, [], rfl, .inr ⟨es, rfl, by omega, fun e' he => ?_⟩, rfl⟩
          obtain ⟨i, hi⟩ := List.mem_iff_getElem?.1 he
          obtain ⟨_, _, _, h3⟩ := hq i e' hi
          exact h3
      · simp at h
    · rename_i fs ht
      obtain ⟨c', hc', h⟩ := Option.bind_eq_some_iff.1 h
      split at h
      · rename_i hl
        simp only [Option.some.injEq] at h; subst h
        obtain ⟨xs, k, _, _, hlen, hxs, hf⟩ := DataW.trod_struct ht hx
        obtain ⟨vs, h1, h2⟩ := read_fs (cs := cs) (ct := ctOf P n) (n := k) (fun t c cs x hc hx => read n k t c cs x hc hx) fs.toList 0 c' hc' (fun f hf' => by
          obtain ⟨i, hi⟩ := List.mem_iff_getElem?.1 hf'
          have hi' : fs[i]? = some f := by simpa using hi
          have := hf i f hi'
          have hil : i < xs.length := by rw [hxs]; exact (Array.getElem?_eq_some_iff.1 hi').1
          rw [List.getElem?_eq_getElem hil] at this
          exact ⟨_, this⟩)
        refine ⟨vs, ?_, h2⟩
        rw [hl, ← hlen] at h1
        simpa using h1
      · simp at h
    · simp at h
end
/-! A law's arguments. -/
inductive AT where
  | one (c : CT)
  | agg (c : CT)
def atOf (P : Program) (n : Nat) (t : TypeId) : Option AT :=
  (ctOf P n t).bind fun c => (P.underlying t).map fun d => if isAggD d then .agg c else .one c
def TypedU : AT → V → Prop
  | .one c, u => Typed c [u]
  | .agg c, u => ∃ xs, u = .agg xs ∧ Typed c xs
def TypedA : List AT → List V → Prop
  | [], us => us = []
  | a :: atl, us => ∃ u us', us = u :: us' ∧ TypedU a u ∧ TypedA atl us'
section
open WideShapes ChangeShapes
variable {H : Type} {enc : TypeId × Value → H} {P : Program} {W : World} {sp : Nat → Bool} {held : Bool} {base : Nat}
theorem read1 {n : Nat} {t : TypeId} {v : Value} {d : DataW H} {ps : List MemPlace} {a : AT} (ha : atOf P n t = some a) (hv : Value.okWide P W .any base t v) (h : DataW.Trod enc P W 0 sp held t v d ps) : ∃ u, Rel φ0 (I0 W) W u v ∧ TypedU a u := by
  obtain ⟨fuel, h⟩ := h
  simp only [atOf, Option.bind_eq_some_iff, Option.map_eq_some_iff] at ha
  obtain ⟨c, hc, dsc, hd, rfl⟩ := ha
  obtain ⟨vs, hr, ht⟩ := read n fuel t c _ _ hc h
  have single : v.cells.toList = [v] → isAggD dsc = false → ∃ u, Rel φ0 (I0 W) W u v ∧ TypedU (if isAggD dsc then AT.agg c else AT.one c) u := fun hv1 hag => by
    rw [hv1] at hr
    match vs, hr.1 with
    | [u], _ => exact ⟨u, (hr.2 0 u v rfl rfl).1, by rw [hag]; exact ht⟩
  cases n with
  | zero => simp [ctOf] at hc
  | succ n =>
    simp only [ctOf, hd] at hc
    cases dsc <;> simp only [reduceCtorEq] at hc
    case bool => obtain ⟨b, rfl⟩ := okWide_bool hd hv; exact single rfl rfl
    case int => obtain ⟨b, rfl⟩ := okWide_int hd hv; exact single rfl rfl
    case string => obtain ⟨b, rfl⟩ := okWide_string hd hv; exact single rfl rfl
    case slice => obtain ⟨a, b, c, rfl⟩ := okWide_slice hd hv; exact single rfl rfl
    case struct =>
      obtain ⟨cs, rfl, _⟩ := okWide_struct hd hv
      refine ⟨.agg vs, .agg (by simpa [Value.cells] using hr.1.symm) (fun i u hu => ?_), vs, rfl, ht⟩
      have hi := (List.getElem?_eq_some_iff.1 hu).1
      have hc : cs.toList[i]? = some (cs.getD i undef) := by
        have : i < cs.size := by have := hr.1; simp [Value.cells] at this; omega
        simp [this]
      exact (hr.2 i u _ hu hc).1
theorem readA {n : Nat} : ∀ {ts : List TypeId} {vs : List Value} {ds : List (DataW H)} {ps : List MemPlace} {atl : List AT}, ts.mapM (atOf P n) = some atl → (∀ (j : Nat) t v, ts[j]? = some t → vs[j]? = some v → Value.okWide P W .any base t v) →
    DataW.TrodAll enc P W 0 sp held ts vs ds ps → ∃ us : List V, (vs.length = us.length ∧ ∀ (i : Nat) u, us[i]? = some u → Rel φ0 (I0 W) W u (vs.getD i undef)) ∧ TypedA atl us
  | [], vs, ds, ps, atl, ha, hv, h => by
    obtain ⟨rfl, _, _⟩ := trodAll_nil h
    simp at ha; subst ha
    exact ⟨[], ⟨rfl, fun i u h => by simp at h⟩, rfl⟩
  | t :: ts, vs, ds, ps, atl, ha, hv, h => by
    obtain ⟨v, vs, d, ds, p, q, rfl, rfl, rfl, h1, h2⟩ := trodAll_cons h
    rw [List.mapM_cons] at ha
    simp only [Option.bind_eq_bind, Option.bind_eq_some_iff, Option.pure_def, Option.some.injEq] at ha
    obtain ⟨a, ha1, atl', ha2, rfl⟩ := ha
    obtain ⟨u, hu1, hu2⟩ := read1 ha1 (hv 0 t v rfl rfl) h1
    obtain ⟨us, ⟨hl, hus⟩, hus2⟩ := readA ha2 (fun j t' v' h3 h4 => hv (j + 1) t' v' (by simpa using h3) (by simpa using h4)) h2
    refine ⟨u :: us, ⟨by simp [hl], fun i w hw => ?_⟩, u, us, rfl, hu2, hus2⟩
    cases i with
    | zero => simp at hw; subst hw; exact hu1
    | succ i => simpa using hus i w (by simpa using hw)
theorem trodAll_below (hl : laidOutB P = true) {W' : World} (hb : Below W.heap.size W W') : ∀ {ts : List TypeId} {vs : List Value} {ds : List (DataW H)} {ps : List MemPlace}, (∀ t ∈ ts, P.readableRec t = true ∧ t < P.types.size) →
    DataW.TrodAll enc P W 0 (fun _ => true) true ts vs ds ps → DataW.TrodAll enc P W' 0 (fun b => decide (b < W.heap.size)) true ts vs ds ps
  | [], vs, ds, ps, _, h => by
    obtain ⟨rfl, rfl, rfl⟩ := trodAll_nil h
    exact trodAll_mk0
  | t :: ts, vs, ds, ps, ht, h => by
    obtain ⟨v, vs, d, ds, p, q, rfl, rfl, rfl, h1, h2⟩ := trodAll_cons h
    obtain ⟨ht1, ht2⟩ := ht t (by simp)
    have lt : ∀ x ∈ p, x.block < W.heap.size := by obtain ⟨m, hm⟩ := h1; exact DataW.trod_lt m _ _ _ hm
    exact trodAll_cons_mk (Below.trod hl ht1 ht2 h1 hb lt) (trodAll_below hl hb (fun t h => ht t (by simp [h])) h2)
/-- A law's call, whatever the arguments. -/
theorem law_top {k : FuncId} {n : Nat} {ts : List TypeId} {vs : List Value} {ds : List (DataW H)} {ps : List MemPlace} {ats : List AT} (hl : laidOutB P = true) (has : ts.mapM (atOf P n) = some ats) (hrd : ∀ t ∈ ts, P.readableRec t = true ∧ t < P.types.size)
    (hv : ∀ (j : Nat) t v, ts[j]? = some t → vs[j]? = some v → Value.okWide P W .any base t v) (h : DataW.TrodAll enc P W 0 (fun _ => true) true ts vs ds ps) (hc : ∀ us, TypedA ats us → CCalls P k us (σ0 W) (fun o _ => o = .ret (.bool true))) :
    Calls P k vs.toArray W fun e w' => e = .returned (.bool true) ∧ Below W.heap.size W w' ∧ DataW.TrodAll enc P w' 0 (fun b => decide (b < W.heap.size)) true ts vs ds ps := by
  obtain ⟨us, ⟨h1, h2⟩, h3⟩ := readA has hv h
  refine (calls_top (hc us h3) ⟨by simpa using h1, fun i u hu => ?_⟩).mono fun e w' ⟨he, hb⟩ => ⟨he, hb, trodAll_below hl hb hrd h⟩
  have := h2 i u hu
  simpa [Array.getD_eq_getD_getElem?, List.getD_eq_getElem?_getD] using this
end
theorem typed_bytes {u : V} (h : Typed (.slc (.int .u8 .nil) .nil) [u]) : ∃ b, (∀ σ, Bs σ u b) ∧ u.row = none ∧ b.length ≤ maxLen := by
  obtain ⟨u', _, e, h, rfl⟩ := h
  simp at e; subst e
  rcases h with rfl | ⟨es, rfl, hm, hes⟩
  · exact ⟨[], fun σ => rfl, rfl, by simp⟩
  · have : ∃ b : List UInt8, es = b.map byteE := by
      clear hm
      induction es with
      | nil => exact ⟨[], rfl⟩
      | cons e es ih =>
        obtain ⟨b, rfl⟩ := ih fun e' he => hes e' (by simp [he])
        obtain ⟨n, _, rfl, hn, rfl⟩ := hes e (by simp)
        have h1 : 0 ≤ n ∧ n < 256 := by simp [IntKind.min, IntKind.max, IntKind.signed, IntKind.bits] at hn; omega
        refine ⟨UInt8.ofNat n.toNat :: b, ?_⟩
        simp [byteE]
        omega
    obtain ⟨b, rfl⟩ := this
    exact ⟨b, fun σ => by simp [Bs, Rd, cont, CT.len], rfl, by simpa using hm⟩
end Go.Proofs.Ytogibebpoliolaa.Ab
