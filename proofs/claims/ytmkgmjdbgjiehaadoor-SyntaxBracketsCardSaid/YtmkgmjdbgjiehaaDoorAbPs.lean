/-
The walk over the program's texts, told with what its values say: a part of it. No further condition.
-/
import Derived.Test.YtmkgmjdbgjiehaaDoorAbSwA
import Derived.KernelRfl
namespace Go.Proofs.YtmkgmjdbgjiehaaDoor
open Go.Proofs.YtmkgmjdbgjiehaaDoor.Ab
set_option linter.unusedVariables false
set_option linter.unusedSimpArgs false
attribute [local simp] Gr.refl Gr.new Gr.set Gr.kill Nat.add_assoc r_ckk chk_x chk_n
variable {B : Int}
def Wr (B : Int) (e : Ex) : Prop := ∀ σ : St, ev ET 40 [exV B e] σ = some (.ret (.str (ba e)), σ)
theorem show_ev {e : Ex} (hw : Wr B e) (hk : Okx e) (hn : 80 * nd e < 2 ^ 46) {σ : St} (least : Nat) : ev ET 22 [exV B e, .int .i64 least] σ = some (.ret (.str (sh e least)), σ) := by
  have hlen := ba_len e hk
  have hk27 : e.kind ≤ 27 := by
    cases e with
    | mk k nm m l fr to => rw [Okx] at hk; have := hk.1; simp only [Ex.kind]; unfold wfK at this; omega
  have hb := fun σ' : St => binds_ev (E := ET) rfl (σ := σ') hk27
  obtain ⟨s, hs⟩ : ∃ s, s = ba e := ⟨_, rfl⟩
  have hx := exE_len B e
  have hxs := exE_sc B e
  have h0 : (exE B e)[0]? = some (.int .i64 e.kind) := by cases e; rfl
  unfold Wr at hw
  refine ev_pure (fd := f22) (o := .ret (.str (sh e least))) (σ' := σ.new (.row 7 [exE B e])) rfl (by simp [f22]) rfl ?_ (fun j hj => by simp [show j ≠ σ.n by omega]) rfl (by simp)
  rw [sh_eq]
  rw [← hs] at hlen ⊢
  simp only [← hs] at hw
  unfold exV at hw ⊢
  obtain ⟨kk, hkk⟩ : ∃ k, k = e.kind := ⟨_, rfl⟩
  rw [← hkk] at h0 hb ⊢
  obtain ⟨es, hes⟩ : ∃ es, es = exE B e := ⟨_, rfl⟩
  rw [← hes] at hx hxs h0 hw ⊢
  obtain ⟨a, b, c, d, f, g, h, he⟩ := exE_ex B e
  rw [← hes] at he
  subst he
  simp only [List.getElem?_cons_zero, Option.some.injEq] at h0
  subst h0
  clear hes hx
  simp only [List.mem_cons, List.not_mem_nil, or_false, forall_eq_or_imp, forall_eq] at hxs
  obtain ⟨x1, x2, x3, x4, x5, x6, x7⟩ := hxs
  by_cases hlt : bindsK kk < least
  · have hlt' : (bindsK kk : Int) < (least : Int) := by omega
    have l1 : 1 + s.length ≤ 9223372036854775807 := by omega
    have l3 : s.length + 1 ≤ 9223372036854775807 := by omega
    have l2 : s.length + 1 + 1 ≤ 9223372036854775807 := by omega
    rw [if_pos hlt]
    simp [f22, d22, x2, x3, x4, x5, x6, x7, hw, hb, hlt, l1, l2, l3]
  · rw [if_neg hlt]
    simp [f22, d22, x2, x3, x4, x5, x6, x7, hw, hb, hlt]
def LQ (σ0 : St) (l : List Ex) (f' : Fr) (σ' : St) : Prop := ∃ v, Own σ0 σ' 1 v (l.map fun e => [V.str (sh e 0)]) ∧ f'.ds = [] ∧ f'.env 3 = v
theorem list_loop {σ0 : St} {l : List Ex} (hl : l.length ≤ 1000) (hw : ∀ e ∈ l, Wr B e ∧ Okx e ∧ 80 * nd e < 2 ^ 46) {rs : List RC} {st : List SE} {B0 : D} (hB0 : B0 = b64_0) :
    ∀ (r : List Ex) (i : Nat) (u : V) (f : Fr) (σ : St), l.drop i = r → i + r.length = l.length → Own σ0 σ 1 u ((l.take i).map fun e => [V.str (sh e 0)]) → f.ds = [] → f.env 3 = u → f.env 6 = argV (exsE B l) → f.env 7 = .int .i64 l.length → f.env 8 = .int .i64 i →
      Lands ET false rs st (LQ σ0 l) (run ET false rs (.d (.loop [3, 6, 7, 8] B0) :: .blk 0 :: st) f σ)
  | [], i, u, f, σ, hdr, hi, ho, hd, e3, e6, e7, e8 => by
    rw [r_loopU hB0]
    have h : ¬ i < l.length := by simp at hi; omega
    simp [b64_0, hd, e3, e6, e7, e8, h]
    refine .here ⟨u, ?_, by simp, by simp⟩
    rwa [List.take_of_length_le (by omega)] at ho
  | e :: r, i, u, f, σ, hdr, hi, ho, hd, e3, e6, e7, e8 => by
    rw [r_loopU hB0]
    have hlt : i < l.length := by simp at hi; omega
    have hge : l[i]? = some e := by
      have := congrArg (·[0]?) hdr
      simpa using this
    have hdr' : l.drop (i + 1) = r := by rw [← List.drop_drop, hdr]; rfl
    obtain ⟨hwe, hke, hne⟩ := hw e (List.mem_of_getElem? hge)
    have hsh := fun σ' : St => show_ev hwe hke hne (σ := σ') 0
    have h64 : IntKind.i64.wrap ((i : Int) + 1) = ((i + 1 : Nat) : Int) := by rw [IntWalk.i64_in _ (by omega)]; omega
    have hR := fun σ' : St => (argV_tl B l).rd (σ := σ')
    have hat := fun σ' => (hR σ').at (k := .i64) (i := i) (by simpa using hlt)
    have hget : (l.map (exE B))[i]? = some (exE B e) := by rw [List.getElem?_map, hge]; rfl
    have hlda := fun σ' => (hR σ').lda hget (m := 7) (exE_len B e).symm
    have hx := exE_len B e
    have hxs := exE_sc B e
    obtain ⟨v, hv⟩ : ∃ v, v = argV (exsE B l) := ⟨_, rfl⟩
    rw [← hv] at hat hlda e6
    have htk : (exE B e).take 7 = exE B e := exE_take B e
    unfold exV at hsh
    have ho1 := ho.step (((Gr.refl σ).new (.row 7 [z7])).set (l := σ.n) (Nat.le_refl _) (.row 7 [exE B e]))
    obtain ⟨w, τ, a1, a2⟩ := ho1.app1 [[V.str (sh e 0)]] (by simp) (bytes := 16) (by simp [reach]; omega) (by simp [reach]; omega) (n := 1) rfl
    have hcast : (0 : Int) = ((0 : Nat) : Int) := rfl
    have ih := fun f' => list_loop hl hw (rs := rs) (st := st) hB0 r (i + 1) w f' τ hdr' (by simp at hi; omega) (by
      rw [List.take_add_one, hge, List.map_append]; exact a2)
    obtain ⟨i', hi'⟩ : ∃ k, k = i + 1 := ⟨_, rfl⟩
    simp only [← hi'] at h64 ih
    simp only [z7] at a1
    obtain ⟨s1, hs1⟩ : ∃ s1, s1 = (σ.new (.row 7 [[.int .i64 0, .str [], .bool false, .nils, .nils, .int .i64 0, .int .i64 0]])).set σ.n (.row 7 [exE B e]) := ⟨_, rfl⟩
    have hs1n : s1.n = σ.n + 1 := by rw [hs1]; rfl
    have hs1H : s1.H σ.n = some (.row 7 [exE B e]) := by rw [hs1]; simp
    rw [← hs1] at a1
    have hsh0 := hsh s1
    rw [show ((0 : Nat) : Int) = 0 from rfl] at hsh0
    simp [b64_0, hd, e3, e6, e7, e8, hlt, hat, hlda, hx, eq_true hxs, ← hs1, hs1H, htk, hsh0, a1, h64]
    exact ih _ (by simp) (by simp) (by simp [hv]) (by simp) (by simp)
theorem list_ev {l : List Ex} (hl : l.length ≤ 1000) (hw : ∀ e ∈ l, Wr B e ∧ Okx e ∧ 80 * nd e < 2 ^ 46) (hj : 80 * nds l < 2 ^ 46) (hok : Okxs l) {σ : St} : ev ET 64 [argV (exsE B l)] σ = some (.ret (.str (Lib.join (l.map (sh · 0)) [44, 32])), σ) := by
  suffices h : ∃ τ, run ET false f64.res [.d f64.body] ⟨envOf [argV (exsE B l)], []⟩ σ = some (.ret (.str (Lib.join (l.map (sh · 0)) [44, 32])), τ) ∧ Gr σ τ by
    obtain ⟨τ, h, g⟩ := h
    exact ev_pure (fd := f64) rfl (by simp [f64]) rfl h g.H g.W (by simp)
  have hlen := ((argV_tl B l).rd (σ := σ)).len
  simp only [List.length_map] at hlen
  have hloop := fun f a b c d e => list_loop hl hw (B0 := b64_0) rfl (σ0 := σ) (rs := f64.res) (st := [.d (.kb [3] (.seq (.reg [⟨some 18, none, .mv (.t 3)⟩, ⟨some 19, none, .call 20 [.t 18, .c (.str [44, 32])]⟩, ⟨some 2, none, .mv (.t 19)⟩]) .ret))]) l 0 .nils f σ rfl (by simp) (Own.nils σ 1) a b c d e
  have hjl := join_len [44, 32] (l.map (sh · 0))
  have hs := sum_nds (l := l) fun e he => ba_len e (Okxs_mem hok e he)
  simp [f64, d64, hlen]
  refine Lands.to (C := fun r => ∃ τ, r = some (CO.ret (V.str (Lib.join (l.map (sh · 0)) [44, 32])), τ) ∧ Gr σ τ) (hloop _ (by simp) (by simp) (by simp) (by simp) (by simp)) fun f' σ' ⟨v, a1, a2, a3⟩ => ?_
  have hst := strL_rd (σ := σ') (v := v) (l := l.map (sh · 0)) (by rw [List.map_map]; exact a1.rd)
  have hjv := join_ev (sep := [44, 32]) hst (by simp; omega) (by omega)
  refine ⟨σ', ?_, a1.gr⟩
  simp [a2, a3, hjv, f64]
end Go.Proofs.YtmkgmjdbgjiehaaDoor
namespace Go.Proofs.YtmkgmjdbgjiehaaDoor
open Go.Proofs.YtmkgmjdbgjiehaaDoor.Ab
set_option linter.unusedVariables false
set_option linter.unusedSimpArgs false
attribute [local simp] Gr.refl Gr.new Gr.set Gr.kill Nat.add_assoc r_ckk chk_x chk_n
variable {B : Int}
set_option maxHeartbeats 4000000 in
theorem bare_ev (hB : B = 4294967296) : ∀ e : Ex, Okx e → 80 * nd e < 2 ^ 46 → Wr B e
  | .mk k nm m l fr to, he, hn => by
    have he' := he
    rw [Okx] at he
    obtain ⟨hk, hl⟩ := he
    have hok := Okxs_mem hl
    have hnd : ∀ a ∈ l, nd a ≤ nds l := fun a ha => by
      clear hk hl he' hn hok
      induction l with
      | nil => simp at ha
      | cons b l ih => simp only [nds]; rcases List.mem_cons.1 ha with rfl | ha; omega; have := ih ha; omega
    simp only [nd] at hn
    have hw : ∀ a ∈ l, Wr B a ∧ Okx a ∧ 80 * nd a < 2 ^ 46 := fun a ha => ⟨bare_ev hB a (hok a ha) (by have := hnd a ha; omega), hok a ha, by have := hnd a ha; omega⟩
    have hsh : ∀ x ∈ l, ∀ (least : Nat) (σ' : St), ev ET 22 [exV B x, .int .i64 least] σ' = some (.ret (.str (sh x least)), σ') := fun x hx least σ' => show_ev (hw x hx).1 (hw x hx).2.1 (hw x hx).2.2 least
    have hll : l.length ≤ 6 := by unfold wfK at hk; omega
    have hlist := fun σ' : St => list_ev (σ := σ') (by omega) hw (by omega) hl
    have harg := fun (i : Nat) (x : Ex) (h : l[i]? = some x) (σ' : St) => arg_ev (E := ET) rfl (B := B) (σ := σ') (k := k) (nm := nm) (m := m) (fr := fr) (to := to) h (by omega)
    have hln : ∀ a ∈ l, ∀ least, (sh a least).length ≤ 80 * nds l := fun a ha least => by
      have h1 := ba_len a (hok a ha); have h2 := sh_len (Nat.le_refl (ba a).length) least; have h3 := hnd a ha; omega
    have hbl := ba_len _ he'
    have hsc : (magV B (m : Int)).scal = true := magV_scal
    have hsc2 := argV_scal (exsE B l)
    intro σ
    refine ev_pure (fd := f40) (o := .ret (.str (ba (.mk k nm m l fr to)))) (σ' := σ.new (.row 7 [exE B (.mk k nm m l fr to)])) rfl (by simp [f40]) rfl ?_ (fun j hj => by simp [show j ≠ σ.n by omega]) rfl (by simp)
    simp only [exV, exE] at hsh harg ⊢
    obtain ⟨v, hv⟩ : ∃ v, v = argV (exsE B l) := ⟨_, rfl⟩
    simp only [← hv] at hsc2 hlist harg ⊢
    have hone : (k = 6 ∨ k = 7 ∨ k = 27) → ∃ x, l = [x] := fun h => List.length_eq_one_iff.1 (by unfold wfK at hk; omega)
    have htwo : (k = 21 ∨ k = 23) → ∃ x y, l = [x, y] := fun h => len_two (by unfold wfK at hk; omega)
    have hthree : k = 22 → ∃ x y z, l = [x, y, z] := fun h => len_three (by unfold wfK at hk; omega)
    have hnm : (k = 5 ∨ k = 21) → nm.length ≤ 24 := fun h => nameOK_len (by unfold wfK at hk; rcases hk with h' | h' | h' | h' | h' | h' | h' | h' | h' <;> first | exact h'.2.1 | omega)
    have hmm : (k = 1 ∨ k = 27) → m < 10 ^ 40 := fun h => by unfold wfK at hk; omega
    have hnum : (k = 1 ∨ k = 27) → (numT m).length ≤ 40 := fun h => numT_len 39 m (hmm h)
    have hne : (k = 1 ∨ k = 27) → ∀ σ' : St, ev ET 23 [.agg [.bool false, magV B m]] σ' = some (.ret (.str (numT m)), σ') := fun h σ' => num_ev hB (hmm h)
    obtain ⟨mv, hmv⟩ : ∃ mv, mv = magV B (m : Int) := ⟨_, rfl⟩
    simp only [← hmv] at hsc harg hne ⊢
    by_cases hk2 : 8 ≤ k ∧ k ≤ 20
    · have hl2 : l.length = 2 := by unfold wfK at hk; omega
      obtain ⟨x, y, rfl⟩ := len_two hl2
      have a1 := harg 0 x rfl
      have a2 := harg 1 y rfl
      have hsg := fun σ' : St => sgn_ev (E := ET) rfl (σ := σ') hk2
      have hb := fun σ' : St => binds_ev (E := ET) rfl (σ := σ') (k := k) (by omega)
      have s1 := hsh x (by simp) (leftK k)
      have s2 := hsh y (by simp) (bindsK k + 1)
      rw [ba_2n hk2 (hok x (by simp)) (hok y (by simp))] at hbl ⊢
      have hb5 : bindsK k ≤ 5 := by unfold bindsK; (repeat' split) <;> omega
      have w1 : IntKind.i64.wrap ((bindsK k : Int) + 1) = ((bindsK k + 1 : Nat) : Int) := by rw [IntWalk.i64_in _ (by omega)]; omega
      obtain ⟨j, hj⟩ : ∃ j, j = bindsK k + 1 := ⟨_, rfl⟩
      rw [← hj] at w1 s2 hbl ⊢
      obtain ⟨t1, ht1⟩ : ∃ t, t = sh x (leftK k) := ⟨_, rfl⟩
      obtain ⟨t2, ht2⟩ : ∃ t, t = sh y j := ⟨_, rfl⟩
      obtain ⟨t3, ht3⟩ : ∃ t, t = signW k := ⟨_, rfl⟩
      simp only [← ht1, ← ht2, ← ht3] at s1 s2 hsg hbl ⊢
      simp only [List.length_append, List.length_cons, List.length_nil, nd] at hbl
      have hn : ∀ j : Nat, j ≤ 7 ∨ 21 ≤ j → ¬ (k : Int) = j := fun j _ => by omega
      have a01 := hn 1 (by omega); have a02 := hn 2 (by omega); have a03 := hn 3 (by omega); have a04 := hn 4 (by omega); have a05 := hn 5 (by omega); have a06 := hn 6 (by omega); have a07 := hn 7 (by omega)
      have a21 := hn 21 (by omega); have a22 := hn 22 (by omega); have a23 := hn 23 (by omega); have a24 := hn 24 (by omega); have a25 := hn 25 (by omega); have a26 := hn 26 (by omega); have a27 := hn 27 (by omega)
      simp only [Int.cast_ofNat_Int] at a01 a02 a03 a04 a05 a06 a07 a21 a22 a23 a24 a25 a26 a27
      simp only [Int.cast_ofNat_Int] at a1 a2
      by_cases h3 : bindsK k = 3
      · have hlk : leftK k = j := by unfold leftK; rw [if_pos h3]; omega
        have h3' : (bindsK k : Int) = 3 := by omega
        rw [hlk] at s1
        rw [h3'] at w1 hb
        have hj4 : j = 4 := by omega
        subst hj4
        have w4 : IntKind.i64.wrap 4 = 4 := rfl
        simp only [Int.cast_ofNat_Int] at s1 s2
        simp [f40, d40, hsc, hsc2, a01, a02, a03, a04, a05, a06, a07, a21, a22, a23, a24, a25, a26, a27, hb, w4, a1, a2, s1, s2, hsg]
        repeat (first | rw [if_pos (by omega)] | simp [s2, a2, hsg])
      · have hlk : leftK k = bindsK k := by unfold leftK; rw [if_neg h3]
        have h3' : ¬ (bindsK k : Int) = 3 := by omega
        rw [hlk] at s1
        simp [f40, d40, hsc, hsc2, a01, a02, a03, a04, a05, a06, a07, a21, a22, a23, a24, a25, a26, a27, hb, h3', w1, a1, a2, s1, s2, hsg]
        repeat (first | rw [if_pos (by omega)] | simp [s2, a2, hsg])
    · have hks : k = 1 ∨ k = 2 ∨ k = 3 ∨ k = 4 ∨ k = 5 ∨ k = 6 ∨ k = 7 ∨ k = 21 ∨ k = 22 ∨ k = 23 ∨ k = 24 ∨ k = 25 ∨ k = 26 ∨ k = 27 := by unfold wfK at hk; omega
      rcases hks with rfl | rfl | rfl | rfl | rfl | rfl | rfl | rfl | rfl | rfl | rfl | rfl | rfl | rfl
      · have hn1 := hne (by simp)
        rw [ba_1]; simp [f40, d40, hsc, hsc2, hn1]
      · rw [ba_2]; simp [f40, d40, hsc, hsc2]
      · rw [ba_3]; simp [f40, d40, hsc, hsc2]
      · rw [ba_4]; simp [f40, d40, hsc, hsc2]
      · rw [ba_5 hl] at hbl ⊢
        obtain ⟨t1, ht1⟩ : ∃ t, t = Lib.join (l.map (sh · 0)) [44, 32] := ⟨_, rfl⟩
        simp only [← ht1] at hlist hbl ⊢
        simp only [List.length_append, List.length_cons, List.length_nil, nd] at hbl
        simp [f40, d40, hsc, hsc2, hlist]
        repeat (first | rw [if_pos (by omega)] | simp [hlist])
      · obtain ⟨x, rfl⟩ := hone (by simp)
        have a1 := harg 0 x rfl
        have s1 := hsh x (by simp) 6
        simp only [Int.cast_ofNat_Int] at a1 s1
        rw [ba_6 (hok x (by simp))] at hbl ⊢
        simp only [List.length_append, List.length_cons, List.length_nil, nd] at hbl
        simp [f40, d40, hsc, hsc2, a1, s1]
        repeat (first | rw [if_pos (by omega)] | simp [s1])
      · obtain ⟨x, rfl⟩ := hone (by simp)
        have a1 := harg 0 x rfl
        have s1 := hsh x (by simp) 6
        simp only [Int.cast_ofNat_Int] at a1 s1
        rw [ba_7 (hok x (by simp))] at hbl ⊢
        simp only [List.length_append, List.length_cons, List.length_nil, nd] at hbl
        simp [f40, d40, hsc, hsc2, a1, s1]
        repeat (first | rw [if_pos (by omega)] | simp [s1])
      · obtain ⟨x, y, rfl⟩ := htwo (by simp)
        have a1 := harg 0 x rfl
        have a2 := harg 1 y rfl
        have s1 := hsh x (by simp) 0
        have s2 := hsh y (by simp) 0
        simp only [Int.cast_ofNat_Int] at a1 s1 a2 s2
        rw [ba_21 (hok x (by simp)) (hok y (by simp))] at hbl ⊢
        simp only [List.length_append, List.length_cons, List.length_nil, nd] at hbl
        simp [f40, d40, hsc, hsc2, a1, s1, a2, s2]
        repeat (first | rw [if_pos (by omega)] | simp [a1, s1, a2, s2])
      · obtain ⟨x, y, z, rfl⟩ := hthree rfl
        have a1 := harg 0 x rfl
        have a2 := harg 1 y rfl
        have a3 := harg 2 z rfl
        have s1 := hsh x (by simp) 0
        have s2 := hsh y (by simp) 0
        have s3 := hsh z (by simp) 0
        simp only [Int.cast_ofNat_Int] at a1 s1 a2 s2 a3 s3
        rw [ba_22 (hok x (by simp)) (hok y (by simp)) (hok z (by simp))] at hbl ⊢
        simp only [List.length_append, List.length_cons, List.length_nil, nd] at hbl
        simp [f40, d40, hsc, hsc2, a1, s1, a2, s2, a3, s3]
        repeat (first | rw [if_pos (by omega)] | simp [a1, s1, a2, s2, a3, s3])
      · obtain ⟨x, y, rfl⟩ := htwo (by simp)
        have a1 := harg 0 x rfl
        have a2 := harg 1 y rfl
        have s1 := hsh x (by simp) 0
        have s2 := hsh y (by simp) 0
        simp only [Int.cast_ofNat_Int] at a1 s1 a2 s2
        rw [ba_23 (hok x (by simp)) (hok y (by simp))] at hbl ⊢
        simp only [List.length_append, List.length_cons, List.length_nil, nd] at hbl
        simp [f40, d40, hsc, hsc2, a1, s1, a2, s2]
        repeat (first | rw [if_pos (by omega)] | simp [a1, s1, a2, s2])
      · rw [ba_24 hl] at hbl ⊢
        obtain ⟨t1, ht1⟩ : ∃ t, t = Lib.join (l.map (sh · 0)) [44, 32] := ⟨_, rfl⟩
        simp only [← ht1] at hlist hbl ⊢
        simp only [List.length_append, List.length_cons, List.length_nil, nd] at hbl
        simp [f40, d40, hsc, hsc2, hlist]
        repeat (first | rw [if_pos (by omega)] | simp [hlist])
      · rw [ba_25 hl] at hbl ⊢
        obtain ⟨t1, ht1⟩ : ∃ t, t = Lib.join (l.map (sh · 0)) [44, 32] := ⟨_, rfl⟩
        simp only [← ht1] at hlist hbl ⊢
        simp only [List.length_append, List.length_cons, List.length_nil, nd] at hbl
        simp [f40, d40, hsc, hsc2, hlist]
        repeat (first | rw [if_pos (by omega)] | simp [hlist])
      · rw [ba_26 hl] at hbl ⊢
        obtain ⟨t1, ht1⟩ : ∃ t, t = Lib.join (l.map (sh · 0)) [44, 32] := ⟨_, rfl⟩
        simp only [← ht1] at hlist hbl ⊢
        simp only [List.length_append, List.length_cons, List.length_nil, nd] at hbl
        simp [f40, d40, hsc, hsc2, hlist]
        repeat (first | rw [if_pos (by omega)] | simp [hlist])
      · obtain ⟨x, rfl⟩ := hone (by simp)
        have hn1 := hne (by simp)
        have a1 := harg 0 x rfl
        have s1 := hsh x (by simp) 0
        simp only [Int.cast_ofNat_Int] at a1 s1
        rw [ba_27 (hok x (by simp))] at hbl ⊢
        simp only [List.length_append, List.length_cons, List.length_nil, nd] at hbl
        simp [f40, d40, hsc, hsc2, hn1, a1, s1]
        repeat (first | rw [if_pos (by omega)] | simp [hn1, a1, s1])
end Go.Proofs.YtmkgmjdbgjiehaaDoor
namespace Go.Proofs.YtmkgmjdbgjiehaaDoor.Ab
set_option linter.unusedVariables false
set_option linter.unusedSimpArgs false
def prS : Option Ex → List UInt8
  | none => []
  | some e => 123 :: (sh e 0 ++ [125])
def baS (t : Ty) : List UInt8 := match t.base with
  | 1 => [105, 110, 116]
  | 2 => [98, 111, 111, 108]
  | 3 => [97, 114, 114, 32] ++ numT t.len
  | _ => []
def tyS (t : Ty) : List UInt8 := baS t ++ prS t.pred
theorem tyS_len {t : Ty} (h : okT t) : (tyS t).length ≤ 80 * ndT t := by
  obtain ⟨base, len, pred, fr, to⟩ := t
  obtain ⟨hb, hp⟩ := h
  simp only at hb hp
  have hbs : base = 1 ∨ base = 2 ∨ base = 3 := by omega
  have h1 : (baS ⟨base, len, pred, fr, to⟩).length ≤ 20 := by
    unfold baS
    rcases hbs with rfl | rfl | rfl
    · show ([105, 110, 116] : List UInt8).length ≤ 20; decide
    · show ([98, 111, 111, 108] : List UInt8).length ≤ 20; decide
    · have := numT_len 6 len (by omega)
      simp; omega
  have h2 : (prS pred).length + 80 ≤ 80 * ndT ⟨base, len, pred, fr, to⟩ := by
    cases pred with
    | none => simp [prS, ndT]
    | some e =>
      have h1 := ba_len e (hp e rfl)
      have h2 := sh_len (Nat.le_refl (ba e).length) 0
      simp only [prS, ndT, List.length_cons, List.length_append, List.length_nil]; omega
  simp only [tyS, List.length_append]
  omega
def pmS (kind : Nat) (m : Pm) : List UInt8 := if kind = 2 then m.name else m.name ++ [58, 32] ++ tyS m.ty
def heS (it : It) : List UInt8 :=
  if it.kind = 1 then (if it.pub = true then [112, 117, 98, 32] else []) ++ ([102, 110, 32] ++ it.name ++ [40] ++ Lib.join (it.params.map (pmS 1)) [44, 32] ++ [41, 32, 45, 62, 32] ++ tyS it.result)
  else [113, 117, 97, 108, 32] ++ it.name ++ [40] ++ Lib.join (it.params.map (pmS 2)) [44, 32] ++ [41]
def itS (it : It) : List UInt8 := heS it ++ [32, 61, 32] ++ sh it.body 0 ++ [59]
theorem pms_len {kind : Nat} : ∀ {l : List Pm}, (∀ m ∈ l, nameOK m.name) → (kind ≠ 2 → ∀ m ∈ l, okT m.ty) → ((l.map (pmS kind)).map fun x => ([44, 32] : List UInt8).length + x.length).sum ≤ 80 * ndPs l
  | [], _, _ => by simp [ndPs]
  | m :: l, hn, h => by
    have ih := pms_len (l := l) (fun x hx => hn x (by simp [hx])) fun k x hx => h k x (by simp [hx])
    have h1 := nameOK_len (hn m (by simp))
    have h2 : (pmS kind m).length ≤ 26 + 80 * ndT m.ty := by
      unfold pmS
      split
      · omega
      · rename_i k
        have := tyS_len (h k m (by simp))
        simp; omega
    simp only [List.map_cons, List.sum_cons, ndPs, List.length_cons, List.length_nil] at ih ⊢
    omega
theorem itS_len {it : It} (h : okI it) : (itS it).length ≤ 80 * ndI it := by
  obtain ⟨h1, h2, h3⟩ := h
  have n1 := nameOK_len h1
  have n2 := ba_len _ h2
  have n3 := sh_len (Nat.le_refl (ba it.body).length) 0
  have hh : (heS it).length ≤ 50 + 80 * ndPs it.params + 80 * ndT it.result := by
    unfold heS
    rcases h3 with ⟨k, _, h5, h6⟩ | ⟨k, _, _, _, h5, h6⟩
    · rw [if_pos k]
      have e1 := pms_len (kind := 1) (l := it.params) (fun m hm => (h5 m hm).1) fun _ m hm => (h5 m hm).2
      have e2 := join_len [44, 32] (it.params.map (pmS 1))
      have e3 := tyS_len h6
      have e4 : (if it.pub = true then ([112, 117, 98, 32] : List UInt8) else []).length ≤ 4 := by split <;> simp
      simp only [List.length_append, List.length_cons, List.length_nil] at *
      omega
    · rw [if_neg (by omega)]
      have e1 := pms_len (kind := 2) (l := it.params) (fun m hm => (h5 m hm).1) fun k => absurd rfl k
      have e2 := join_len [44, 32] (it.params.map (pmS 2))
      simp only [List.length_append, List.length_cons, List.length_nil] at *
      omega
  unfold itS ndI
  simp only [List.length_append, List.length_cons, List.length_nil]
  omega
end Go.Proofs.YtmkgmjdbgjiehaaDoor.Ab
namespace Go.Proofs.YtmkgmjdbgjiehaaDoor
open Go.Proofs.YtmkgmjdbgjiehaaDoor.Ab
set_option linter.unusedVariables false
set_option linter.unusedSimpArgs false
attribute [local simp] Gr.refl Gr.new Gr.set Gr.kill Nat.add_assoc r_ckk chk_x chk_n
variable {B : Int}
def Tab (σ : St) : Prop := Lib.TabIs Tryd.prog σ.W "internal/strconv.uint64pow10" .u64 Lib.pow10Tab
theorem dec_num : ∀ n : Nat, Lib.decDigits n = numT n := by
  intro n
  induction n using Nat.strongRecOn with
  | _ n ih =>
    rw [Lib.decDigits, numT]
    by_cases h : n < 10
    · rw [dif_pos h, dif_pos h]
    · rw [dif_neg h, dif_neg h, ih _ (by omega)]
theorem Tab.new {σ : St} (h : Tab σ) (b : Blk) : Tab (σ.new b) := by
  unfold Tab at h ⊢
  rw [show (σ.new b).W = σ.W from rfl]
  exact h
theorem T34 : ET.T 34 = none := by kernel_rfl
theorem ET_Bt : ET.Bt = BtF := rfl
theorem itoa_ev {σ : St} {n : Nat} (hn : n < 2 ^ 63) (ht : Tab σ) : ev ET 34 [.int .i64 n] σ = some (.ret (.str (numT n)), σ) := by
  have h : BtF 34 [.int .i64 n] σ = some (.str (numT n)) := by
    unfold BtF
    rw [if_neg (by decide), if_pos rfl]
    simp only
    have h1 : (0 : Int) ≤ (n : Int) := by omega
    have h2 : (n : Int) < 2 ^ 63 := by omega
    unfold Tab at ht
    simp only [h1, h2, ht, and_self, if_true, Int.toNat_natCast, dec_num]
  exact ev_bt T34 (by rw [ET_Bt]; exact h)
theorem Show_ev (hB : B = 4294967296) {e : Ex} (hk : Okx e) (hn : 80 * nd e < 2 ^ 46) {σ : St} : ev ET 12 [exV B e] σ = some (.ret (.str (sh e 0)), σ) := by
  have hs := fun σ' : St => show_ev (bare_ev hB e hk hn) hk hn (σ := σ') 0
  simp only [Int.cast_ofNat_Int] at hs
  have hx := exE_len B e
  have hxs := exE_sc B e
  refine ev_pure (fd := f12) (o := .ret (.str (sh e 0))) (σ' := σ.new (.row 7 [exE B e])) rfl (by simp [f12]) rfl ?_ (fun j hj => by simp [show j ≠ σ.n by omega]) rfl (by simp)
  obtain ⟨a, b, c, d, f, g, h, he⟩ := exE_ex B e
  unfold exV at hs ⊢
  rw [he] at hs hxs ⊢
  simp only [List.mem_cons, List.not_mem_nil, or_false, forall_eq_or_imp, forall_eq] at hxs
  obtain ⟨x1, x2, x3, x4, x5, x6, x7⟩ := hxs
  simp [f12, d12, x1, x2, x3, x4, x5, x6, x7, hs]
theorem showT_run {E : En Tryd.prog} {t : Ty} (hk : okT t) (hn : 80 * ndT t < 2 ^ 46) {σ : St} (hi : ∀ b : Blk, ev E 34 [.int .i64 t.len] (σ.new b) = some (.ret (.str (numT t.len)), σ.new b)) (hs : ∀ e, t.pred = some e → ∀ σ', ev E 12 [exV B e] σ' = some (.ret (.str (sh e 0)), σ')) :
    run E false f19.res [.d f19.body] ⟨envOf [tyV B t], []⟩ σ = some (.ret (.str (tyS t)), σ.new (.row 5 [tyE B t])) := by
  obtain ⟨base, len, pred, fr, to⟩ := t
  obtain ⟨hb, hp⟩ := hk
  simp only at hb hp hi hs
  have hbs : base = 1 ∨ base = 2 ∨ base = 3 := by omega
  have hnl : (numT len).length ≤ 7 := numT_len 6 len (by omega)
  cases pred with
  | none =>
    rcases hbs with rfl | rfl | rfl
    · simp [f19, d19, tyV, tyE, predV, tyS, baS, prS]
    · simp [f19, d19, tyV, tyE, predV, tyS, baS, prS]
    · have e : tyS ⟨3, len, none, fr, to⟩ = 97 :: 114 :: 114 :: 32 :: numT len := by simp [tyS, baS, prS]
      rw [e]
      obtain ⟨s, hs⟩ : ∃ s, s = numT len := ⟨_, rfl⟩
      simp only [← hs] at hi hnl ⊢
      simp [f19, d19, tyV, tyE, predV, hi]
      rw [if_pos (by omega)]
      simp
  | some e =>
    simp only [ndT] at hn
    have hs := hs e rfl
    have hsl : (sh e 0).length ≤ 80 * nd e := by have h1 := ba_len e (hp e rfl); have h2 := sh_len (Nat.le_refl (ba e).length) 0; omega
    have hx := exE_len B e
    have hxs := exE_sc B e
    obtain ⟨es, hes⟩ : ∃ es, es = exE B e := ⟨_, rfl⟩
    unfold exV at hs
    rw [← hes] at hx hxs
    simp only [← hes] at hs
    have hR : ∀ σ' : St, Rd σ' 7 (.islc 7 [es]) [es] := fun σ' => (Tl.islc 7 [es]).rd
    have hat : ∀ σ' : St, iaV σ' 7 (.islc 7 [es]) (.int .i64 0) = some (elA (.islc 7 [es]) 0) := fun σ' => (hR σ').at (k := .i64) (i := 0) (by simp)
    have hlda := fun σ' : St => (hR σ').lda (i := 0) (e := es) rfl hx.symm
    obtain ⟨s, hs'⟩ : ∃ s, s = sh e 0 := ⟨_, rfl⟩
    simp only [← hs'] at hs hsl
    rcases hbs with rfl | rfl | rfl
    · simp [f19, d19, tyV, tyE, predV, tyS, baS, prS, ← hes, hat, hlda, hs, ← hs']
      repeat (first | rw [if_pos (by omega)] | simp)
    · simp [f19, d19, tyV, tyE, predV, tyS, baS, prS, ← hes, hat, hlda, hs, ← hs']
      repeat (first | rw [if_pos (by omega)] | simp)
    · have e' : tyS ⟨3, len, some e, fr, to⟩ = 97 :: 114 :: 114 :: 32 :: (numT len ++ 123 :: (s ++ [125])) := by simp [tyS, baS, prS, ← hs']
      rw [e']
      obtain ⟨s2, hs2⟩ : ∃ s, s = numT len := ⟨_, rfl⟩
      simp only [← hs2] at hi hnl ⊢
      simp [f19, d19, tyV, tyE, predV, hi, ← hes, hat, hlda, hs, ← hs']
      repeat (first | rw [if_pos (by omega)] | simp [← hes, hat, hlda, hs])
theorem showT_ev (hB : B = 4294967296) {t : Ty} (hk : okT t) (hn : 80 * ndT t < 2 ^ 46) {σ : St} (ht : Tab σ) : ev ET 19 [tyV B t] σ = some (.ret (.str (tyS t)), σ) :=
  ev_pure (fd := f19) (o := .ret (.str (tyS t))) (σ' := σ.new (.row 5 [tyE B t])) rfl (by simp [f19]) rfl (showT_run hk hn (fun b => itoa_ev (by have := hk.1; omega) (ht.new b)) fun e he σ' => Show_ev hB (hk.2 e he) (by simp only [ndT, he] at hn; omega)) (fun j hj => by simp [show j ≠ σ.n by omega]) rfl (by simp)
end Go.Proofs.YtmkgmjdbgjiehaaDoor
namespace Go.Proofs.YtmkgmjdbgjiehaaDoor
open Go.Proofs.YtmkgmjdbgjiehaaDoor.Ab
set_option linter.unusedVariables false
set_option linter.unusedSimpArgs false
attribute [local simp] Gr.refl Gr.new Gr.set Gr.kill Nat.add_assoc r_ckk chk_x chk_n
variable {B : Int}
theorem parsV_tl (B : Int) (l : List Pm) : Tl 8 (parsV B l) (l.map (pmE B)) := by
  unfold parsV
  by_cases h : l.map (pmE B) = []
  · rw [if_pos h]; exact .inl ⟨rfl, h⟩
  · rw [if_neg h]; exact .inr rfl
def PQ (σ0 : St) (q kd : Nat) (l : List Pm) (f' : Fr) (σ' : St) : Prop := ∃ v, Own σ0 σ' 1 v (l.map fun m => [V.str (pmS kd m)]) ∧ f'.ds = [] ∧ f'.env 3 = v ∧ f'.env 1 = .ptr q 0 0
theorem Tab.gr {σ σ' : St} (h : Tab σ) (g : Gr σ σ') : Tab σ' := by
  unfold Tab at h ⊢
  rw [g.W]; exact h
set_option maxHeartbeats 1000000 in
theorem print_loop (hB : B = 4294967296) {σ0 : St} {q kd : Nat} {cs : List V} {l : List Pm} (hl : l.length ≤ 1000) (hq : σ0.H q = some (.row 18 [V.int .i64 kd :: cs])) (hqn : q < σ0.n) (ht : Tab σ0) (hkd : kd = 1 ∨ kd = 2) (hw : ∀ m ∈ l, nameOK m.name ∧ (kd ≠ 2 → okT m.ty ∧ 80 * ndT m.ty < 2 ^ 46)) {rs : List RC} {st : List SE} {B0 : D} (hB0 : B0 = b10_0) :
    ∀ (r : List Pm) (i : Nat) (u : V) (f : Fr) (σ : St), l.drop i = r → i + r.length = l.length → Own σ0 σ 1 u ((l.take i).map fun m => [V.str (pmS kd m)]) → f.ds = [] → f.env 1 = .ptr q 0 0 → f.env 3 = u → f.env 8 = parsV B l → f.env 9 = .int .i64 l.length → f.env 10 = .int .i64 i →
      Lands ET false rs st (PQ σ0 q kd l) (run ET false rs (.d (.loop [1, 3, 8, 9, 10] B0) :: .blk 0 :: st) f σ)
  | [], i, u, f, σ, hdr, hi, ho, hd, e1, e3, e8, e9, e10 => by
    rw [r_loopU hB0]
    have h : ¬ i < l.length := by simp at hi; omega
    simp [b10_0, hd, e1, e3, e8, e9, e10, h]
    refine .here ⟨u, ?_, by simp, by simp, by simp⟩
    rwa [List.take_of_length_le (by omega)] at ho
  | m :: r, i, u, f, σ, hdr, hi, ho, hd, e1, e3, e8, e9, e10 => by
    rw [r_loopU hB0]
    have hlt : i < l.length := by simp at hi; omega
    have hge : l[i]? = some m := by
      have := congrArg (·[0]?) hdr
      simpa using this
    have hdr' : l.drop (i + 1) = r := by rw [← List.drop_drop, hdr]; rfl
    obtain ⟨hnm, hty⟩ := hw m (List.mem_of_getElem? hge)
    have hnl := nameOK_len hnm
    have h64 : IntKind.i64.wrap ((i : Int) + 1) = ((i + 1 : Nat) : Int) := by rw [IntWalk.i64_in _ (by omega)]; omega
    have hR := fun σ' : St => (parsV_tl B l).rd (σ := σ')
    have hat := fun σ' => (hR σ').at (k := .i64) (i := i) (by simpa using hlt)
    have hget : (l.map (pmE B))[i]? = some (pmE B m) := by rw [List.getElem?_map, hge]; rfl
    have hlda := fun σ' => (hR σ').lda hget (m := 8) rfl
    obtain ⟨v, hv⟩ : ∃ v, v = parsV B l := ⟨_, rfl⟩
    rw [← hv] at hat hlda e8
    have hps : (predV B m.ty.pred).scal = true := predV_scal B _
    have hqs : σ.H q = some (.row 18 [V.int .i64 kd :: cs]) := by rw [ho.gr.H q hqn]; exact hq
    have hqlt : q < σ.n := Nat.lt_of_lt_of_le hqn ho.gr.n
    have hqne : ¬ q = σ.n := by omega
    obtain ⟨s1, hs1⟩ : ∃ s1, s1 = (σ.new (.row 8 [[.str [], .int .i64 0, .int .i64 0, .nils, .int .i64 0, .int .i64 0, .int .i64 0, .int .i64 0]])).set σ.n (.row 8 [pmE B m]) := ⟨_, rfl⟩
    have g1 : Gr σ s1 := by rw [hs1]; exact (((Gr.refl σ).new _).set (Nat.le_refl _) _)
    have ho1 := ho.step g1
    obtain ⟨w, τ, a1, a2⟩ := ho1.app1 [[V.str (pmS kd m)]] (by simp) (bytes := 16) (by simp [reach]; omega) (by simp [reach]; omega) (n := 1) rfl
    have ih := fun f' => print_loop hB hl hq hqn ht hkd hw (rs := rs) (st := st) hB0 r (i + 1) w f' τ hdr' (by simp at hi; omega) (by
      rw [List.take_add_one, hge, List.map_append]; exact a2)
    obtain ⟨i', hi'⟩ : ∃ k, k = i + 1 := ⟨_, rfl⟩
    simp only [← hi'] at h64 ih
    have hs1n : s1.n = σ.n + 1 := by rw [hs1]; rfl
    have hs1H : s1.H σ.n = some (.row 8 [pmE B m]) := by rw [hs1]; simp
    have hs1q : s1.H q = some (.row 18 [V.int .i64 kd :: cs]) := by rw [g1.H q hqlt]; exact hqs
    have hpe : pmE B m = [.str m.name, .int .i64 m.ty.base, .int .i64 m.ty.len, predV B m.ty.pred, .int .i64 m.ty.fr, .int .i64 m.ty.to, .int .i64 m.fr, .int .i64 m.to] := rfl
    rw [hpe] at hs1 hs1H
    simp only [hpe] at hlda
    have htv : V.agg [.int .i64 m.ty.base, .int .i64 m.ty.len, predV B m.ty.pred, .int .i64 m.ty.fr, .int .i64 m.ty.to] = tyV B m.ty := rfl
    rcases hkd with rfl | rfl
    · obtain ⟨hok, hnd⟩ := hty (by decide)
      have hsT := showT_ev hB hok hnd (σ := s1) ((ht.gr ho.gr).gr g1)
      have hsl := tyS_len hok
      have hpm : pmS 1 m = m.name ++ 58 :: 32 :: tyS m.ty := by simp [pmS]
      rw [hpm] at a1
      obtain ⟨ts, hts⟩ : ∃ ts, ts = tyS m.ty := ⟨_, rfl⟩
      simp only [← hts] at a1 hsT hsl
      obtain ⟨tn, htn⟩ : ∃ tn, tn = m.name := ⟨_, rfl⟩
      rw [← htn] at hs1 hs1H hnl a1
      simp only [← htn] at hlda
      have l1 : tn.length + 2 ≤ 9223372036854775807 := by omega
      have l2 : tn.length + (ts.length + 2) ≤ 9223372036854775807 := by omega
      simp [b10_0, hd, e1, e3, e8, e9, e10, hlt, hat, hlda, hps, ← hs1, hs1H, hs1q, htv, hsT, a1, h64]
      repeat (first | rw [if_pos (by omega)] | simp [hs1H, hs1q, htv, hsT, a1, h64])
      exact ih _ (by simp) (by simp) (by simp) (by simp [hv]) (by simp) (by simp)
    · have hpm : pmS 2 m = m.name := by simp [pmS]
      rw [hpm] at a1
      simp [b10_0, hd, e1, e3, e8, e9, e10, hlt, hat, hlda, hps, ← hs1, hs1H, hs1q, a1, h64]
      exact ih _ (by simp) (by simp) (by simp) (by simp [hv]) (by simp) (by simp)
theorem itE_ex (B : Int) (it : It) : ∃ a b c d e f g, exE B it.body = [a, b, c, d, e, f, g] ∧ itE B it = [.int .i64 it.kind, .bool it.pub, .str it.name, .int .i64 it.fr, .int .i64 it.to, parsV B it.params, .int .i64 it.result.base, .int .i64 it.result.len, predV B it.result.pred, .int .i64 it.result.fr, .int .i64 it.result.to, a, b, c, d, e, f, g] := by
  obtain ⟨a, b, c, d, e, f, g, h⟩ := exE_ex B it.body
  exact ⟨a, b, c, d, e, f, g, h, by unfold itE; rw [h]; rfl⟩
theorem ndPs_mem : ∀ {l : List Pm} {m : Pm}, m ∈ l → ndT m.ty ≤ ndPs l
  | [], m, h => by simp at h
  | x :: l, m, h => by
    simp only [ndPs]
    rcases List.mem_cons.1 h with rfl | h
    · omega
    · have := ndPs_mem h; omega
set_option maxHeartbeats 1000000 in
theorem print_ev (hB : B = 4294967296) {it : It} (hk : okI it) (hn : 80 * ndI it < 2 ^ 46) {σ : St} (ht : Tab σ) : ev ET 10 [itV B it] σ = some (.ret (.str (itS it)), σ) := by
  have hlen := itS_len hk
  suffices h : ∃ τ, run ET false f10.res [.d f10.body] ⟨envOf [itV B it], []⟩ σ = some (.ret (.str (itS it)), τ) ∧ Gr σ τ by
    obtain ⟨τ, h, g⟩ := h
    exact ev_pure (fd := f10) rfl (by simp [f10]) rfl h g.H g.W (by simp)
  obtain ⟨h1, h2, h3⟩ := hk
  have hnn : ndI it = 1 + ndPs it.params + ndT it.result + nd it.body := rfl
  have hnm := nameOK_len h1
  have hkd : it.kind = 1 ∨ it.kind = 2 := by rcases h3 with h | h; exact .inl h.1; exact .inr h.1
  have hpl : it.params.length ≤ 1000 := by rcases h3 with h | h <;> omega
  have hw : ∀ m ∈ it.params, nameOK m.name ∧ (it.kind ≠ 2 → okT m.ty ∧ 80 * ndT m.ty < 2 ^ 46) := fun m hm => by
    have := ndPs_mem hm
    rcases h3 with h | h
    · exact ⟨(h.2.2.1 m hm).1, fun _ => ⟨(h.2.2.1 m hm).2, by omega⟩⟩
    · exact ⟨(h.2.2.2.2.1 m hm).1, fun k => absurd h.1 k⟩
  have hbody := fun σ' : St => Show_ev hB h2 (by omega) (σ := σ')
  have hbl : (sh it.body 0).length ≤ 80 * nd it.body := by have h1 := ba_len _ h2; have h2 := sh_len (Nat.le_refl (ba it.body).length) 0; omega
  obtain ⟨a, b, c, d, e, f, g, he, hit⟩ := itE_ex B it
  unfold exV at hbody
  rw [he] at hbody
  have hes := exE_sc B it.body
  rw [he] at hes
  simp only [List.mem_cons, List.not_mem_nil, or_false, forall_eq_or_imp, forall_eq] at hes
  obtain ⟨x1, x2, x3, x4, x5, x6, x7⟩ := hes
  have hpv := (parsV_tl B it.params).scal
  have hqv := predV_scal B it.result.pred
  unfold itV
  rw [hit]
  obtain ⟨s1, hs1⟩ : ∃ s1, s1 = σ.new (.row 18 [[.int .i64 it.kind, .bool it.pub, .str it.name, .int .i64 it.fr, .int .i64 it.to, parsV B it.params, .int .i64 it.result.base, .int .i64 it.result.len, predV B it.result.pred, .int .i64 it.result.fr, .int .i64 it.result.to, a, b, c, d, e, f, g]]) := ⟨_, rfl⟩
  have g1 : Gr σ s1 := by rw [hs1]; simp
  have q1 : s1.H σ.n = some (.row 18 [.int .i64 it.kind :: [.bool it.pub, .str it.name, .int .i64 it.fr, .int .i64 it.to, parsV B it.params, .int .i64 it.result.base, .int .i64 it.result.len, predV B it.result.pred, .int .i64 it.result.fr, .int .i64 it.result.to, a, b, c, d, e, f, g]]) := by rw [hs1]; simp
  have ht1 : Tab s1 := ht.gr g1
  have hplen := ((parsV_tl B it.params).rd (σ := σ)).len
  simp only [List.length_map] at hplen
  have hloop := fun (rs : List RC) (st : List SE) f' a b c d e g => print_loop hB hpl q1 (by rw [hs1]; simp) ht1 hkd hw (B0 := b10_0) rfl (rs := rs) (st := st) it.params 0 .nils f' s1 rfl (by simp) (Own.nils s1 1) a b c d e g
  obtain ⟨pv, hpe⟩ : ∃ v, v = parsV B it.params := ⟨_, rfl⟩
  obtain ⟨qv, hqe⟩ : ∃ v, v = predV B it.result.pred := ⟨_, rfl⟩
  simp only [← hpe] at hs1 q1 hpv hplen hloop ⊢
  simp only [← hqe] at hs1 q1 hqv ⊢
  simp [f10, d10, hpv, hqv, x1, x2, x3, x4, x5, x6, x7, ← hs1, q1, hplen]
  refine Lands.to (C := fun r => ∃ τ, r = some (CO.ret (V.str (itS it)), τ) ∧ Gr σ τ) (hloop _ _ _ (by simp) (by simp) (by simp) (by simp) (by simp) (by simp)) fun f' σ' ⟨v, a1, a2, a3, a4⟩ => ?_
  refine ⟨σ', ?_, g1.trans a1.gr⟩
  have hqs : σ'.H σ.n = some (.row 18 [.int .i64 it.kind :: [.bool it.pub, .str it.name, .int .i64 it.fr, .int .i64 it.to, pv, .int .i64 it.result.base, .int .i64 it.result.len, qv, .int .i64 it.result.fr, .int .i64 it.result.to, a, b, c, d, e, f, g]]) := by rw [a1.gr.H σ.n (by rw [hs1]; simp)]; exact q1
  have hst := strL_rd (σ := σ') (v := v) (l := it.params.map (pmS it.kind)) (by rw [List.map_map]; exact a1.rd)
  have hjl := join_len [44, 32] (it.params.map (pmS it.kind))
  have hpm := pms_len (kind := it.kind) (l := it.params) (fun m hm => (hw m hm).1) fun k m hm => ((hw m hm).2 k).1
  have hj := join_ev (sep := [44, 32]) hst (by simp; omega) (by omega)
  obtain ⟨tj, htj⟩ : ∃ t, t = Lib.join (it.params.map (pmS it.kind)) [44, 32] := ⟨_, rfl⟩
  rw [← htj] at hj hjl
  obtain ⟨tb, htb⟩ : ∃ t, t = sh it.body 0 := ⟨_, rfl⟩
  simp only [← htb] at hbody hbl
  obtain ⟨tn, htn⟩ : ∃ t, t = it.name := ⟨_, rfl⟩
  rw [← htn] at hqs hnm
  rcases hkd with hkd | hkd
  · have hok : okT it.result := by rcases h3 with h | h; exact h.2.2.2; omega
    have hsT := showT_ev hB hok (by omega) (σ := σ') (ht1.gr a1.gr)
    have hsl := tyS_len hok
    have htv : V.agg [.int .i64 it.result.base, .int .i64 it.result.len, qv, .int .i64 it.result.fr, .int .i64 it.result.to] = tyV B it.result := by rw [hqe]; rfl
    obtain ⟨ts, hts⟩ : ∃ t, t = tyS it.result := ⟨_, rfl⟩
    rw [← hts] at hsT hsl
    have hfin : itS it = (if it.pub = true then [112, 117, 98, 32] else []) ++ ([102, 110, 32] ++ tn ++ [40] ++ tj ++ [41, 32, 45, 62, 32] ++ ts) ++ [32, 61, 32] ++ tb ++ [59] := by
      unfold itS heS
      rw [if_pos hkd, htj, htn, hts, htb, hkd]
    rw [hfin]
    rw [hkd] at hqs
    cases hpub : it.pub with
    | true =>
      rw [hpub] at hqs
      simp [a2, a3, a4, hqs, hj, htv, hsT, hbody, f10]
      repeat (first | rw [if_pos (by omega)] | simp [a2, a3, a4, hqs, hj, htv, hsT, hbody])
    | false =>
      rw [hpub] at hqs
      simp [a2, a3, a4, hqs, hj, htv, hsT, hbody, f10]
      repeat (first | rw [if_pos (by omega)] | simp [a2, a3, a4, hqs, hj, htv, hsT, hbody])
  · have hfin : itS it = [113, 117, 97, 108, 32] ++ tn ++ [40] ++ tj ++ [41] ++ [32, 61, 32] ++ tb ++ [59] := by
      unfold itS heS
      rw [if_neg (by omega), htj, htn, htb, hkd]
    rw [hfin]
    rw [hkd] at hqs
    simp [a2, a3, a4, hqs, hj, hbody, f10]
    repeat (first | rw [if_pos (by omega)] | simp [a2, a3, a4, hqs, hj, hbody])
end Go.Proofs.YtmkgmjdbgjiehaaDoor
namespace Go.Proofs.YtmkgmjdbgjiehaaDoor.Ab
set_option linter.unusedVariables false
set_option linter.unusedSimpArgs false
theorem after_sign {c : UInt8} {rest : List Pc} (hc : c ∈ closers) (hk : pieceOK ⟨4, [c], false⟩) (h : Ch ⟨4, [c], false⟩ rest) : After (⟨4, [c], false⟩ :: rest) := fun p hp => .cons (fun _ => ⟨c, [], rfl, hp.ok hc⟩) hk h
def onesG (ps : List Pc) : List (List UInt8) := ps.map fun p => if p.b = true then [32] else []
theorem gap_one : Gap [32] := ⟨fun rest => by show skipF false (32 :: rest) = _; rw [skipF]; simp [offB, blankB], 32, [], rfl, .inl rfl⟩
theorem ones_fill : ∀ ps : List Pc, Fill ps (onesG ps)
  | [] => trivial
  | p :: ps => by
    refine ⟨?_, ones_fill ps⟩
    by_cases h : p.b = true
    · simp only [if_pos h]; exact gap_one
    · simp only [if_neg h]
theorem ones_txt : ∀ ps : List Pc, txtG ps (onesG ps) = txtP ps
  | [] => rfl
  | p :: ps => by
    show (if p.b = true then [32] else []) ++ (p.s ++ txtG ps (onesG ps)) = p.txt ++ txtP ps
    rw [ones_txt ps]
    unfold Pc.txt
    split <;> simp
end Go.Proofs.YtmkgmjdbgjiehaaDoor.Ab
