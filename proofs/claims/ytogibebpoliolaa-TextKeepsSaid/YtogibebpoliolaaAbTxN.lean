/-
The walk over the program's texts, told with what its values say: a part of it. No further condition.
-/
import Derived.Test.YtogibebpoliolaaAbTxJ
namespace Go.Proofs.Ytogibebpoliolaa
open Go.Proofs.Ytogibebpoliolaa.Ab
set_option linter.unusedVariables false
set_option linter.unusedSimpArgs false
attribute [local simp] Gr.refl Gr.new Gr.set Gr.kill Nat.add_assoc
@[local simp] theorem take_len {α β : Type} (s : List α) (f : α → β) : List.take s.length (s.map f) = s.map f := List.take_of_length_le (by simp)
/-- A document. -/
structure Doc (σ : St) (p : Nat) (ver : Int) (b : List UInt8) (ed : List Ed) : Prop where
  H : ∃ B Ls Es, σ.H p = some (.row 4 [[.int .i64 ver, B, Ls, Es]]) ∧ Tl 1 B (b.map byteE) ∧ Tl 1 Ls ((linesF b).map intE) ∧ Tl 3 Es (ed.map edE)
  lt : p < σ.n
  len : b.length ≤ 1048576
theorem Doc.gr {σ σ' : St} {p : Nat} {ver : Int} {b : List UInt8} {ed : List Ed} (h : Doc σ p ver b ed) (g : Gr σ σ') : Doc σ' p ver b ed := by
  obtain ⟨B, Ls, Es, h1, h2⟩ := h.H
  exact ⟨⟨B, Ls, Es, by rw [g.H p h.lt]; exact h1, h2⟩, Nat.lt_of_lt_of_le h.lt g.n, h.len⟩
theorem lay_ev {σ : St} {p : Nat} {ver : Int} {B Ls Es v : V} {b : List UInt8} (h : σ.H p = some (.row 4 [[.int .i64 ver, B, Ls, Es]])) (hp : p < σ.n) (hE : Tl 3 Es []) (hv : Bs σ v b) (ho : v.old σ) (hb : b.length < 2 ^ 40) :
    ev ET 25 [.ptr p 0 0, v] σ = some (.ret (.tup []), σ.set p (.row 4 [[.int .i64 ver, v, .islc 1 ((linesF b).map intE), Es]])) := by
  have hl := lines_ev (E := ET) rfl hv ho hb
  have hsc : v.scal = true := Rd.scal hv
  have hfv : frzC (σ.set p (.row 4 [[.int .i64 ver, v, .islc 1 ((linesF b).map intE), Es]])).H (fun l => decide (l < σ.n)) 4 v = v := by
    rcases Rd.inv hv with ⟨rfl, _⟩ | rfl | ⟨l, off, rows, rfl, _⟩
    · rfl
    · rfl
    · exact frz_old _ _ 3 (by simpa using ho l off _ rfl)
  refine ev_set (fd := f25) (o := .ret (.tup [])) (σ' := σ.set p (.row 4 [[.int .i64 ver, v, .islc 1 ((linesF b).map intE), Es]])) rfl (by simp [f25]) rfl ?_ hp ?_ (fun l hl hn => by simp [hn]) rfl (fun e => by rw [← e]; simp) (by simp)
  · simp [f25, d25, h, hl, cells_scal hsc, hsc, linesF]
  · simp [frzB, hfv, hE.frz]
def takeE (s : List UInt8) : Nat := if 1048576 < s.length then 3 else if bad s 0 = none then 0 else 10
theorem open_bad {σ : St} {ver : Int} {s : List UInt8} (hs : s.length < 2 ^ 40) (hb : takeE s ≠ 0) : ev ET 10 [.int .i64 ver, .str s] σ = some (.ret (.tup [.nilp, .int .i64 (takeE s)]), σ) := by
  unfold takeE at *
  by_cases h : 1048576 < s.length
  · have h' : (1048576 : Int) < s.length := by omega
    rw [if_pos h]
    exact ev_own0 (fd := f10) (o := .ret (.tup [.nilp, .int .i64 3])) (σ' := σ) rfl (by simp [f10]) rfl (by simp [f10, d10, h']) rfl (fun _ _ => rfl) rfl (by simp)
  · have h' : ¬ (1048576 : Int) < s.length := by omega
    rw [if_neg h] at hb ⊢
    split at hb
    · exact absurd rfl hb
    · rename_i hbad
      rw [if_neg hbad]
      obtain ⟨i, hi⟩ := Option.ne_none_iff_exists'.1 hbad
      have hv := valid_ev (E := ET) rfl (σ := σ.new (.row 1 (s.map byteE))) (v := .slc σ.n 0 s.length) (b := s) (by simp [Bs, Rd, cont]) hs
      simp [hi, badV] at hv
      exact ev_own0 (fd := f10) (o := .ret (.tup [.nilp, .int .i64 10])) (σ' := σ.new (.row 1 (s.map byteE))) rfl (by simp [f10]) rfl (by simp [f10, d10, h', hv]) rfl (fun l hl => by simp [show l ≠ σ.n by omega]) rfl (by simp)
theorem open_ok {σ : St} {ver : Int} {s : List UInt8} (hb : takeE s = 0) (h0 : σ.H (σ.n + 1) = none) : ∃ τ, ev ET 10 [.int .i64 ver, .str s] σ = some (.ret (.tup [.ptr (σ.n + 1) 0 0, .int .i64 0]), τ) ∧ Gr σ τ ∧ τ.n = σ.n + 2 ∧ (∀ l, l ≠ σ.n + 1 → τ.H l = σ.H l) ∧ Doc τ (σ.n + 1) ver s [] := by
  unfold takeE at hb
  by_cases h : 1048576 < s.length
  · rw [if_pos h] at hb; simp at hb
  rw [if_neg h] at hb
  have h' : ¬ (1048576 : Int) < s.length := by omega
  split at hb
  · rename_i hbad
    have hv := valid_ev (E := ET) rfl (σ := σ.new (.row 1 (s.map byteE))) (v := .slc σ.n 0 s.length) (b := s) (by simp [Bs, Rd, cont]) (by omega)
    simp [hbad, badV] at hv
    have hla := lay_ev (σ := ((σ.new (.row 1 (s.map byteE))).new (.row 4 [[.int .i64 ver, .nils, .nils, .nils]])).new (.row 1 (s.map byteE))) (p := σ.n + 1) (ver := ver) (B := .nils) (Ls := .nils) (Es := .nils) (v := .slc (σ.n + 2) 0 s.length) (b := s) (by simp) (by simp) (Tl.nils 3) (by simp [Bs, Rd, cont]) (fun l off len e => by simp at e; simp [← e.1]) (by omega)
    have hf : frzC ((((σ.new (.row 1 (s.map byteE))).new (.row 4 [[.int .i64 ver, .nils, .nils, .nils]])).new (.row 1 (s.map byteE))).set (σ.n + 1) (.row 4 [[.int .i64 ver, .slc (σ.n + 2) 0 s.length, .islc 1 ((linesF s).map intE), .nils]])).H (fun l => decide (l < σ.n) || [σ.n + 1].contains l) 4 (.slc (σ.n + 2) 0 s.length) = .islc 1 (s.map byteE) := by
      have := frz_slc ((((σ.new (.row 1 (s.map byteE))).new (.row 4 [[.int .i64 ver, .nils, .nils, .nils]])).new (.row 1 (s.map byteE))).set (σ.n + 1) (.row 4 [[.int .i64 ver, .slc (σ.n + 2) 0 s.length, .islc 1 ((linesF s).map intE), .nils]])).H (fun l => decide (l < σ.n) || [σ.n + 1].contains l) (l := σ.n + 2) (off := 0) (len := s.length) (z := 1) (es := s.map byteE) 3 (by simp) (by simp) (by simp) (byteE_pure s)
      simpa using this
    refine ⟨_, ev_own1 (fd := f10) (o := .ret (.tup [.ptr (σ.n + 1) 0 0, .int .i64 0])) (σ' := (((σ.new (.row 1 (s.map byteE))).new (.row 4 [[.int .i64 ver, .nils, .nils, .nils]])).new (.row 1 (s.map byteE))).set (σ.n + 1) (.row 4 [[.int .i64 ver, .slc (σ.n + 2) 0 s.length, .islc 1 ((linesF s).map intE), .nils]])) (p := σ.n + 1) (b := .row 4 [[.int .i64 ver, .islc 1 (s.map byteE), .islc 1 ((linesF s).map intE), .nils]]) rfl (by simp [f10]) rfl ?_ rfl (by omega) h0 ?_ ?_ rfl ?_, add_gr (by omega) _, rfl, fun l hl => by simp [hl], ⟨⟨.islc 1 (s.map byteE), .islc 1 ((linesF s).map intE), .nils, by simp, .islc _ _, .islc _ _, .nils 3⟩, by simp, by omega⟩⟩
    · simp [f10, d10, h', hv, hla]
    · simp [frzB]
      simpa using hf
    · intro l hl; simp [show l ≠ σ.n + 1 by omega, show l ≠ σ.n + 2 by omega, show l ≠ σ.n by omega]
    · simp
      exact frz_oldp _ _ 3 (by simp)
  · simp at hb
end Go.Proofs.Ytogibebpoliolaa
namespace Go.Proofs.Ytogibebpoliolaa
open Go.Proofs.Ytogibebpoliolaa.Ab
set_option linter.unusedVariables false
set_option linter.unusedSimpArgs false
attribute [local simp] Gr.refl Gr.new Gr.set Gr.kill Nat.add_assoc
inductive Rs where
  | err (n : Nat)
  | ok (b : List UInt8) (ed : List Ed)
def applyF (b : List UInt8) (acc : List Ed) : List Ch → Rs
  | [] => .ok b acc
  | c :: cs => if bad c.text 0 = none then
      if 1048576 < b.length - ((editF b c).to - (editF b c).fr) + c.text.length then .err 3 else applyF (spliceF b (editF b c) c.text) (acc ++ [editF b c]) cs
    else .err 10
def ApR (σ0 : St) (p : Nat) (ver : Int) (x : D) (r : Option (CO × St)) : Rs → Prop
  | .err e => ∃ τ, r = some (.ret (.int .i64 e), τ) ∧ Gr σ0 τ
  | .ok b ed => Lands ET false [.t 6] [.d x] (fun f' σ' => f'.ds = [] ∧ f'.env 0 = .ptr p 0 0 ∧ f'.env 1 = .int .i64 ver ∧ Tl 1 (f'.env 7) (b.map byteE) ∧ Tl 1 (f'.env 8) ((linesF b).map intE) ∧ Own σ0 σ' 3 (f'.env 9) (ed.map edE) ∧ b.length ≤ 1048576) r
theorem offL_le {fr to : Nat} : ∀ (ls : List (Nat × Int × Nat)) (left : Int), (∀ x ∈ ls, fr + x.1 ≤ to) → offL ls left fr to ≤ to
  | [], _, _ => Nat.le_refl _
  | (a, r, k) :: ls, left, h => by
    unfold offL
    split
    · exact h (a, r, k) (by simp)
    · exact offL_le ls _ fun x hx => h x (by simp [hx])
theorem offF_le (b : List UInt8) (L : List Nat) (l u : Int) : offF b L l u ≤ b.length := by
  unfold offF
  split
  · omega
  · split
    · omega
    · rename_i x hx
      have h1 := endL_le (s := b) (i := min x b.length) (Nat.min_le_right _ _)
      obtain ⟨fr, hfr⟩ : ∃ fr, fr = min x b.length := ⟨_, rfl⟩
      rw [← hfr] at h1 ⊢
      refine Nat.le_trans (offL_le _ _ fun y hy => ?_) h1.2
      have := lts_in ((b.take (endL b fr)).drop fr).length 0 (by omega) y hy
      simp at this
      omega
theorem edit_in {b : List UInt8} {c : Ch} : (editF b c).fr ≤ (editF b c).to ∧ (editF b c).to ≤ b.length ∧ (editF b c).sz = c.text.length := by
  unfold editF
  split
  · have h1 := offF_le b (linesF b) c.l1 c.u1
    have h2 := offF_le b (linesF b) c.l2 c.u2
    simp; omega
  · simp
theorem edE_pure (l : List Ed) : ∀ e ∈ l.map edE, ∀ u ∈ e, u.pure = true := fun e he u hu => by
  simp at he; obtain ⟨c, _, rfl⟩ := he; simp [edE] at hu; rcases hu with rfl | rfl | rfl <;> rfl
theorem apply_loop {σ0 : St} {p : Nat} {ver : Int} {cv : V} {all : List Ch} (hcv : Rd σ0 6 cv (all.map chE)) (hco : cv.old σ0) (hall : ∀ c ∈ all, c.ok ∧ c.text.length < 2 ^ 40) (hal : all.length < 2 ^ 40) {x : D} {B : D} (hB : B = b12_0) :
    ∀ (cs : List Ch) (i : Nat) (acc : List Ed) (b : List UInt8) (f : Fr) (σ : St), all.drop i = cs → acc.length ≤ i → b.length ≤ 1048576 → f.ds = [] → f.env 0 = .ptr p 0 0 → f.env 1 = .int .i64 ver → Tl 1 (f.env 7) (b.map byteE) → Tl 1 (f.env 8) ((linesF b).map intE) → Own σ0 σ 3 (f.env 9) (acc.map edE) →
      f.env 25 = cv → f.env 26 = .int .i64 all.length → f.env 27 = .int .i64 i →
      ApR σ0 p ver x (run ET false [.t 6] (.d (.loop [0, 1, 7, 8, 9, 25, 26, 27] B) :: .blk 0 :: [.d x]) f σ) (applyF b acc cs)
  | [], i, acc, b, f, σ, hl, ha, hb, hd, h0, h1, h7, h8, h9, h25, h26, h27 => by
    rw [r_loopU hB]
    have hlen := congrArg List.length hl
    simp at hlen
    have h : ¬ i < all.length := by omega
    simp [b12_0, h26, h27, h, hd, h0, h1, h25]
    exact .here ⟨by simp, by simp, by simp, by simpa using h7, by simpa using h8, by simpa using h9, hb⟩
  | c :: cs, i, acc, b, f, σ, hl, ha, hb, hd, h0, h1, h7, h8, h9, h25, h26, h27 => by
    rw [r_loopU hB]
    have hlen := congrArg List.length hl
    simp at hlen
    have h : i < all.length := by omega
    have hat : all[i]? = some c := by
      have := congrArg (·[0]?) hl
      simpa using this
    have hnext : all.drop (i + 1) = cs := by rw [← List.drop_drop, hl]; rfl
    obtain ⟨hc, hct⟩ := hall c (List.mem_of_getElem? hat)
    obtain ⟨v7, e7⟩ : ∃ v, f.env 7 = v := ⟨_, rfl⟩
    obtain ⟨v8, e8⟩ : ∃ v, f.env 8 = v := ⟨_, rfl⟩
    obtain ⟨v9, e9⟩ : ∃ v, f.env 9 = v := ⟨_, rfl⟩
    rw [e7] at h7; rw [e8] at h8; rw [e9] at h9
    have hia : ∀ σ', Gr σ0 σ' → iaV σ' 6 cv (.int .i64 i) = some (elA cv i) := fun σ' g => Rd.at (hcv.gr g hco) (by simpa using h)
    have hld : ∀ σ', Gr σ0 σ' → ldaV σ' 6 (elA cv i) = some (.agg (chE c)) := fun σ' g => Rd.lda (hcv.gr g hco) (by simp [hat]) rfl
    have g := h9.gr
    obtain ⟨rg, l1, u1, l2, u2, t⟩ := c
    have gn := g.n
    obtain ⟨s1, hs1⟩ : ∃ s1, s1 = (σ.new (.row 6 [[.bool false, .int .i64 0, .int .i64 0, .int .i64 0, .int .i64 0, .str []]])).set σ.n (.row 6 [[.bool rg, .int .i64 l1, .int .i64 u1, .int .i64 l2, .int .i64 u2, .str t]]) := ⟨_, rfl⟩
    have n1 : s1.n = σ.n + 1 := by rw [hs1]; simp
    have b1 : s1.H σ.n = some (.row 6 [[.bool rg, .int .i64 l1, .int .i64 u1, .int .i64 l2, .int .i64 u2, .str t]]) := by rw [hs1]; simp
    have gg1 : Gr σ s1 := by rw [hs1]; simp
    have hva : ev ET 24 [.slc (σ.n + 1) 0 t.length] (s1.new (.row 1 (t.map byteE))) = some (.ret (badV (bad t 0)), s1.new (.row 1 (t.map byteE))) := valid_ev rfl (by simp [Bs, Rd, cont, n1, List.take_of_length_le]) hct
    by_cases hbad : bad t 0 = none
    · have b7 := h7.rd (σ := s1.new (.row 1 (t.map byteE)))
      have hl7 : lenV v7 = some (.int .i64 b.length) := by simpa using b7.len
      rw [hbad] at hva
      obtain ⟨e, he⟩ : ∃ e, e = editF b ⟨rg, l1, u1, l2, u2, t⟩ := ⟨_, rfl⟩
      have hed := edit_ev (σ := s1.new (.row 1 (t.map byteE))) (v := v7) (lv := v8) hc b7 h7.old h8.rd h8.old (by omega)
      have hin := edit_in (b := b) (c := ⟨rg, l1, u1, l2, u2, t⟩)
      rw [← he] at hed hin
      simp only at hin
      obtain ⟨fr, to, sz⟩ := e
      simp only at hin
      obtain ⟨m1, e1⟩ : ∃ m, m = to - fr := ⟨_, rfl⟩
      obtain ⟨m2, e2⟩ : ∃ m, m = b.length - m1 := ⟨_, rfl⟩
      obtain ⟨m3, e3⟩ : ∃ m : Int, m = 1048576 - t.length := ⟨_, rfl⟩
      have hct' : t.length < 2 ^ 40 := hct
      have w1 : IntKind.i64.wrap ((to : Int) - fr) = (m1 : Int) := by rw [IntWalk.i64_in _ (by omega)]; omega
      have w2 : IntKind.i64.wrap ((b.length : Int) - m1) = (m2 : Int) := by rw [IntWalk.i64_in _ (by omega)]; omega
      have w3 : IntKind.i64.wrap ((1048576 : Int) - t.length) = m3 := by rw [IntWalk.i64_in _ (by omega)]; omega
      simp [badV] at hva
      simp [chE, edE] at hed
      by_cases hbig : m3 < m2
      · have e1 : applyF b acc (⟨rg, l1, u1, l2, u2, t⟩ :: cs) = .err 3 := by simp only [applyF, hbad, if_true, ← he]; rw [if_pos (by omega)]
        rw [e1]
        show ∃ τ, _ ∧ Gr σ0 τ
        refine ⟨_, by simp [b12_0, h26, h27, h, hd, h0, h1, h25, e7, e8, e9, g, hia, hld, chE, ← hs1, hva, n1, b1, hed, hl7, w1, w2, w3, hbig]; rfl, ?_⟩
        simp (maxDischargeDepth := 12) [g.trans gg1, n1, Nat.le_add_right_of_le gn]
      · have e1 : applyF b acc (⟨rg, l1, u1, l2, u2, t⟩ :: cs) = applyF (spliceF b ⟨fr, to, sz⟩ t) (acc ++ [⟨fr, to, sz⟩]) cs := by simp only [applyF, hbad, if_true, ← he]; rw [if_neg (by omega)]
        rw [e1]
        obtain ⟨s3, hs3⟩ : ∃ s3, s3 = ((s1.new (.row 1 (t.map byteE))).new (.row 3 [[.int .i64 0, .int .i64 0, .int .i64 0]])).set (σ.n + 2) (.row 3 [[.int .i64 fr, .int .i64 to, .int .i64 sz]]) := ⟨_, rfl⟩
        have n3 : s3.n = σ.n + 3 := by rw [hs3]; simp [n1]
        have b2 : s3.H (σ.n + 2) = some (.row 3 [[.int .i64 fr, .int .i64 to, .int .i64 sz]]) := by rw [hs3]; simp
        have b3 : s3.H σ.n = some (.row 6 [[.bool rg, .int .i64 l1, .int .i64 u1, .int .i64 l2, .int .i64 u2, .str t]]) := by rw [hs3]; simp [n1, b1]
        have gg3 : Gr σ s3 := by rw [hs3]; exact ((gg1.new _).new _).set (by omega) _
        have hsp := spliced_ev (σ := s3) (v := v7) (s := t) (e := ⟨fr, to, sz⟩) h7.rd h7.old hin.1 hin.2.1 (by omega) hct'
        have hlen : (spliceF b ⟨fr, to, sz⟩ t).length = fr + t.length + (b.length - to) := by simp [spliceF]; omega
        have hb' : (spliceF b ⟨fr, to, sz⟩ t).length ≤ 1048576 := by omega
        have hli := lines_ev (E := ET) rfl (σ := s3) (v := .islc 1 ((spliceF b ⟨fr, to, sz⟩ t).map byteE)) (b := spliceF b ⟨fr, to, sz⟩ t) (Tl.islc _ _).rd (V.old_islc _ _) (by omega)
        obtain ⟨u, τ, ap, q⟩ := (h9.step gg3).app1 [edE ⟨fr, to, sz⟩] (by simp) (bytes := 24) (n := 1) (by simp [reach]; omega) (by simp [reach]; omega) rfl
        simp [edE] at hsp ap
        have hw : IntKind.i64.wrap ((i : Int) + 1) = ((i + 1 : Nat) : Int) := by rw [IntWalk.i64_in _ (by omega)]; omega
        obtain ⟨j, hj⟩ : ∃ j, j = i + 1 := ⟨_, rfl⟩
        rw [← hj] at hw hnext
        rw [n3] at ap
        simp [b12_0, h26, h27, h, hd, h0, h1, h25, e7, e8, e9, g, hia, hld, chE, ← hs1, hva, n1, b1, hed, hl7, w1, w2, w3, hbig, ← hs3, b2, b3, n3, hsp, hli, ap, hw]
        refine apply_loop hcv hco hall hal hB cs j (acc ++ [⟨fr, to, sz⟩]) (spliceF b ⟨fr, to, sz⟩ t) _ τ hnext ?_ hb' ?_ ?_ ?_ ?_ ?_ ?_ ?_ ?_ ?_
        · simp; omega
        · rfl
        · simp
        · simp
        · simp; exact .islc _ _
        · simp [linesF]; exact .islc _ _
        · simpa using q
        · simp
        · simp
        · simp
    · obtain ⟨k, hk⟩ := Option.ne_none_iff_exists'.1 hbad
      have e1 : applyF b acc (⟨rg, l1, u1, l2, u2, t⟩ :: cs) = .err 10 := by simp [applyF, hbad]
      rw [e1]
      rw [hk] at hva
      simp [badV] at hva
      show ∃ τ, _ ∧ Gr σ0 τ
      refine ⟨_, by simp [b12_0, h26, h27, h, hd, h0, h1, h25, e7, e8, e9, g, hia, hld, chE, ← hs1, hva, n1, b1]; rfl, ?_⟩
      exact (g.trans gg1).new _
theorem apply_nil {σ : St} {ver : Int} {cv : V} : ev ET 12 [.nilp, .int .i64 ver, cv] σ = some (.ret (.int .i64 2), σ) :=
  ev_same (fd := f12) (o := .ret (.int .i64 2)) rfl (by simp [f12]) rfl (by simp [f12, d12]) (by simp)
theorem apply_ev {σ : St} {p : Nat} {ver0 ver : Int} {b : List UInt8} {ed0 : List Ed} {cv : V} {cs : List Ch} (hd : Doc σ p ver0 b ed0) (hcv : Rd σ 6 cv (cs.map chE)) (hco : cv.old σ) (hall : ∀ c ∈ cs, c.ok ∧ c.text.length < 2 ^ 40) (hal : cs.length < 2 ^ 40) :
    match applyF b [] cs with
    | .err e => ev ET 12 [.ptr p 0 0, .int .i64 ver, cv] σ = some (.ret (.int .i64 e), σ)
    | .ok b' ed => ∃ τ, ev ET 12 [.ptr p 0 0, .int .i64 ver, cv] σ = some (.ret (.int .i64 0), τ) ∧ Doc τ p ver b' ed ∧ τ.n = σ.n ∧ τ.W = σ.W ∧ ∀ l, l ≠ p → τ.H l = σ.H l := by
  obtain ⟨B, Ls, Es, hH, hB, hL, hE⟩ := hd.H
  have hcl : lenV cv = some (.int .i64 cs.length) := by simpa using hcv.len
  have key := apply_loop (p := p) (ver := ver) hcv hco hall hal (x := .kb [0, 1, 7, 8, 9] (.seq (.reg [⟨some 70, none, .mv (.t 0)⟩,
    ⟨some 71, none, .mv (.t 0)⟩, ⟨some 72, none, .mv (.t 0)⟩, ⟨some 73, none, .mv (.t 0)⟩, ⟨some 74, none, .mv (.t 1)⟩, ⟨some 75, none, .mv (.t 7)⟩, ⟨some 76, none, .mv (.t 8)⟩, ⟨some 77, none, .mv (.t 9)⟩,
    ⟨some 78, none, .nilck (.t 70)⟩, ⟨some 79, none, .fa 0 (.t 78)⟩, ⟨none, none, .st 1 (.t 79) (.t 74)⟩, ⟨some 80, none, .nilck (.t 71)⟩, ⟨some 81, none, .fa 1 (.t 80)⟩, ⟨none, none, .st 1 (.t 81) (.t 75)⟩,
    ⟨some 82, none, .nilck (.t 72)⟩, ⟨some 83, none, .fa 2 (.t 82)⟩, ⟨none, none, .st 1 (.t 83) (.t 76)⟩, ⟨some 84, none, .nilck (.t 73)⟩, ⟨some 85, none, .fa 3 (.t 84)⟩, ⟨none, none, .st 1 (.t 85) (.t 77)⟩]) (.kb [] (.seq (.reg [⟨some 6, none, .mv (.c (.int .i64 0))⟩]) .ret)))) rfl cs 0 [] b
    ⟨lk [0, 1, 7, 8, 9, 25, 26, 27] [.ptr p 0 0, .int .i64 ver, B, Ls, .nils, cv, .int .i64 cs.length, .int .i64 0], []⟩ σ rfl (by simp) hd.len rfl (by simp) (by simp) (by simpa using hB) (by simpa using hL) (by simpa using Own.nils σ 3) (by simp) (by simp) (by simp)
  have hrun : run ET false f12.res [.d f12.body] ⟨envOf [.ptr p 0 0, .int .i64 ver, cv], []⟩ σ = run ET false [.t 6] (.d (.loop [0, 1, 7, 8, 9, 25, 26, 27] b12_0) :: .blk 0 :: [.d (.kb [0, 1, 7, 8, 9] (.seq (.reg [⟨some 70, none, .mv (.t 0)⟩,
    ⟨some 71, none, .mv (.t 0)⟩, ⟨some 72, none, .mv (.t 0)⟩, ⟨some 73, none, .mv (.t 0)⟩, ⟨some 74, none, .mv (.t 1)⟩, ⟨some 75, none, .mv (.t 7)⟩, ⟨some 76, none, .mv (.t 8)⟩, ⟨some 77, none, .mv (.t 9)⟩,
    ⟨some 78, none, .nilck (.t 70)⟩, ⟨some 79, none, .fa 0 (.t 78)⟩, ⟨none, none, .st 1 (.t 79) (.t 74)⟩, ⟨some 80, none, .nilck (.t 71)⟩, ⟨some 81, none, .fa 1 (.t 80)⟩, ⟨none, none, .st 1 (.t 81) (.t 75)⟩,
    ⟨some 82, none, .nilck (.t 72)⟩, ⟨some 83, none, .fa 2 (.t 82)⟩, ⟨none, none, .st 1 (.t 83) (.t 76)⟩, ⟨some 84, none, .nilck (.t 73)⟩, ⟨some 85, none, .fa 3 (.t 84)⟩, ⟨none, none, .st 1 (.t 85) (.t 77)⟩]) (.kb [] (.seq (.reg [⟨some 6, none, .mv (.c (.int .i64 0))⟩]) .ret))))])
    ⟨lk [0, 1, 7, 8, 9, 25, 26, 27] [.ptr p 0 0, .int .i64 ver, B, Ls, .nils, cv, .int .i64 cs.length, .int .i64 0], []⟩ σ := by
    simp [f12, d12, hH, hcl]
  rw [← hrun] at key
  revert key
  cases applyF b [] cs with
  | err e =>
    rintro ⟨τ, h1, h2⟩
    exact ev_pure (fd := f12) rfl (by simp [f12]) rfl h1 h2.H h2.W (by simp)
  | ok b' ed =>
    rintro ⟨f', σ', h1, h2, h3, h4, h5, h6, h7, h8⟩
    have hHp : σ'.H p = some (.row 4 [[.int .i64 ver0, B, Ls, Es]]) := (h7.gr.H p hd.lt).trans hH
    have c5 := cells_scal h5.scal
    have c6 := cells_scal h6.scal
    have c7 := cells_scal h7.sl.scal
    have s5 := h5.scal
    have s6 := h6.scal
    have s7 := h7.sl.scal
    have hto : ∀ H n m, frzC H n (m + 1) (f'.env 9) = told 3 (f'.env 9) (ed.map edE) → True := fun _ _ _ _ => trivial
    obtain ⟨v7, e7⟩ : ∃ v, f'.env 7 = v := ⟨_, rfl⟩
    obtain ⟨v8, e8⟩ : ∃ v, f'.env 8 = v := ⟨_, rfl⟩
    obtain ⟨v9, e9⟩ : ∃ v, f'.env 9 = v := ⟨_, rfl⟩
    rw [e7] at h5 c5 s5; rw [e8] at h6 c6 s6; rw [e9] at h7 c7 s7
    have hr : run ET false f12.res [.d f12.body] ⟨envOf [.ptr p 0 0, .int .i64 ver, cv], []⟩ σ = some (.ret (.int .i64 0), σ'.set p (.row 4 [[.int .i64 ver, v7, v8, v9]])) := by
      rw [h1]
      simp [h2, h3, h4, e7, e8, e9, hHp, c5, c6, c7, s5, s6, s7]
    have hlt := hd.lt
    have h9 : frzC (σ'.set p (.row 4 [[.int .i64 ver, v7, v8, v9]])).H (fun l => decide (l < σ.n)) 4 v9 = told 3 v9 (ed.map edE) := by
      have h7' : Own σ (σ'.set p (.row 4 [[.int .i64 ver, v7, v8, v9]])) 3 v9 (ed.map edE) → frzC (σ'.set p (.row 4 [[.int .i64 ver, v7, v8, v9]])).H (fun l => decide (l < σ.n)) 4 v9 = told 3 v9 (ed.map edE) := fun q => q.frz (edE_pure _) 3
      refine (h7.sl.mono (σ' := σ'.set p (.row 4 [[.int .i64 ver, v7, v8, v9]])) fun l hl => ?_).frz (fun l hl => ?_) (edE_pure _) 3
      · have := (h7.lo l hl).1
        simp [show l ≠ p by omega]
      · have := (h7.lo l hl).1
        simp; omega
    refine ⟨σ.set p (.row 4 [[.int .i64 ver, v7, v8, told 3 v9 (ed.map edE)]]), ev_set (fd := f12) rfl (by simp [f12]) rfl hr hlt ?_ (fun l hl hn => by simp [hn, h7.gr.H l hl]) h7.gr.W (fun e => ?_) (by simp), ⟨⟨v7, v8, told 3 v9 (ed.map edE), by simp, h5, h6, h7.tl⟩, hlt, h8⟩, rfl, rfl, fun l hl => by simp [hl]⟩
    · simp [frzB, h5.frz, h6.frz]
      exact h9
    · rw [← e]
      simp only [set_H, if_true]
      rw [hH] at e
      simp at e
      obtain ⟨rfl, rfl, rfl, rfl⟩ := e
      have : told 3 v9 (ed.map edE) = v9 := by
        rcases h7.sl with ⟨rfl, _⟩ | ⟨l, rfl, _⟩
        · rfl
        · rcases hE with ⟨h, _⟩ | h <;> simp at h
      rw [this]
end Go.Proofs.Ytogibebpoliolaa
namespace Go.Proofs.Ytogibebpoliolaa
open Go.Proofs.Ytogibebpoliolaa.Ab
set_option linter.unusedVariables false
set_option linter.unusedSimpArgs false
attribute [local simp] Gr.refl Gr.new Gr.set Gr.kill Nat.add_assoc r_cks chk_x chk_n
theorem bytes_ev {σ : St} {p : Nat} {ver : Int} {b : List UInt8} {ed : List Ed} (h : Doc σ p ver b ed) : ∃ u τ, ev ET 15 [.ptr p 0 0] σ = some (.ret u, τ) ∧ Own σ τ 1 u (b.map byteE) := by
  obtain ⟨B, Ls, Es, hH, hB, hL, hE⟩ := h.H
  have hb := h.len
  obtain ⟨u, τ, h1, h2, _⟩ := (Own.nils σ 1).appA (y := B) (ys := b.map byteE) (srcOf_rd hB.rd) (bytes := 1) (by simp [reach]; omega) (by simp [reach]; omega)
  exact ⟨u, τ, ev_raw (fd := f15) rfl (by simp [f15]) rfl (by simp [f15, d15, hH, h1]), by simpa using h2⟩
theorem edits_ev {σ : St} {p : Nat} {ver : Int} {b : List UInt8} {ed : List Ed} (h : Doc σ p ver b ed) (hl : ed.length < 2 ^ 40) : ∃ u τ, ev ET 16 [.ptr p 0 0] σ = some (.ret u, τ) ∧ Own σ τ 3 u (ed.map edE) := by
  obtain ⟨B, Ls, Es, hH, hB, hL, hE⟩ := h.H
  obtain ⟨u, τ, h1, h2, _⟩ := (Own.nils σ 3).appA (y := Es) (ys := ed.map edE) (srcOf_rd hE.rd) (bytes := 24) (by simp [reach]; omega) (by simp [reach]; omega)
  exact ⟨u, τ, ev_raw (fd := f16) rfl (by simp [f16]) rfl (by simp [f16, d16, hH, h1]), by simpa using h2⟩
theorem bytes_nil {σ : St} : ev ET 15 [.nilp] σ = some (.ret .nils, σ) := ev_raw (fd := f15) rfl (by simp [f15]) rfl (by simp [f15, d15])
theorem edits_nil {σ : St} : ev ET 16 [.nilp] σ = some (.ret .nils, σ) := ev_raw (fd := f16) rfl (by simp [f16]) rfl (by simp [f16, d16])
theorem docoff_nil {σ : St} {a b : V} : ev ET 19 [.nilp, .agg [.int .i64 0, .int .i64 0]] σ = some (.ret (.int .i64 0), σ) :=
  ev_pure (fd := f19) (σ' := σ.new (.row 2 [[.int .i64 0, .int .i64 0]])) (o := .ret (.int .i64 0)) rfl (by simp [f19]) rfl (by simp [f19, d19]) ((Gr.refl σ).new _).H rfl (by simp)
theorem docplace_nil {σ : St} {a : Int} : ev ET 20 [.nilp, .int .i64 a] σ = some (.ret (.agg [.int .i64 0, .int .i64 0]), σ) :=
  ev_pure (fd := f20) (σ' := (σ.new (.row 2 [[.int .i64 0, .int .i64 0]])).set σ.n (.row 2 [[.int .i64 0, .int .i64 0]])) (o := .ret (.agg [.int .i64 0, .int .i64 0])) rfl (by simp [f20]) rfl (by simp [f20, d20]) (((Gr.refl σ).new _).set (Nat.le_refl _) _).H rfl (by simp)
theorem docoff_ev {σ : St} {p : Nat} {ver : Int} {b : List UInt8} {ed : List Ed} {l u : Int} (h : Doc σ p ver b ed) (hu : IntKind.i64.min ≤ u ∧ u ≤ IntKind.i64.max) : ev ET 19 [.ptr p 0 0, .agg [.int .i64 l, .int .i64 u]] σ = some (.ret (.int .i64 (offF b (linesF b) l u)), σ) := by
  obtain ⟨B, Ls, Es, hH, hB, hL, hE⟩ := h.H
  have hb := h.len
  have hp := h.lt
  have ho := offset_ev (σ := σ.new (.row 2 [[.int .i64 l, .int .i64 u]])) (v := B) (lv := Ls) (L := linesF b) (line := l) hB.rd hB.old hL.rd hL.old (by omega) hu
  exact ev_pure (fd := f19) (σ' := σ.new (.row 2 [[.int .i64 l, .int .i64 u]])) (o := .ret (.int .i64 (offF b (linesF b) l u))) rfl (by simp [f19]) rfl (by simp [f19, d19, hH, ho, show p ≠ σ.n by omega]) ((Gr.refl σ).new _).H rfl (by simp)
theorem lns_len {s : List UInt8} : ∀ (n i : Nat), s.length = i + n → (lns s i).length ≤ n
  | 0, i, h => by rw [lns, dif_neg (by omega)]; simp
  | n + 1, i, h => by
    have := lns_len (s := s) n (i + 1) (by omega)
    rw [lns, dif_pos (by omega)]
    split <;> simp <;> omega
theorem docplace_ev {σ : St} {p : Nat} {ver : Int} {b : List UInt8} {ed : List Ed} {a : Int} (h : Doc σ p ver b ed) : ev ET 20 [.ptr p 0 0, .int .i64 a] σ = some (.ret (.agg [.int .i64 (placeF b (linesF b) a).1, .int .i64 (placeF b (linesF b) a).2]), σ) := by
  obtain ⟨B, Ls, Es, hH, hB, hL, hE⟩ := h.H
  have hb := h.len
  have hp := h.lt
  have hln := lns_len (s := b) b.length 0 (by omega)
  have ho := place_ev (σ := σ.new (.row 2 [[.int .i64 0, .int .i64 0]])) (v := B) (lv := Ls) (L := linesF b) (at' := a) hB.rd hB.old hL.rd hL.old (by omega) (by simp [linesF]; omega) (by simp [linesF])
  exact ev_pure (fd := f20) (σ' := (σ.new (.row 2 [[.int .i64 0, .int .i64 0]])).set σ.n (.row 2 [[.int .i64 (placeF b (linesF b) a).1, .int .i64 (placeF b (linesF b) a).2]])) (o := .ret (.agg [.int .i64 (placeF b (linesF b) a).1, .int .i64 (placeF b (linesF b) a).2])) rfl (by simp [f20]) rfl (by simp [f20, d20, hH, ho, show p ≠ σ.n by omega]) (((Gr.refl σ).new _).set (Nat.le_refl _) _).H rfl (by simp)
def lightF (s : List UInt8) (cs : List Ch) : Bool := decide (s.length ≤ 500) && (decide (cs.length ≤ 20) && cs.all fun c => decide (c.text.length ≤ 300))
theorem light_loop {σ : St} {cv : V} {all : List Ch} (hcv : Rd σ 6 cv (all.map chE)) (hal : all.length < 2 ^ 40) {x : D} {B : D} (hB : B = b8_0) (hx : ∀ e, run ET false [.t 4] [.d x] ⟨e, []⟩ σ = some (.ret (.bool true), σ)) :
    ∀ (cs : List Ch) (i : Nat) (f : Fr), all.drop i = cs → f.ds = [] → f.env 1 = cv → f.env 5 = .int .i64 i → run ET false [.t 4] (.d (.loop [1, 5] B) :: .blk 0 :: [.d x]) f σ = some (.ret (.bool (cs.all fun c => decide (c.text.length ≤ 300))), σ)
  | [], i, f, hl, hd, h1, h5 => by
    rw [r_loopU hB]
    have hcl : lenV cv = some (.int .i64 all.length) := by simpa using hcv.len
    have hlen := congrArg List.length hl
    simp at hlen
    have h : ¬ i < all.length := by omega
    simp [b8_0, h1, h5, hcl, h, hd, hx]
  | c :: cs, i, f, hl, hd, h1, h5 => by
    rw [r_loopU hB]
    have hcl : lenV cv = some (.int .i64 all.length) := by simpa using hcv.len
    have hlen := congrArg List.length hl
    simp at hlen
    have h : i < all.length := by omega
    have hat : all[i]? = some c := by
      have := congrArg (·[0]?) hl
      simpa using this
    have hnext : all.drop (i + 1) = cs := by rw [← List.drop_drop, hl]; rfl
    have hia := Rd.at hcv (k := .i64) (i := i) (by simpa using h)
    have hfa := Rd.fa hcv (i := i) (j := 5) (by simpa using h)
    have hld := Rd.cel hcv (i := i) (j := 5) (e := chE c) (by simp [hat])
    simp [chE] at hld
    have hw : IntKind.i64.wrap ((i : Int) + 1) = ((i + 1 : Nat) : Int) := by rw [IntWalk.i64_in _ (by omega)]; omega
    obtain ⟨j, hj⟩ : ∃ j, j = i + 1 := ⟨_, rfl⟩
    rw [← hj] at hw hnext
    by_cases h3 : c.text.length ≤ 300
    · have h3' : ¬ (300 : Int) < c.text.length := by omega
      simp [b8_0, h1, h5, hcl, h, hd, hia, hfa, hld, h3, h3', hw]
      refine (light_loop hcv hal hB hx cs j _ hnext rfl ?_ ?_).trans ?_ <;> simp
    · have h3' : (300 : Int) < c.text.length := by omega
      simp [b8_0, h1, h5, hcl, h, hd, hia, hfa, hld, h3, h3']
theorem light_ev {σ : St} {cv : V} {s : List UInt8} {cs : List Ch} (hcv : Rd σ 6 cv (cs.map chE)) : ev ET 8 [.str s, cv] σ = some (.ret (.bool (lightF s cs)), σ) := by
  refine ev_same (fd := f8) (o := .ret (.bool (lightF s cs))) rfl (by simp [f8]) rfl ?_ (by simp)
  have hcl : lenV cv = some (.int .i64 cs.length) := by simpa using hcv.len
  by_cases h1 : s.length ≤ 500
  · have h1' : ¬ (500 : Int) < s.length := by omega
    by_cases h2 : cs.length ≤ 20
    · have h2' : ¬ (20 : Int) < cs.length := by omega
      simp [f8, d8, h1, h2, h1', h2', hcl, lightF]
      exact light_loop hcv (by omega) rfl (fun e => by simp) cs 0 _ rfl rfl (by simp) (by simp)
    · have h2' : (20 : Int) < cs.length := by omega
      simp [f8, d8, h1, h2, h1', h2', hcl, lightF]
  · have h1' : (500 : Int) < s.length := by omega
    simp [f8, d8, h1, h1', lightF]
end Go.Proofs.Ytogibebpoliolaa
namespace Go.Proofs.Ytogibebpoliolaa
open Go.Proofs.Ytogibebpoliolaa.Ab
set_option linter.unusedVariables false
set_option linter.unusedSimpArgs false
attribute [local simp] Gr.refl Gr.new Gr.set Gr.kill Nat.add_assoc r_cks chk_x chk_n
theorem bad_5 : takeE [97, 98, 10, 99, 100] = 0 := by
  have h : ∀ i, i < 5 → lt1 [97, 98, 10, 99, 100] i = some (nx [97, 98, 10, 99, 100] i, 1) := by decide +kernel
  have : bad [97, 98, 10, 99, 100] 0 = none := by
    rw [bad_some (by simp) (h 0 (by omega)), bad_some (by simp) (h 1 (by omega)), bad_some (by simp) (h 2 (by omega)), bad_some (by simp) (h 3 (by omega)), bad_some (by simp) (h 4 (by omega)), bad_end (by simp)]
  simp [takeE, this]
theorem bad_1 : bad [120] 0 = none := by
  have h : lt1 [120] 0 = some (120, 1) := by decide +kernel
  rw [bad_some (by simp) h, bad_end (by simp)]
theorem app_5 : applyF [97, 98, 10, 99, 100] [] [⟨true, 1, 1, 1, 1, [120]⟩] = .ok [97, 98, 10, 99, 120, 100] [⟨4, 4, 1⟩] := by
  have hl : linesF [97, 98, 10, 99, 100] = [0, 3] := by simp [linesF, lns, brk]
  have he : endL [97, 98, 10, 99, 100] 3 = 5 := by simp [endL]
  have hlt : lts [99, 100] 0 = [(0, 99, 1), (1, 100, 1)] := by
    have h0 : lt1 [99, 100] 0 = some (99, 1) := by decide +kernel
    have h1 : lt1 [99, 100] 1 = some (100, 1) := by decide +kernel
    rw [lts_at (by simp)]
    simp [sp, h0]
    rw [lts_at (by simp)]
    simp [sp, h1]
    rw [lts_end (by simp)]
  have ho : offF [97, 98, 10, 99, 100] [0, 3] 1 1 = 4 := by simp [offF, he, hlt, offL, uni]
  simp [applyF, bad_1, editF, hl, ho, spliceF]
theorem opened_ev {σ : St} (h0 : σ.H (σ.n + 1) = none) : ev ET 9 [] σ = some (.ret (.bool true), σ) := by
  obtain ⟨τ1, o1, g1, n1, k1, d1⟩ := open_ok (ver := 1) bad_5 h0
  have hap := apply_ev (σ := τ1.new (.row 6 [chE ⟨true, 1, 1, 1, 1, [120]⟩])) (ver := 2) (cv := .slc (σ.n + 2) 0 1) (cs := [⟨true, 1, 1, 1, 1, [120]⟩]) (d1.gr ((Gr.refl _).new _)) (by simp [Rd, cont, n1]) (fun l off len e => by simp at e; simp [n1, ← e.1]) (fun c hc => by simp at hc; subst hc; simp [Ch.ok, IntKind.min, IntKind.max, IntKind.signed, IntKind.bits]) (by simp)
  rw [app_5] at hap
  obtain ⟨τ2, o2, d2, n2, w2, k2⟩ := hap
  obtain ⟨u3, τ3, o3, q3⟩ := edits_ev d2 (by simp)
  have d3 := d2.gr q3.gr
  obtain ⟨u4, τ4, o4, q4⟩ := bytes_ev d3
  have d4 := d3.gr q4.gr
  obtain ⟨B, Ls, Es, hH, _⟩ := d4.H
  have q3' := q3.step q4.gr
  have hl := q3'.rd.len
  have hia := Rd.at q3'.rd (k := .i64) (i := 0) (by simp)
  have hld := Rd.lda q3'.rd (i := 0) (e := edE ⟨4, 4, 1⟩) (m := 3) (by simp) rfl
  have hb2 := Bs.str (s := [97, 98, 10, 99, 120, 100]) q4.rd
  have gg : Gr σ τ4 := (((g1.new _).turn (p := σ.n + 1) (by omega) n2 w2 k2).trans q3.gr).trans q4.gr
  simp [edE] at hl hia hld
  simp [chE] at o2
  refine ev_pure (fd := f9) (o := .ret (.bool true)) (σ' := τ4) rfl (by simp [f9]) rfl ?_ gg.H gg.W (by simp)
  simp [f9, d9, o1, n1, o2, o3, o4, hb2, hH, hl, hia, hld]
end Go.Proofs.Ytogibebpoliolaa
