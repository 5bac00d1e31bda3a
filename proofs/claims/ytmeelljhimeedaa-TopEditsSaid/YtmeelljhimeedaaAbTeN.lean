/-
The walk over the program's texts, told with what its values say: a part of it. No further condition.
-/
import Derived.Test.YtmeelljhimeedaaAbTeJ
namespace Go.Proofs.Ytmeelljhimeedaa
open Go.Proofs.Ytmeelljhimeedaa.Ab
set_option linter.unusedVariables false
set_option linter.unusedSimpArgs false
attribute [local simp] Gr.refl Gr.new Gr.set Gr.kill Nat.add_assoc
@[local simp] theorem take_len {α β : Type} (s : List α) (f : α → β) : List.take s.length (s.map f) = s.map f := List.take_of_length_le (by simp)
/-- A document. -/
structure Doc (σ : St) (p : Nat) (ver : Int) (b : List UInt8) (ed : List Ed) : Prop where
  H : ∃ B Ls Es, σ.H p = some (.row 4 [[.int .i64 ver, B, Ls, Es]]) ∧ Tl 1 B (b.map byteE) ∧ Tl 1 Ls ((linesF b).map intE) ∧ Tl 3 Es (ed.map edE)
  lt : p < σ.n
  len : b.length ≤ 1048576
theorem Doc.gr {σ σ' : St} {p : Nat} {ver : Int} {b : List UInt8} {ed : List Ed} (h : Doc σ p ver b ed) (g : Gr σ σ') : Doc σ' p ver b ed := by
  obtain ⟨B, Ls, Es, h1, h2⟩ := h.H
  exact ⟨⟨B, Ls, Es, by rw [g.H p h.lt]; exact h1, h2⟩, Nat.lt_of_lt_of_le h.lt g.n, h.len⟩
theorem lay_ev {σ : St} {p : Nat} {ver : Int} {B Ls Es v : V} {b : List UInt8} (h : σ.H p = some (.row 4 [[.int .i64 ver, B, Ls, Es]])) (hp : p < σ.n) (hE : Tl 3 Es []) (hv : Bs σ v b) (ho : v.old σ) (hb : b.length < 2 ^ 40) :
    ev ET 14 [.ptr p 0 0, v] σ = some (.ret (.tup []), σ.set p (.row 4 [[.int .i64 ver, v, .islc 1 ((linesF b).map intE), Es]])) := by
  have hl := lines_ev (E := ET) rfl hv ho hb
  have hsc : v.scal = true := Rd.scal hv
  have hfv : frzC (σ.set p (.row 4 [[.int .i64 ver, v, .islc 1 ((linesF b).map intE), Es]])).H (fun l => decide (l < σ.n)) 4 v = v := by
    rcases Rd.inv hv with ⟨rfl, _⟩ | rfl | ⟨l, off, rows, rfl, _⟩
    · rfl
    · rfl
    · exact frz_old _ _ 3 (by simpa using ho l off _ rfl)
  refine ev_set (fd := f14) (o := .ret (.tup [])) (σ' := σ.set p (.row 4 [[.int .i64 ver, v, .islc 1 ((linesF b).map intE), Es]])) rfl (by simp [f14]) rfl ?_ hp ?_ (fun l hl hn => by simp [hn]) rfl (fun e => by rw [← e]; simp) (by simp)
  · simp [f14, d14, h, hl, cells_scal hsc, hsc, linesF]
  · simp [frzB, hfv, hE.frz]
def takeE (s : List UInt8) : Nat := if 1048576 < s.length then 3 else if bad s 0 = none then 0 else 10
theorem open_bad {σ : St} {ver : Int} {s : List UInt8} (hs : s.length < 2 ^ 40) (hb : takeE s ≠ 0) : ev ET 4 [.int .i64 ver, .str s] σ = some (.ret (.tup [.nilp, .int .i64 (takeE s)]), σ) := by
  unfold takeE at *
  by_cases h : 1048576 < s.length
  · have h' : (1048576 : Int) < s.length := by omega
    rw [if_pos h]
    exact ev_own0 (fd := f4) (o := .ret (.tup [.nilp, .int .i64 3])) (σ' := σ) rfl (by simp [f4]) rfl (by simp [f4, d4, h']) rfl (fun _ _ => rfl) rfl (by simp)
  · have h' : ¬ (1048576 : Int) < s.length := by omega
    rw [if_neg h] at hb ⊢
    split at hb
    · exact absurd rfl hb
    · rename_i hbad
      rw [if_neg hbad]
      obtain ⟨i, hi⟩ := Option.ne_none_iff_exists'.1 hbad
      have hv := valid_ev (E := ET) rfl (σ := σ.new (.row 1 (s.map byteE))) (v := .slc σ.n 0 s.length) (b := s) (by simp [Bs, Rd, cont]) hs
      simp [hi, badV] at hv
      exact ev_own0 (fd := f4) (o := .ret (.tup [.nilp, .int .i64 10])) (σ' := σ.new (.row 1 (s.map byteE))) rfl (by simp [f4]) rfl (by simp [f4, d4, h', hv]) rfl (fun l hl => by simp [show l ≠ σ.n by omega]) rfl (by simp)
theorem open_ok {σ : St} {ver : Int} {s : List UInt8} (hb : takeE s = 0) (h0 : σ.H (σ.n + 1) = none) : ∃ τ, ev ET 4 [.int .i64 ver, .str s] σ = some (.ret (.tup [.ptr (σ.n + 1) 0 0, .int .i64 0]), τ) ∧ Gr σ τ ∧ τ.n = σ.n + 2 ∧ (∀ l, l ≠ σ.n + 1 → τ.H l = σ.H l) ∧ Doc τ (σ.n + 1) ver s [] := by
  unfold takeE at hb
  by_cases h : 1048576 < s.length
  · rw [if_pos h] at hb; simp at hb
  rw [if_neg h] at hb
  have h' : ¬ (1048576 : Int) < s.length := by omega
  split at hb
  · rename_i hbad
    have hv := valid_ev (E := ET) rfl (σ := σ.new (.row 1 (s.map byteE))) (v := .slc σ.n 0 s.length) (b := s) (by simp [Bs, Rd, cont]) (by omega)
    simp [hbad, badV] at hv
    have hla := lay_ev (σ := ((σ.new (.row 1 (s.map byteE))).new (.row 4 [[.int .i64 ver, .nils, .nils, .nils]])).new (.row 1 (s.map byteE))) (p := σ.n + 1) (ver := ver) (B := .nils) (Ls := .nils) (Es := .nils) (v := .slc (σ.n + 2) 0 s.length) (b := s) (by simp) (by simp) (Tl.nils 3) (by simp [Bs, Rd, cont]) (fun l off len e => by simp at e; simp [← e.1]) (by omega)
    have hf : frzC ((((σ.new (.row 1 (s.map byteE))).new (.row 4 [[.int .i64 ver, .nils, .nils, .nils]])).new (.row 1 (s.map byteE))).set (σ.n + 1) (.row 4 [[.int .i64 ver, .slc (σ.n + 2) 0 s.length, .islc 1 ((linesF s).map intE), .nils]])).H (fun l => decide (l < σ.n) || [σ.n + 1].contains l) 4 (.slc (σ.n + 2) 0 s.length) = .islc 1 (s.map byteE) := by
      have := frz_slc ((((σ.new (.row 1 (s.map byteE))).new (.row 4 [[.int .i64 ver, .nils, .nils, .nils]])).new (.row 1 (s.map byteE))).set (σ.n + 1) (.row 4 [[.int .i64 ver, .slc (σ.n + 2) 0 s.length, .islc 1 ((linesF s).map intE), .nils]])).H (fun l => decide (l < σ.n) || [σ.n + 1].contains l) (l := σ.n + 2) (off := 0) (len := s.length) (z := 1) (es := s.map byteE) 3 (by simp) (by simp) (by simp) (byteE_pure s)
      simpa using this
    refine ⟨_, ev_own1 (fd := f4) (o := .ret (.tup [.ptr (σ.n + 1) 0 0, .int .i64 0])) (σ' := (((σ.new (.row 1 (s.map byteE))).new (.row 4 [[.int .i64 ver, .nils, .nils, .nils]])).new (.row 1 (s.map byteE))).set (σ.n + 1) (.row 4 [[.int .i64 ver, .slc (σ.n + 2) 0 s.length, .islc 1 ((linesF s).map intE), .nils]])) (p := σ.n + 1) (b := .row 4 [[.int .i64 ver, .islc 1 (s.map byteE), .islc 1 ((linesF s).map intE), .nils]]) rfl (by simp [f4]) rfl ?_ rfl (by omega) h0 ?_ ?_ rfl ?_, add_gr (by omega) _, rfl, fun l hl => by simp [hl], ⟨⟨.islc 1 (s.map byteE), .islc 1 ((linesF s).map intE), .nils, by simp, .islc _ _, .islc _ _, .nils 3⟩, by simp, by omega⟩⟩
    · simp [f4, d4, h', hv, hla]
    · simp [frzB]
      simpa using hf
    · intro l hl; simp [show l ≠ σ.n + 1 by omega, show l ≠ σ.n + 2 by omega, show l ≠ σ.n by omega]
    · simp
      exact frz_oldp _ _ 3 (by simp)
  · simp at hb
end Go.Proofs.Ytmeelljhimeedaa
namespace Go.Proofs.Ytmeelljhimeedaa
open Go.Proofs.Ytmeelljhimeedaa.Ab
set_option linter.unusedVariables false
set_option linter.unusedSimpArgs false
attribute [local simp] Gr.refl Gr.new Gr.set Gr.kill Nat.add_assoc
inductive Rs where
  | err (n : Nat)
  | ok (b : List UInt8) (ed : List Ed)
def applyF (b : List UInt8) (acc : List Ed) : List Ch → Rs
  | [] => .ok b acc
  | c :: cs => if bad c.text 0 = none then
      if 1048576 < b.length - ((editF b c).to - (editF b c).fr) + c.text.length then .err 3 else applyF (spliceF b (editF b c) c.text) (acc ++ [editF b c]) cs
    else .err 10
def ApR (σ0 : St) (p : Nat) (ver : Int) (x : D) (r : Option (CO × St)) : Rs → Prop
  | .err e => ∃ τ, r = some (.ret (.int .i64 e), τ) ∧ Gr σ0 τ
  | .ok b ed => Lands ET false [.t 6] [.d x] (fun f' σ' => f'.ds = [] ∧ f'.env 0 = .ptr p 0 0 ∧ f'.env 1 = .int .i64 ver ∧ Tl 1 (f'.env 7) (b.map byteE) ∧ Tl 1 (f'.env 8) ((linesF b).map intE) ∧ Own σ0 σ' 3 (f'.env 9) (ed.map edE) ∧ b.length ≤ 1048576) r
theorem offL_le {fr to : Nat} : ∀ (ls : List (Nat × Int × Nat)) (left : Int), (∀ x ∈ ls, fr + x.1 ≤ to) → offL ls left fr to ≤ to
  | [], _, _ => Nat.le_refl _
  | (a, r, k) :: ls, left, h => by
    unfold offL
    split
    · exact h (a, r, k) (by simp)
    · exact offL_le ls _ fun x hx => h x (by simp [hx])
theorem offF_le (b : List UInt8) (L : List Nat) (l u : Int) : offF b L l u ≤ b.length := by
  unfold offF
  split
  · omega
  · split
    · omega
    · rename_i x hx
      have h1 := endL_le (s := b) (i := min x b.length) (Nat.min_le_right _ _)
      obtain ⟨fr, hfr⟩ : ∃ fr, fr = min x b.length := ⟨_, rfl⟩
      rw [← hfr] at h1 ⊢
      refine Nat.le_trans (offL_le _ _ fun y hy => ?_) h1.2
      have := lts_in ((b.take (endL b fr)).drop fr).length 0 (by omega) y hy
      simp at this
      omega
theorem edit_in {b : List UInt8} {c : Ch} : (editF b c).fr ≤ (editF b c).to ∧ (editF b c).to ≤ b.length ∧ (editF b c).sz = c.text.length := by
  unfold editF
  split
  · have h1 := offF_le b (linesF b) c.l1 c.u1
    have h2 := offF_le b (linesF b) c.l2 c.u2
    simp; omega
  · simp
theorem edE_pure (l : List Ed) : ∀ e ∈ l.map edE, ∀ u ∈ e, u.pure = true := fun e he u hu => by
  simp at he; obtain ⟨c, _, rfl⟩ := he; simp [edE] at hu; rcases hu with rfl | rfl | rfl <;> rfl
theorem apply_loop {σ0 : St} {p : Nat} {ver : Int} {cv : V} {all : List Ch} (hcv : Rd σ0 6 cv (all.map chE)) (hco : cv.old σ0) (hall : ∀ c ∈ all, c.ok ∧ c.text.length < 2 ^ 40) (hal : all.length < 2 ^ 40) {x : D} {B : D} (hB : B = b5_0) :
    ∀ (cs : List Ch) (i : Nat) (acc : List Ed) (b : List UInt8) (f : Fr) (σ : St), all.drop i = cs → acc.length ≤ i → b.length ≤ 1048576 → f.ds = [] → f.env 0 = .ptr p 0 0 → f.env 1 = .int .i64 ver → Tl 1 (f.env 7) (b.map byteE) → Tl 1 (f.env 8) ((linesF b).map intE) → Own σ0 σ 3 (f.env 9) (acc.map edE) →
      f.env 25 = cv → f.env 26 = .int .i64 all.length → f.env 27 = .int .i64 i →
      ApR σ0 p ver x (run ET false [.t 6] (.d (.loop [0, 1, 7, 8, 9, 25, 26, 27] B) :: .blk 0 :: [.d x]) f σ) (applyF b acc cs)
  | [], i, acc, b, f, σ, hl, ha, hb, hd, h0, h1, h7, h8, h9, h25, h26, h27 => by
    rw [r_loopU hB]
    have hlen := congrArg List.length hl
    simp at hlen
    have h : ¬ i < all.length := by omega
    simp [b5_0, h26, h27, h, hd, h0, h1, h25]
    exact .here ⟨by simp, by simp, by simp, by simpa using h7, by simpa using h8, by simpa using h9, hb⟩
  | c :: cs, i, acc, b, f, σ, hl, ha, hb, hd, h0, h1, h7, h8, h9, h25, h26, h27 => by
    rw [r_loopU hB]
    have hlen := congrArg List.length hl
    simp at hlen
    have h : i < all.length := by omega
    have hat : all[i]? = some c := by
      have := congrArg (·[0]?) hl
      simpa using this
    have hnext : all.drop (i + 1) = cs := by rw [← List.drop_drop, hl]; rfl
    obtain ⟨hc, hct⟩ := hall c (List.mem_of_getElem? hat)
    obtain ⟨v7, e7⟩ : ∃ v, f.env 7 = v := ⟨_, rfl⟩
    obtain ⟨v8, e8⟩ : ∃ v, f.env 8 = v := ⟨_, rfl⟩
    obtain ⟨v9, e9⟩ : ∃ v, f.env 9 = v := ⟨_, rfl⟩
    rw [e7] at h7; rw [e8] at h8; rw [e9] at h9
    have hia : ∀ σ', Gr σ0 σ' → iaV σ' 6 cv (.int .i64 i) = some (elA cv i) := fun σ' g => Rd.at (hcv.gr g hco) (by simpa using h)
    have hld : ∀ σ', Gr σ0 σ' → ldaV σ' 6 (elA cv i) = some (.agg (chE c)) := fun σ' g => Rd.lda (hcv.gr g hco) (by simp [hat]) rfl
    have g := h9.gr
    obtain ⟨rg, l1, u1, l2, u2, t⟩ := c
    have gn := g.n
    obtain ⟨s1, hs1⟩ : ∃ s1, s1 = (σ.new (.row 6 [[.bool false, .int .i64 0, .int .i64 0, .int .i64 0, .int .i64 0, .str []]])).set σ.n (.row 6 [[.bool rg, .int .i64 l1, .int .i64 u1, .int .i64 l2, .int .i64 u2, .str t]]) := ⟨_, rfl⟩
    have n1 : s1.n = σ.n + 1 := by rw [hs1]; simp
    have b1 : s1.H σ.n = some (.row 6 [[.bool rg, .int .i64 l1, .int .i64 u1, .int .i64 l2, .int .i64 u2, .str t]]) := by rw [hs1]; simp
    have gg1 : Gr σ s1 := by rw [hs1]; simp
    have hva : ev ET 7 [.slc (σ.n + 1) 0 t.length] (s1.new (.row 1 (t.map byteE))) = some (.ret (badV (bad t 0)), s1.new (.row 1 (t.map byteE))) := valid_ev rfl (by simp [Bs, Rd, cont, n1, List.take_of_length_le]) hct
    by_cases hbad : bad t 0 = none
    · have b7 := h7.rd (σ := s1.new (.row 1 (t.map byteE)))
      have hl7 : lenV v7 = some (.int .i64 b.length) := by simpa using b7.len
      rw [hbad] at hva
      obtain ⟨e, he⟩ : ∃ e, e = editF b ⟨rg, l1, u1, l2, u2, t⟩ := ⟨_, rfl⟩
      have hed := edit_ev (σ := s1.new (.row 1 (t.map byteE))) (v := v7) (lv := v8) hc b7 h7.old h8.rd h8.old (by omega)
      have hin := edit_in (b := b) (c := ⟨rg, l1, u1, l2, u2, t⟩)
      rw [← he] at hed hin
      simp only at hin
      obtain ⟨fr, to, sz⟩ := e
      simp only at hin
      obtain ⟨m1, e1⟩ : ∃ m, m = to - fr := ⟨_, rfl⟩
      obtain ⟨m2, e2⟩ : ∃ m, m = b.length - m1 := ⟨_, rfl⟩
      obtain ⟨m3, e3⟩ : ∃ m : Int, m = 1048576 - t.length := ⟨_, rfl⟩
      have hct' : t.length < 2 ^ 40 := hct
      have w1 : IntKind.i64.wrap ((to : Int) - fr) = (m1 : Int) := by rw [IntWalk.i64_in _ (by omega)]; omega
      have w2 : IntKind.i64.wrap ((b.length : Int) - m1) = (m2 : Int) := by rw [IntWalk.i64_in _ (by omega)]; omega
      have w3 : IntKind.i64.wrap ((1048576 : Int) - t.length) = m3 := by rw [IntWalk.i64_in _ (by omega)]; omega
      simp [badV] at hva
      simp [chE, edE] at hed
      by_cases hbig : m3 < m2
      · have e1 : applyF b acc (⟨rg, l1, u1, l2, u2, t⟩ :: cs) = .err 3 := by simp only [applyF, hbad, if_true, ← he]; rw [if_pos (by omega)]
        rw [e1]
        show ∃ τ, _ ∧ Gr σ0 τ
        refine ⟨_, by simp [b5_0, h26, h27, h, hd, h0, h1, h25, e7, e8, e9, g, hia, hld, chE, ← hs1, hva, n1, b1, hed, hl7, w1, w2, w3, hbig]; rfl, ?_⟩
        simp (maxDischargeDepth := 12) [g.trans gg1, n1, Nat.le_add_right_of_le gn]
      · have e1 : applyF b acc (⟨rg, l1, u1, l2, u2, t⟩ :: cs) = applyF (spliceF b ⟨fr, to, sz⟩ t) (acc ++ [⟨fr, to, sz⟩]) cs := by simp only [applyF, hbad, if_true, ← he]; rw [if_neg (by omega)]
        rw [e1]
        obtain ⟨s3, hs3⟩ : ∃ s3, s3 = ((s1.new (.row 1 (t.map byteE))).new (.row 3 [[.int .i64 0, .int .i64 0, .int .i64 0]])).set (σ.n + 2) (.row 3 [[.int .i64 fr, .int .i64 to, .int .i64 sz]]) := ⟨_, rfl⟩
        have n3 : s3.n = σ.n + 3 := by rw [hs3]; simp [n1]
        have b2 : s3.H (σ.n + 2) = some (.row 3 [[.int .i64 fr, .int .i64 to, .int .i64 sz]]) := by rw [hs3]; simp
        have b3 : s3.H σ.n = some (.row 6 [[.bool rg, .int .i64 l1, .int .i64 u1, .int .i64 l2, .int .i64 u2, .str t]]) := by rw [hs3]; simp [n1, b1]
        have gg3 : Gr σ s3 := by rw [hs3]; exact ((gg1.new _).new _).set (by omega) _
        have hsp := spliced_ev (σ := s3) (v := v7) (s := t) (e := ⟨fr, to, sz⟩) h7.rd h7.old hin.1 hin.2.1 (by omega) hct'
        have hlen : (spliceF b ⟨fr, to, sz⟩ t).length = fr + t.length + (b.length - to) := by simp [spliceF]; omega
        have hb' : (spliceF b ⟨fr, to, sz⟩ t).length ≤ 1048576 := by omega
        have hli := lines_ev (E := ET) rfl (σ := s3) (v := .islc 1 ((spliceF b ⟨fr, to, sz⟩ t).map byteE)) (b := spliceF b ⟨fr, to, sz⟩ t) (Tl.islc _ _).rd (V.old_islc _ _) (by omega)
        obtain ⟨u, τ, ap, q⟩ := (h9.step gg3).app1 [edE ⟨fr, to, sz⟩] (by simp) (bytes := 24) (n := 1) (by simp [reach]; omega) (by simp [reach]; omega) rfl
        simp [edE] at hsp ap
        have hw : IntKind.i64.wrap ((i : Int) + 1) = ((i + 1 : Nat) : Int) := by rw [IntWalk.i64_in _ (by omega)]; omega
        obtain ⟨j, hj⟩ : ∃ j, j = i + 1 := ⟨_, rfl⟩
        rw [← hj] at hw hnext
        rw [n3] at ap
        simp [b5_0, h26, h27, h, hd, h0, h1, h25, e7, e8, e9, g, hia, hld, chE, ← hs1, hva, n1, b1, hed, hl7, w1, w2, w3, hbig, ← hs3, b2, b3, n3, hsp, hli, ap, hw]
        refine apply_loop hcv hco hall hal hB cs j (acc ++ [⟨fr, to, sz⟩]) (spliceF b ⟨fr, to, sz⟩ t) _ τ hnext ?_ hb' ?_ ?_ ?_ ?_ ?_ ?_ ?_ ?_ ?_
        · simp; omega
        · rfl
        · simp
        · simp
        · simp; exact .islc _ _
        · simp [linesF]; exact .islc _ _
        · simpa using q
        · simp
        · simp
        · simp
    · obtain ⟨k, hk⟩ := Option.ne_none_iff_exists'.1 hbad
      have e1 : applyF b acc (⟨rg, l1, u1, l2, u2, t⟩ :: cs) = .err 10 := by simp [applyF, hbad]
      rw [e1]
      rw [hk] at hva
      simp [badV] at hva
      show ∃ τ, _ ∧ Gr σ0 τ
      refine ⟨_, by simp [b5_0, h26, h27, h, hd, h0, h1, h25, e7, e8, e9, g, hia, hld, chE, ← hs1, hva, n1, b1]; rfl, ?_⟩
      exact (g.trans gg1).new _
theorem apply_nil {σ : St} {ver : Int} {cv : V} : ev ET 5 [.nilp, .int .i64 ver, cv] σ = some (.ret (.int .i64 2), σ) :=
  ev_same (fd := f5) (o := .ret (.int .i64 2)) rfl (by simp [f5]) rfl (by simp [f5, d5]) (by simp)
theorem apply_ev {σ : St} {p : Nat} {ver0 ver : Int} {b : List UInt8} {ed0 : List Ed} {cv : V} {cs : List Ch} (hd : Doc σ p ver0 b ed0) (hcv : Rd σ 6 cv (cs.map chE)) (hco : cv.old σ) (hall : ∀ c ∈ cs, c.ok ∧ c.text.length < 2 ^ 40) (hal : cs.length < 2 ^ 40) :
    match applyF b [] cs with
    | .err e => ev ET 5 [.ptr p 0 0, .int .i64 ver, cv] σ = some (.ret (.int .i64 e), σ)
    | .ok b' ed => ∃ τ, ev ET 5 [.ptr p 0 0, .int .i64 ver, cv] σ = some (.ret (.int .i64 0), τ) ∧ Doc τ p ver b' ed ∧ τ.n = σ.n ∧ τ.W = σ.W ∧ ∀ l, l ≠ p → τ.H l = σ.H l := by
  obtain ⟨B, Ls, Es, hH, hB, hL, hE⟩ := hd.H
  have hcl : lenV cv = some (.int .i64 cs.length) := by simpa using hcv.len
  have key := apply_loop (p := p) (ver := ver) hcv hco hall hal (x := .kb [0, 1, 7, 8, 9] (.seq (.reg [⟨some 70, none, .mv (.t 0)⟩,
    ⟨some 71, none, .mv (.t 0)⟩, ⟨some 72, none, .mv (.t 0)⟩, ⟨some 73, none, .mv (.t 0)⟩, ⟨some 74, none, .mv (.t 1)⟩, ⟨some 75, none, .mv (.t 7)⟩, ⟨some 76, none, .mv (.t 8)⟩, ⟨some 77, none, .mv (.t 9)⟩,
    ⟨some 78, none, .nilck (.t 70)⟩, ⟨some 79, none, .fa 0 (.t 78)⟩, ⟨none, none, .st 1 (.t 79) (.t 74)⟩, ⟨some 80, none, .nilck (.t 71)⟩, ⟨some 81, none, .fa 1 (.t 80)⟩, ⟨none, none, .st 1 (.t 81) (.t 75)⟩,
    ⟨some 82, none, .nilck (.t 72)⟩, ⟨some 83, none, .fa 2 (.t 82)⟩, ⟨none, none, .st 1 (.t 83) (.t 76)⟩, ⟨some 84, none, .nilck (.t 73)⟩, ⟨some 85, none, .fa 3 (.t 84)⟩, ⟨none, none, .st 1 (.t 85) (.t 77)⟩]) (.kb [] (.seq (.reg [⟨some 6, none, .mv (.c (.int .i64 0))⟩]) .ret)))) rfl cs 0 [] b
    ⟨lk [0, 1, 7, 8, 9, 25, 26, 27] [.ptr p 0 0, .int .i64 ver, B, Ls, .nils, cv, .int .i64 cs.length, .int .i64 0], []⟩ σ rfl (by simp) hd.len rfl (by simp) (by simp) (by simpa using hB) (by simpa using hL) (by simpa using Own.nils σ 3) (by simp) (by simp) (by simp)
  have hrun : run ET false f5.res [.d f5.body] ⟨envOf [.ptr p 0 0, .int .i64 ver, cv], []⟩ σ = run ET false [.t 6] (.d (.loop [0, 1, 7, 8, 9, 25, 26, 27] b5_0) :: .blk 0 :: [.d (.kb [0, 1, 7, 8, 9] (.seq (.reg [⟨some 70, none, .mv (.t 0)⟩,
    ⟨some 71, none, .mv (.t 0)⟩, ⟨some 72, none, .mv (.t 0)⟩, ⟨some 73, none, .mv (.t 0)⟩, ⟨some 74, none, .mv (.t 1)⟩, ⟨some 75, none, .mv (.t 7)⟩, ⟨some 76, none, .mv (.t 8)⟩, ⟨some 77, none, .mv (.t 9)⟩,
    ⟨some 78, none, .nilck (.t 70)⟩, ⟨some 79, none, .fa 0 (.t 78)⟩, ⟨none, none, .st 1 (.t 79) (.t 74)⟩, ⟨some 80, none, .nilck (.t 71)⟩, ⟨some 81, none, .fa 1 (.t 80)⟩, ⟨none, none, .st 1 (.t 81) (.t 75)⟩,
    ⟨some 82, none, .nilck (.t 72)⟩, ⟨some 83, none, .fa 2 (.t 82)⟩, ⟨none, none, .st 1 (.t 83) (.t 76)⟩, ⟨some 84, none, .nilck (.t 73)⟩, ⟨some 85, none, .fa 3 (.t 84)⟩, ⟨none, none, .st 1 (.t 85) (.t 77)⟩]) (.kb [] (.seq (.reg [⟨some 6, none, .mv (.c (.int .i64 0))⟩]) .ret))))])
    ⟨lk [0, 1, 7, 8, 9, 25, 26, 27] [.ptr p 0 0, .int .i64 ver, B, Ls, .nils, cv, .int .i64 cs.length, .int .i64 0], []⟩ σ := by
    simp [f5, d5, hH, hcl]
  rw [← hrun] at key
  revert key
  cases applyF b [] cs with
  | err e =>
    rintro ⟨τ, h1, h2⟩
    exact ev_pure (fd := f5) rfl (by simp [f5]) rfl h1 h2.H h2.W (by simp)
  | ok b' ed =>
    rintro ⟨f', σ', h1, h2, h3, h4, h5, h6, h7, h8⟩
    have hHp : σ'.H p = some (.row 4 [[.int .i64 ver0, B, Ls, Es]]) := (h7.gr.H p hd.lt).trans hH
    have c5 := cells_scal h5.scal
    have c6 := cells_scal h6.scal
    have c7 := cells_scal h7.sl.scal
    have s5 := h5.scal
    have s6 := h6.scal
    have s7 := h7.sl.scal
    have hto : ∀ H n m, frzC H n (m + 1) (f'.env 9) = told 3 (f'.env 9) (ed.map edE) → True := fun _ _ _ _ => trivial
    obtain ⟨v7, e7⟩ : ∃ v, f'.env 7 = v := ⟨_, rfl⟩
    obtain ⟨v8, e8⟩ : ∃ v, f'.env 8 = v := ⟨_, rfl⟩
    obtain ⟨v9, e9⟩ : ∃ v, f'.env 9 = v := ⟨_, rfl⟩
    rw [e7] at h5 c5 s5; rw [e8] at h6 c6 s6; rw [e9] at h7 c7 s7
    have hr : run ET false f5.res [.d f5.body] ⟨envOf [.ptr p 0 0, .int .i64 ver, cv], []⟩ σ = some (.ret (.int .i64 0), σ'.set p (.row 4 [[.int .i64 ver, v7, v8, v9]])) := by
      rw [h1]
      simp [h2, h3, h4, e7, e8, e9, hHp, c5, c6, c7, s5, s6, s7]
    have hlt := hd.lt
    have h9 : frzC (σ'.set p (.row 4 [[.int .i64 ver, v7, v8, v9]])).H (fun l => decide (l < σ.n)) 4 v9 = told 3 v9 (ed.map edE) := by
      have h7' : Own σ (σ'.set p (.row 4 [[.int .i64 ver, v7, v8, v9]])) 3 v9 (ed.map edE) → frzC (σ'.set p (.row 4 [[.int .i64 ver, v7, v8, v9]])).H (fun l => decide (l < σ.n)) 4 v9 = told 3 v9 (ed.map edE) := fun q => q.frz (edE_pure _) 3
      refine (h7.sl.mono (σ' := σ'.set p (.row 4 [[.int .i64 ver, v7, v8, v9]])) fun l hl => ?_).frz (fun l hl => ?_) (edE_pure _) 3
      · have := (h7.lo l hl).1
        simp [show l ≠ p by omega]
      · have := (h7.lo l hl).1
        simp; omega
    refine ⟨σ.set p (.row 4 [[.int .i64 ver, v7, v8, told 3 v9 (ed.map edE)]]), ev_set (fd := f5) rfl (by simp [f5]) rfl hr hlt ?_ (fun l hl hn => by simp [hn, h7.gr.H l hl]) h7.gr.W (fun e => ?_) (by simp), ⟨⟨v7, v8, told 3 v9 (ed.map edE), by simp, h5, h6, h7.tl⟩, hlt, h8⟩, rfl, rfl, fun l hl => by simp [hl]⟩
    · simp [frzB, h5.frz, h6.frz]
      exact h9
    · rw [← e]
      simp only [set_H, if_true]
      rw [hH] at e
      simp at e
      obtain ⟨rfl, rfl, rfl, rfl⟩ := e
      have : told 3 v9 (ed.map edE) = v9 := by
        rcases h7.sl with ⟨rfl, _⟩ | ⟨l, rfl, _⟩
        · rfl
        · rcases hE with ⟨h, _⟩ | h <;> simp at h
      rw [this]
end Go.Proofs.Ytmeelljhimeedaa
namespace Go.Proofs.Ytmeelljhimeedaa
open Go.Proofs.Ytmeelljhimeedaa.Ab
set_option linter.unusedVariables false
set_option linter.unusedSimpArgs false
attribute [local simp] Gr.refl Gr.new Gr.set Gr.kill Nat.add_assoc r_cks chk_x chk_n
theorem bytes_ev {σ : St} {p : Nat} {ver : Int} {b : List UInt8} {ed : List Ed} (h : Doc σ p ver b ed) : ∃ u, ev ET 6 [.ptr p 0 0] σ = some (.ret u, σ) ∧ Tl 1 u (b.map byteE) := by
  obtain ⟨B, Ls, Es, hH, hB, hL, hE⟩ := h.H
  have hb := h.len
  obtain ⟨u, τ, h1, h2, _⟩ := (Own.nils σ 1).appA (y := B) (ys := b.map byteE) (srcOf_rd hB.rd) (bytes := 1) (by simp [reach]; omega) (by simp [reach]; omega)
  have h2' : Own σ τ 1 u (b.map byteE) := by simpa using h2
  exact ⟨_, ev_pure (fd := f6) (o := .ret u) (σ' := τ) rfl (by simp [f6]) rfl (by simp [f6, d6, hH, h1]) h2'.gr.H h2'.gr.W (by simp only [frzO_ret]; rw [h2'.frzV (byteE_pure _)]), h2'.tl⟩
theorem edits_ev {σ : St} {p : Nat} {ver : Int} {b : List UInt8} {ed : List Ed} (h : Doc σ p ver b ed) (hl : ed.length < 2 ^ 40) : ∃ u, ev ET 13 [.ptr p 0 0] σ = some (.ret u, σ) ∧ Tl 3 u (ed.map edE) := by
  obtain ⟨B, Ls, Es, hH, hB, hL, hE⟩ := h.H
  obtain ⟨u, τ, h1, h2, _⟩ := (Own.nils σ 3).appA (y := Es) (ys := ed.map edE) (srcOf_rd hE.rd) (bytes := 24) (by simp [reach]; omega) (by simp [reach]; omega)
  have h2' : Own σ τ 3 u (ed.map edE) := by simpa using h2
  exact ⟨_, ev_pure (fd := f13) (o := .ret u) (σ' := τ) rfl (by simp [f13]) rfl (by simp [f13, d13, hH, h1]) h2'.gr.H h2'.gr.W (by simp only [frzO_ret]; rw [h2'.frzV (edE_pure _)]), h2'.tl⟩
theorem docoff_ev {σ : St} {p : Nat} {ver : Int} {b : List UInt8} {ed : List Ed} {l u : Int} (h : Doc σ p ver b ed) (hu : IntKind.i64.min ≤ u ∧ u ≤ IntKind.i64.max) : ev ET 11 [.ptr p 0 0, .agg [.int .i64 l, .int .i64 u]] σ = some (.ret (.int .i64 (offF b (linesF b) l u)), σ) := by
  obtain ⟨B, Ls, Es, hH, hB, hL, hE⟩ := h.H
  have hb := h.len
  have hp := h.lt
  have ho := offset_ev (σ := σ.new (.row 2 [[.int .i64 l, .int .i64 u]])) (v := B) (lv := Ls) (L := linesF b) (line := l) hB.rd hB.old hL.rd hL.old (by omega) hu
  exact ev_pure (fd := f11) (σ' := σ.new (.row 2 [[.int .i64 l, .int .i64 u]])) (o := .ret (.int .i64 (offF b (linesF b) l u))) rfl (by simp [f11]) rfl (by simp [f11, d11, hH, ho, show p ≠ σ.n by omega]) ((Gr.refl σ).new _).H rfl (by simp)
theorem lns_len {s : List UInt8} : ∀ (n i : Nat), s.length = i + n → (lns s i).length ≤ n
  | 0, i, h => by rw [lns, dif_neg (by omega)]; simp
  | n + 1, i, h => by
    have := lns_len (s := s) n (i + 1) (by omega)
    rw [lns, dif_pos (by omega)]
    split <;> simp <;> omega
theorem docplace_ev {σ : St} {p : Nat} {ver : Int} {b : List UInt8} {ed : List Ed} {a : Int} (h : Doc σ p ver b ed) : ev ET 10 [.ptr p 0 0, .int .i64 a] σ = some (.ret (.agg [.int .i64 (placeF b (linesF b) a).1, .int .i64 (placeF b (linesF b) a).2]), σ) := by
  obtain ⟨B, Ls, Es, hH, hB, hL, hE⟩ := h.H
  have hb := h.len
  have hp := h.lt
  have hln := lns_len (s := b) b.length 0 (by omega)
  have ho := place_ev (σ := σ.new (.row 2 [[.int .i64 0, .int .i64 0]])) (v := B) (lv := Ls) (L := linesF b) (at' := a) hB.rd hB.old hL.rd hL.old (by omega) (by simp [linesF]; omega) (by simp [linesF])
  exact ev_pure (fd := f10) (σ' := (σ.new (.row 2 [[.int .i64 0, .int .i64 0]])).set σ.n (.row 2 [[.int .i64 (placeF b (linesF b) a).1, .int .i64 (placeF b (linesF b) a).2]])) (o := .ret (.agg [.int .i64 (placeF b (linesF b) a).1, .int .i64 (placeF b (linesF b) a).2])) rfl (by simp [f10]) rfl (by simp [f10, d10, hH, ho, show p ≠ σ.n by omega]) (((Gr.refl σ).new _).set (Nat.le_refl _) _).H rfl (by simp)
end Go.Proofs.Ytmeelljhimeedaa
namespace Go.Proofs.Ytmeelljhimeedaa
open Go.Proofs.Ytmeelljhimeedaa.Ab
set_option linter.unusedVariables false
set_option linter.unusedSimpArgs false
attribute [local simp] Gr.refl Gr.new Gr.set Gr.kill Nat.add_assoc r_cks chk wantG
/-- Where a span is, behind edits. -/
def movedF (f t : Nat) : List Ed → Option (Nat × Nat)
  | [] => some (f, t)
  | e :: es => if e.to ≤ f ∧ ¬ (e.fr = e.to ∧ e.to = f ∧ f = t) then movedF (f + e.sz - (e.to - e.fr)) (t + e.sz - (e.to - e.fr)) es
      else if t ≤ e.fr then movedF f t es else none
def mvV : Option (Nat × Nat) → V
  | some (f, t) => .tup [.agg [.int .i64 f, .int .i64 t], .bool true]
  | none => .tup [.agg [.int .i64 0, .int .i64 0], .bool false]
def mvX : D := .kb [2, 4] (.seq (.reg [⟨some 68, none, .lda 2 (.t 2)⟩, ⟨none, none, .st 2 (.t 4) (.t 68)⟩, ⟨some 5, none, .mv (.c (.bool true))⟩]) .ret)
def MvR (σ0 : St) (r : Option (CO × St)) (x : Option (Nat × Nat)) : Prop := ∃ τ, r = some (.ret (mvV x), τ) ∧ Gr σ0 τ
theorem moved_loop {σ0 : St} {u : V} {all : List Ed} (hu : Rd σ0 3 u (all.map edE)) (huo : u.old σ0) (hal : all.length < 2 ^ 20) {p q : Nat} (hp : σ0.n ≤ p) (hq : σ0.n ≤ q) (hpq : p ≠ q) {B : D} (hB : B = b12_0) :
    ∀ (l : List Ed) (i f t : Nat) (fr : Fr) (σ : St), all.drop i = l → (∀ e ∈ l, e.fr ≤ e.to ∧ e.to < 2 ^ 40 ∧ e.sz < 2 ^ 40) → f ≤ t → t ≤ 2 ^ 40 * (i + 1) → Gr σ0 σ → p < σ.n → q < σ.n → σ.H p = some (.row 2 [[.int .i64 f, .int .i64 t]]) → σ.H q = some (.row 2 [[.int .i64 0, .int .i64 0]]) →
      fr.ds = [] → fr.env 2 = .ptr p 0 0 → fr.env 4 = .ptr q 0 0 → fr.env 9 = u → fr.env 10 = .int .i64 all.length → fr.env 11 = .int .i64 i →
      MvR σ0 (run ET false [.c 4 (some 2), .t 5] (.d (.loop [2, 4, 9, 10, 11] B) :: .blk 0 :: [.d mvX]) fr σ) (movedF f t l)
  | [], i, f, t, fr, σ, hl, _, _, _, g, _, _, hH, hQ, hd, h2, h4, h9, h10, h11 => by
    rw [r_loopU hB]
    have hlen := congrArg List.length hl
    simp at hlen
    have h : ¬ i < all.length := by omega
    show ∃ τ, _ ∧ Gr σ0 τ
    refine ⟨_, by simp [b12_0, h2, h4, h9, h10, h11, h, hd, mvX, hH, hQ, movedF, mvV]; rfl, g.set hq _⟩
  | e :: l, i, f, t, fr, σ, hl, he, hft, ht, g, hpn, hqn, hH, hQ, hd, h2, h4, h9, h10, h11 => by
    rw [r_loopU hB]
    have hlen := congrArg List.length hl
    simp at hlen
    have h : i < all.length := by omega
    have hat : all[i]? = some e := by
      have := congrArg (·[0]?) hl
      simpa using this
    have hnext : all.drop (i + 1) = l := by rw [← List.drop_drop, hl]; rfl
    have hia := Rd.at (hu.gr g huo) (k := .i64) (i := i) (by simpa using h)
    have hld := Rd.lda (hu.gr g huo) (i := i) (m := 3) (e := edE e) (by simp [hat]) rfl
    simp [edE] at hld
    obtain ⟨a, b, z⟩ := e
    obtain ⟨k1, k2, k3⟩ := he ⟨a, b, z⟩ (by simp)
    simp only at k1 k2 k3 hld
    have hnp : ¬ σ.n = p := by omega
    have hnp' : ¬ p = σ.n := by omega
    have hnq : ¬ q = σ.n := by omega
    have hqp : ¬ q = p := fun h => hpq h.symm
    have hw : IntKind.i64.wrap ((i : Int) + 1) = ((i + 1 : Nat) : Int) := by rw [IntWalk.i64_in _ (by omega)]; omega
    obtain ⟨j, hj⟩ : ∃ j, j = i + 1 := ⟨_, rfl⟩
    rw [← hj] at hw hnext
    have hnextE : ∀ e ∈ l, e.fr ≤ e.to ∧ e.to < 2 ^ 40 ∧ e.sz < 2 ^ 40 := fun e h => he e (by simp [h])
    by_cases c1 : b ≤ f ∧ ¬ (a = b ∧ b = f ∧ f = t)
    · obtain ⟨f', hf'⟩ : ∃ f', f' = f + z - (b - a) := ⟨_, rfl⟩
      obtain ⟨t', ht'⟩ : ∃ t', t' = t + z - (b - a) := ⟨_, rfl⟩
      obtain ⟨m1, e1⟩ : ∃ m, m = b - a := ⟨_, rfl⟩
      obtain ⟨m2, e2⟩ : ∃ m : Int, m = (z : Int) - m1 := ⟨_, rfl⟩
      have w1 : IntKind.i64.wrap ((b : Int) - a) = (m1 : Int) := by rw [IntWalk.i64_in _ (by omega)]; omega
      have w2 : IntKind.i64.wrap ((z : Int) - m1) = m2 := by rw [IntWalk.i64_in _ (by omega)]; omega
      have w3 : IntKind.i64.wrap ((f : Int) + m2) = (f' : Int) := by rw [IntWalk.i64_in _ (by omega)]; omega
      have w4 : IntKind.i64.wrap ((t : Int) + m2) = (t' : Int) := by rw [IntWalk.i64_in _ (by omega)]; omega
      have hm : movedF f t (⟨a, b, z⟩ :: l) = movedF f' t' l := by simp only [movedF]; rw [if_pos c1, hf', ht']
      rw [hm]
      have c0 : (b : Int) ≤ f := by omega
      have fin : ∀ fr' : Fr, fr'.ds = [] → fr'.env 2 = .ptr p 0 0 → fr'.env 4 = .ptr q 0 0 → fr'.env 9 = u → fr'.env 10 = .int .i64 all.length → fr'.env 11 = .int .i64 j → MvR σ0 (run ET false [.c 4 (some 2), .t 5] (.d (.loop [2, 4, 9, 10, 11] B) :: .blk 0 :: [.d mvX]) fr' (((σ.new (.row 3 [[.int .i64 0, .int .i64 0, .int .i64 0]])).set σ.n (.row 3 [[.int .i64 a, .int .i64 b, .int .i64 z]])).set p (.row 2 [[.int .i64 f', .int .i64 t']]))) (movedF f' t' l) :=
        fun fr' => moved_loop (σ0 := σ0) (p := p) (q := q) hu huo hal hp hq hpq hB l j f' t' fr' _ hnext hnextE (by omega) (by omega) (((g.new _).set g.n _).set hp _) (by simp; omega) (by simp; omega) (by simp) (by simp [hqp, hnq, hQ])
      by_cases c2 : (a : Int) = b
      · by_cases c3 : (b : Int) = f
        · have c4 : ¬ (f : Int) = t := by omega
          simp [b12_0, h2, h4, h9, h10, h11, h, hd, hia, hld, hH, hnp, hnp', eq_true c2, eq_true c3, c4, c0, w1, w2, w3, w4, hw]
          refine fin _ ?_ ?_ ?_ ?_ ?_ ?_ <;> simp
        · simp [b12_0, h2, h4, h9, h10, h11, h, hd, hia, hld, hH, hnp, hnp', eq_true c2, c3, c0, w1, w2, w3, w4, hw]
          refine fin _ ?_ ?_ ?_ ?_ ?_ ?_ <;> simp
      · simp [b12_0, h2, h4, h9, h10, h11, h, hd, hia, hld, hH, hnp, hnp', c2, c0, w1, w2, w3, w4, hw]
        refine fin _ ?_ ?_ ?_ ?_ ?_ ?_ <;> simp
    · have hm : movedF f t (⟨a, b, z⟩ :: l) = if t ≤ a then movedF f t l else none := by simp only [movedF]; rw [if_neg c1]
      rw [hm]
      have fin : ∀ fr' : Fr, fr'.ds = [] → fr'.env 2 = .ptr p 0 0 → fr'.env 4 = .ptr q 0 0 → fr'.env 9 = u → fr'.env 10 = .int .i64 all.length → fr'.env 11 = .int .i64 j → MvR σ0 (run ET false [.c 4 (some 2), .t 5] (.d (.loop [2, 4, 9, 10, 11] B) :: .blk 0 :: [.d mvX]) fr' ((σ.new (.row 3 [[.int .i64 0, .int .i64 0, .int .i64 0]])).set σ.n (.row 3 [[.int .i64 a, .int .i64 b, .int .i64 z]]))) (movedF f t l) :=
        fun fr' => moved_loop (σ0 := σ0) (p := p) (q := q) hu huo hal hp hq hpq hB l j f t fr' _ hnext hnextE hft (by omega) ((g.new _).set g.n _) (by simp; omega) (by simp; omega) (by simp [hnp', hH]) (by simp [hnq, hQ])
      have hbad : ∀ (S : St), Gr σ0 S → MvR σ0 (some (.ret (.tup [.agg [.int .i64 0, .int .i64 0], .bool false]), S)) none := fun S g => ⟨S, rfl, g⟩
      by_cases c5 : t ≤ a
      · rw [if_pos c5]
        by_cases c0 : b ≤ f
        · have c0' : (b : Int) ≤ f := by omega
          have c2 : (a : Int) = b := by omega
          have c3 : (b : Int) = f := by omega
          have c4 : (f : Int) = t := by omega
          have c5' : (t : Int) ≤ a := by omega
          simp [b12_0, h2, h4, h9, h10, h11, h, hd, hia, hld, hH, hnp, hnp', eq_true c2, eq_true c3, eq_true c4, c0', c5, c5', hw]
          refine fin _ ?_ ?_ ?_ ?_ ?_ ?_ <;> simp
        · have c0' : ¬ (b : Int) ≤ f := by omega
          simp [b12_0, h2, h4, h9, h10, h11, h, hd, hia, hld, hH, hnp, hnp', c0, c0', c5, hw]
          refine fin _ ?_ ?_ ?_ ?_ ?_ ?_ <;> simp
      · rw [if_neg c5]
        by_cases c0 : b ≤ f
        · exact absurd (by omega : t ≤ a) c5
        · have c0' : ¬ (b : Int) ≤ f := by omega
          simp [b12_0, h2, h4, h9, h10, h11, h, hd, hia, hld, hH, hnp, hnp', hnq, hQ, c0, c0', c5]
          exact hbad _ (((g.new _).set g.n _).set hq _)
theorem moved_ev {σ : St} {u : V} {l : List Ed} {f t : Nat} (hu : Rd σ 3 u (l.map edE)) (huo : u.old σ) (hal : l.length < 2 ^ 20) (he : ∀ e ∈ l, e.fr ≤ e.to ∧ e.to < 2 ^ 40 ∧ e.sz < 2 ^ 40) (hft : f ≤ t) (ht : t < 2 ^ 40) :
    ev ET 12 [.agg [.int .i64 f, .int .i64 t], u] σ = some (.ret (mvV (movedF f t l)), σ) := by
  obtain ⟨s1, hs1⟩ : ∃ s1, s1 = (σ.new (.row 2 [[.int .i64 f, .int .i64 t]])).new (.row 2 [[.int .i64 0, .int .i64 0]]) := ⟨_, rfl⟩
  have n1 : s1.n = σ.n + 2 := by rw [hs1]; simp
  have g1 : Gr σ s1 := by rw [hs1]; simp
  have hul : lenV u = some (.int .i64 l.length) := by simpa using hu.len
  obtain ⟨τ, e1, g⟩ := moved_loop (σ0 := σ) (p := σ.n) (q := σ.n + 1) hu huo hal (by omega) (by omega) (by omega) (B := b12_0) rfl l 0 f t ⟨lk [2, 4, 9, 10, 11] [.ptr σ.n 0 0, .ptr (σ.n + 1) 0 0, u, .int .i64 l.length, .int .i64 0], []⟩ s1 rfl he hft (by omega) g1 (by omega) (by omega) (by rw [hs1]; simp) (by rw [hs1]; simp) rfl (by simp) (by simp) (by simp) (by simp) (by simp)
  refine ev_pure (fd := f12) rfl (by simp [f12]) rfl (o := .ret (mvV (movedF f t l))) (σ' := τ) ?_ g.H g.W (by cases movedF f t l <;> simp [mvV])
  rw [← e1]
  simp [f12, d12, hul, ← hs1, mvX]
theorem pick_ev {n : Int} {m : Nat} (hm : 0 < m) (hm2 : m < 2 ^ 40) : ∃ k, k < m ∧ ∀ σ, ev ET 9 [.int .i64 n, .int .i64 m] σ = some (.ret (.int .i64 (k : Nat)), σ) := by
  obtain ⟨a, ha⟩ : ∃ a : Nat, IntKind.u64.wrap n = a := by
    refine ⟨(IntKind.u64.wrap n).toNat, ?_⟩
    simp [IntKind.wrap, IntKind.signed, IntKind.bits]; omega
  have hk := Nat.mod_lt a hm
  have w2 : IntKind.u64.wrap (m : Int) = m := by simp [IntKind.wrap, IntKind.signed, IntKind.bits]; omega
  obtain ⟨k, hkk⟩ : ∃ k, k = a % m := ⟨_, rfl⟩
  have w3 : Int.tmod (a : Int) m = (k : Int) := by rw [Int.tmod_eq_emod_of_nonneg (by omega)]; omega
  have w4 : IntKind.i64.wrap (k : Int) = k := IntWalk.i64_in _ (by omega)
  have hm0 : ¬ m = 0 := by omega
  exact ⟨k, by omega, fun σ => ev_same (fd := f9) (o := .ret (.int .i64 k)) rfl (by simp [f9]) rfl (by simp [f9, d9, ha, w2, w3, w4, hm0]) (by simp)⟩
end Go.Proofs.Ytmeelljhimeedaa
