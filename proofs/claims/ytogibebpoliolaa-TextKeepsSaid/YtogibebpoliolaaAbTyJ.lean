/-
The walk over the program's texts, told with what its values say: a part of it. No further condition.
-/
import Derived.Test.YtogibebpoliolaaAbTyG
namespace Go.Proofs.Ytogibebpoliolaa
open Go.Proofs.Ytogibebpoliolaa.Ab
set_option linter.unusedVariables false
set_option linter.unusedSimpArgs false
attribute [local simp] Gr.refl Gr.new Gr.set Gr.kill Nat.add_assoc r_cks chk wantG
theorem Own_st {σ0 σ : St} {z : Nat} {v : V} {es : List (List V)} (h : Own σ0 σ z v es) (he : ∀ e ∈ es, e.length = z) {i : Nat} (hi : i < es.length) {x : V} (hx : x.cells.length = z) (hs : x.cells.all V.scal = true) :
    ∃ τ, stV σ z (elA v i) x = some τ ∧ Own σ0 τ z v (es.set i x.cells) := by
  rcases h.sl with ⟨rfl, rfl⟩ | ⟨l, rfl, hl⟩
  · simp at hi
  · refine ⟨σ.set l (.row z (es.set i x.cells)), ?_, .inr ⟨l, by simp, by simp⟩, h.gr.set (h.lo l rfl).1 _, fun k hk => by simpa using h.lo k hk⟩
    have hel := he es[i] (List.getElem_mem hi)
    have h0 : setAt es[i] 0 x.cells = x.cells := by
      simp only [setAt, List.take_zero, List.nil_append, Nat.zero_add]
      rw [List.drop_eq_nil_of_le (by omega), List.append_nil]
    simp only [elA, Nat.zero_add, stV_ptr, hl, List.getElem?_eq_getElem hi, Option.bind_some, h0]
    rw [if_pos ⟨hx, by omega, hs⟩]
theorem keep_loop0 {σ0 : St} {v : V} {dd : Bool} {rs : List RC} {s : List SE} {B : D} (hB : B = b5_0) {x3 x4 x7 : V} :
    ∀ (k i : Nat) (es : List (List V)) (f : Fr) (σ : St), es.length = i + k → es.length < 2 ^ 40 → Own σ0 σ 1 v es → (∀ e ∈ es, e.length = 1) → f.ds = [] → f.env 3 = x3 → f.env 4 = x4 → f.env 7 = x7 → f.env 10 = v → f.env 13 = .int .i64 i →
      Lands ET dd rs s (fun f' σ' => Gr σ0 σ' ∧ f'.ds = [] ∧ f'.env 3 = x3 ∧ f'.env 4 = x4 ∧ f'.env 7 = x7) (run ET dd rs (.d (.loop [3, 4, 7, 10, 13] B) :: .blk 0 :: s) f σ)
  | 0, i, es, f, σ, hn, hl, hq, he, hd, h3, h4, h7, h10, h13 => by
    rw [r_loopU hB]
    have hlen := hq.rd.len
    have h : ¬ i < es.length := by omega
    simp [b5_0, h3, h4, h7, h10, h13, hd, hlen, h]
    exact .here ⟨hq.gr, by simp, by simp, by simp, by simp⟩
  | k + 1, i, es, f, σ, hn, hl, hq, he, hd, h3, h4, h7, h10, h13 => by
    rw [r_loopU hB]
    have hlen := hq.rd.len
    have h : i < es.length := by omega
    have hia := hq.rd.at (k := .i64) h
    obtain ⟨τ, hst, hq'⟩ := Own_st hq he h (x := .int .u8 0) rfl rfl
    have hw : IntKind.i64.wrap ((i : Int) + 1) = ((i + 1 : Nat) : Int) := by rw [IntWalk.i64_in _ (by omega)]; omega
    obtain ⟨j, hj⟩ : ∃ j, j = i + 1 := ⟨_, rfl⟩
    rw [← hj] at hw
    simp [b5_0, h3, h4, h7, h10, h13, hd, hlen, h, hia, hst, hw]
    refine keep_loop0 hB k j _ _ τ (by simp; omega) (by simpa using hl) hq' (fun e hm => ?_) ?_ ?_ ?_ ?_ ?_ ?_
    · rcases List.mem_or_eq_of_mem_set hm with hm | rfl
      · exact he e hm
      · rfl
    all_goals simp
theorem keep_loop1 {σ0 : St} {v : V} {dd : Bool} {rs : List RC} {s : List SE} {B : D} (hB : B = b5_1) {x3 x4 x7 : V} :
    ∀ (k i : Nat) (es : List (List V)) (f : Fr) (σ : St), es.length = i + k → es.length < 2 ^ 40 → Own σ0 σ 3 v es → (∀ e ∈ es, e.length = 3) → f.ds = [] → f.env 3 = x3 → f.env 4 = x4 → f.env 7 = x7 → f.env 14 = v → f.env 15 = .int .i64 i →
      Lands ET dd rs s (fun f' σ' => Gr σ0 σ' ∧ f'.ds = [] ∧ f'.env 3 = x3 ∧ f'.env 4 = x4 ∧ f'.env 7 = x7) (run ET dd rs (.d (.loop [3, 4, 7, 14, 15] B) :: .blk 2 :: s) f σ)
  | 0, i, es, f, σ, hn, hl, hq, he, hd, h3, h4, h7, h10, h13 => by
    rw [r_loopU hB]
    have hlen := hq.rd.len
    have h : ¬ i < es.length := by omega
    simp [b5_1, h3, h4, h7, h10, h13, hd, hlen, h]
    exact .here ⟨hq.gr, by simp, by simp, by simp, by simp⟩
  | k + 1, i, es, f, σ, hn, hl, hq, he, hd, h3, h4, h7, h10, h13 => by
    rw [r_loopU hB]
    have hlen := hq.rd.len
    have h : i < es.length := by omega
    have hia := hq.rd.at (k := .i64) h
    obtain ⟨τ, hst, hq'⟩ := Own_st hq he h (x := .agg [.int .i64 0, .int .i64 0, .int .i64 0]) rfl rfl
    have hw : IntKind.i64.wrap ((i : Int) + 1) = ((i + 1 : Nat) : Int) := by rw [IntWalk.i64_in _ (by omega)]; omega
    obtain ⟨j, hj⟩ : ∃ j, j = i + 1 := ⟨_, rfl⟩
    rw [← hj] at hw
    simp [b5_1, h3, h4, h7, h10, h13, hd, hlen, h, hia, hst, hw]
    refine keep_loop1 hB k j _ _ τ (by simp; omega) (by simpa using hl) hq' (fun e hm => ?_) ?_ ?_ ?_ ?_ ?_ ?_
    · rcases List.mem_or_eq_of_mem_set hm with hm | rfl
      · exact he e hm
      · rfl
    all_goals simp
/-- Where a span is, behind edits. -/
def movedF (f t : Nat) : List Ed → Option (Nat × Nat)
  | [] => some (f, t)
  | e :: es => if e.to ≤ f ∧ ¬ (e.fr = e.to ∧ e.to = f ∧ f = t) then movedF (f + e.sz - (e.to - e.fr)) (t + e.sz - (e.to - e.fr)) es
      else if t ≤ e.fr then movedF f t es else none
theorem splice_after {b s : List UInt8} {fr to f t : Nat} (h1 : fr ≤ to) (h2 : to ≤ f) (h3 : f ≤ t) (h4 : t ≤ b.length) :
    (((b.take fr ++ s ++ b.drop to).take (t + s.length - (to - fr))).drop (f + s.length - (to - fr))) = (b.take t).drop f := by
  obtain ⟨n0, hn0⟩ : ∃ n, n = f + s.length - (to - fr) := ⟨_, rfl⟩
  obtain ⟨n1, hn1⟩ : ∃ n, n = t + s.length - (to - fr) := ⟨_, rfl⟩
  obtain ⟨k, hk⟩ : ∃ k, k = s.length := ⟨_, rfl⟩
  rw [← hn0, ← hn1]
  apply List.ext_getElem?
  intro i
  have hm : min fr b.length = fr := Nat.min_eq_left (by omega)
  simp only [List.getElem?_drop, List.getElem?_take, List.getElem?_append, List.length_append, List.length_take, List.length_drop, hm, ← hk]
  rw [← hk] at hn0 hn1
  by_cases hi : f + i < t
  · have h5 : n0 + i < n1 := by omega
    have h6 : ¬ n0 + i < fr + k := by omega
    simp only [h5, h6, hi, if_true, if_false]
    congr 1; omega
  · have h5 : ¬ n0 + i < n1 := by omega
    simp only [h5, hi, if_false]
theorem splice_before {b s : List UInt8} {fr to f t : Nat} (h1 : fr ≤ to) (h2 : t ≤ fr) (h3 : f ≤ t) (h4 : fr ≤ b.length) :
    (((b.take fr ++ s ++ b.drop to).take t).drop f) = (b.take t).drop f := by
  apply List.ext_getElem?
  intro i
  simp only [List.getElem?_drop, List.getElem?_take, List.getElem?_append, List.length_append, List.length_take, List.length_drop]
  have hm : min fr b.length = fr := Nat.min_eq_left h4
  rw [hm]
  by_cases hi : f + i < t
  · rw [if_pos hi, if_pos hi, if_pos (by omega), if_pos (by omega), if_pos (by omega)]
  · rw [if_neg hi, if_neg hi]
theorem oneR_ok {b b' : List UInt8} {c : Ch} {e : Ed} (h : oneR b c = .ok b' e) : e = editF b c ∧ b' = spliceF b e c.text := by
  unfold oneR at h
  split at h
  · split at h
    · simp at h
    · injection h with h1 h2
      subst h2
      exact ⟨rfl, h1.symm⟩
  · simp at h
/-- A span that moved has the bytes that it had. -/
theorem moved_keeps : ∀ (cs : List Ch) (b b' : List UInt8) (acc ed : List Ed) (f t f' t' : Nat), applyF b acc cs = .ok b' (acc ++ ed) → f ≤ t → t ≤ b.length → movedF f t ed = some (f', t') → f' ≤ t' ∧ t' ≤ b'.length ∧ t' - f' = t - f ∧ (b'.take t').drop f' = (b.take t).drop f
  | [], b, b', acc, ed, f, t, f', t', h, h1, h2, hm => by
    simp [applyF] at h
    obtain ⟨rfl, rfl⟩ := h
    simp [movedF] at hm
    obtain ⟨rfl, rfl⟩ := hm
    exact ⟨h1, h2, rfl, rfl⟩
  | c :: cs, b, b', acc, ed, f, t, f', t', h, h1, h2, hm => by
    rw [applyF_one] at h
    cases hR : oneR b c with
    | err n => rw [hR] at h; simp at h
    | ok b1 e =>
      rw [hR] at h
      simp only at h
      obtain ⟨he, hb1⟩ := oneR_ok hR
      have hin := edit_in (b := b) (c := c)
      rw [← he] at hin
      -- the first edit
      have hpre : ∀ (cs : List Ch) (b b' : List UInt8) (a r : List Ed), applyF b a cs = .ok b' r → ∃ x, r = a ++ x := by
        intro cs
        induction cs with
        | nil => intro b b' a r h; simp [applyF] at h; exact ⟨[], by simp [h.2]⟩
        | cons c cs ih =>
          intro b b' a r h
          rw [applyF_one] at h
          cases hR : oneR b c with
          | err n => rw [hR] at h; simp at h
          | ok b1 e =>
            rw [hR] at h
            obtain ⟨x, hx⟩ := ih _ _ _ _ h
            exact ⟨e :: x, by rw [hx]; simp⟩
      obtain ⟨x, hx⟩ := hpre _ _ _ _ _ h
      have hed : ed = e :: x := by
        rw [List.append_assoc] at hx
        exact List.append_cancel_left hx
      rw [hx] at h
      subst hed
      have hlen : b1.length = e.fr + c.text.length + (b.length - e.to) := by rw [hb1]; simp [spliceF]; omega
      simp only [movedF] at hm
      split at hm
      · rename_i hc
        have key := moved_keeps cs b1 b' (acc ++ [e]) x _ _ f' t' h (by omega) (by omega) hm
        refine ⟨key.1, key.2.1, by omega, ?_⟩
        rw [key.2.2.2, hb1, hin.2.2]
        exact splice_after hin.1 hc.1 h1 h2
      · split at hm
        · rename_i hc
          have key := moved_keeps cs b1 b' (acc ++ [e]) x f t f' t' h h1 (by omega) hm
          refine ⟨key.1, key.2.1, key.2.2.1, ?_⟩
          rw [key.2.2.2, hb1]
          exact splice_before hin.1 hc h1 (by omega)
        · simp at hm
end Go.Proofs.Ytogibebpoliolaa
namespace Go.Proofs.Ytogibebpoliolaa
open Go.Proofs.Ytogibebpoliolaa.Ab
set_option linter.unusedVariables false
set_option linter.unusedSimpArgs false
attribute [local simp] Gr.refl Gr.new Gr.set Gr.kill Nat.add_assoc r_cks chk wantG
def mvV : Option (Nat × Nat) → V
  | some (f, t) => .tup [.agg [.int .i64 f, .int .i64 t], .bool true]
  | none => .tup [.agg [.int .i64 0, .int .i64 0], .bool false]
def mvX : D := .kb [2, 4] (.seq (.reg [⟨some 68, none, .lda 2 (.t 2)⟩, ⟨none, none, .st 2 (.t 4) (.t 68)⟩, ⟨some 5, none, .mv (.c (.bool true))⟩]) .ret)
def MvR (σ0 : St) (r : Option (CO × St)) (x : Option (Nat × Nat)) : Prop := ∃ τ, r = some (.ret (mvV x), τ) ∧ Gr σ0 τ
theorem moved_loop {σ0 : St} {u : V} {all : List Ed} (hu : Rd σ0 3 u (all.map edE)) (huo : u.old σ0) (hal : all.length < 2 ^ 20) {p q : Nat} (hp : σ0.n ≤ p) (hq : σ0.n ≤ q) (hpq : p ≠ q) {B : D} (hB : B = b18_0) :
    ∀ (l : List Ed) (i f t : Nat) (fr : Fr) (σ : St), all.drop i = l → (∀ e ∈ l, e.fr ≤ e.to ∧ e.to < 2 ^ 40 ∧ e.sz < 2 ^ 40) → f ≤ t → t ≤ 2 ^ 40 * (i + 1) → Gr σ0 σ → p < σ.n → q < σ.n → σ.H p = some (.row 2 [[.int .i64 f, .int .i64 t]]) → σ.H q = some (.row 2 [[.int .i64 0, .int .i64 0]]) →
      fr.ds = [] → fr.env 2 = .ptr p 0 0 → fr.env 4 = .ptr q 0 0 → fr.env 9 = u → fr.env 10 = .int .i64 all.length → fr.env 11 = .int .i64 i →
      MvR σ0 (run ET false [.c 4 (some 2), .t 5] (.d (.loop [2, 4, 9, 10, 11] B) :: .blk 0 :: [.d mvX]) fr σ) (movedF f t l)
  | [], i, f, t, fr, σ, hl, _, _, _, g, _, _, hH, hQ, hd, h2, h4, h9, h10, h11 => by
    rw [r_loopU hB]
    have hlen := congrArg List.length hl
    simp at hlen
    have h : ¬ i < all.length := by omega
    show ∃ τ, _ ∧ Gr σ0 τ
    refine ⟨_, by simp [b18_0, h2, h4, h9, h10, h11, h, hd, mvX, hH, hQ, movedF, mvV]; rfl, g.set hq _⟩
  | e :: l, i, f, t, fr, σ, hl, he, hft, ht, g, hpn, hqn, hH, hQ, hd, h2, h4, h9, h10, h11 => by
    rw [r_loopU hB]
    have hlen := congrArg List.length hl
    simp at hlen
    have h : i < all.length := by omega
    have hat : all[i]? = some e := by
      have := congrArg (·[0]?) hl
      simpa using this
    have hnext : all.drop (i + 1) = l := by rw [← List.drop_drop, hl]; rfl
    have hia := Rd.at (hu.gr g huo) (k := .i64) (i := i) (by simpa using h)
    have hld := Rd.lda (hu.gr g huo) (i := i) (m := 3) (e := edE e) (by simp [hat]) rfl
    simp [edE] at hld
    obtain ⟨a, b, z⟩ := e
    obtain ⟨k1, k2, k3⟩ := he ⟨a, b, z⟩ (by simp)
    simp only at k1 k2 k3 hld
    have hnp : ¬ σ.n = p := by omega
    have hnp' : ¬ p = σ.n := by omega
    have hnq : ¬ q = σ.n := by omega
    have hqp : ¬ q = p := fun h => hpq h.symm
    have hw : IntKind.i64.wrap ((i : Int) + 1) = ((i + 1 : Nat) : Int) := by rw [IntWalk.i64_in _ (by omega)]; omega
    obtain ⟨j, hj⟩ : ∃ j, j = i + 1 := ⟨_, rfl⟩
    rw [← hj] at hw hnext
    have hnextE : ∀ e ∈ l, e.fr ≤ e.to ∧ e.to < 2 ^ 40 ∧ e.sz < 2 ^ 40 := fun e h => he e (by simp [h])
    by_cases c1 : b ≤ f ∧ ¬ (a = b ∧ b = f ∧ f = t)
    · obtain ⟨f', hf'⟩ : ∃ f', f' = f + z - (b - a) := ⟨_, rfl⟩
      obtain ⟨t', ht'⟩ : ∃ t', t' = t + z - (b - a) := ⟨_, rfl⟩
      obtain ⟨m1, e1⟩ : ∃ m, m = b - a := ⟨_, rfl⟩
      obtain ⟨m2, e2⟩ : ∃ m : Int, m = (z : Int) - m1 := ⟨_, rfl⟩
      have w1 : IntKind.i64.wrap ((b : Int) - a) = (m1 : Int) := by rw [IntWalk.i64_in _ (by omega)]; omega
      have w2 : IntKind.i64.wrap ((z : Int) - m1) = m2 := by rw [IntWalk.i64_in _ (by omega)]; omega
      have w3 : IntKind.i64.wrap ((f : Int) + m2) = (f' : Int) := by rw [IntWalk.i64_in _ (by omega)]; omega
      have w4 : IntKind.i64.wrap ((t : Int) + m2) = (t' : Int) := by rw [IntWalk.i64_in _ (by omega)]; omega
      have hm : movedF f t (⟨a, b, z⟩ :: l) = movedF f' t' l := by simp only [movedF]; rw [if_pos c1, hf', ht']
      rw [hm]
      have c0 : (b : Int) ≤ f := by omega
      have fin : ∀ fr' : Fr, fr'.ds = [] → fr'.env 2 = .ptr p 0 0 → fr'.env 4 = .ptr q 0 0 → fr'.env 9 = u → fr'.env 10 = .int .i64 all.length → fr'.env 11 = .int .i64 j → MvR σ0 (run ET false [.c 4 (some 2), .t 5] (.d (.loop [2, 4, 9, 10, 11] B) :: .blk 0 :: [.d mvX]) fr' (((σ.new (.row 3 [[.int .i64 0, .int .i64 0, .int .i64 0]])).set σ.n (.row 3 [[.int .i64 a, .int .i64 b, .int .i64 z]])).set p (.row 2 [[.int .i64 f', .int .i64 t']]))) (movedF f' t' l) :=
        fun fr' => moved_loop (σ0 := σ0) (p := p) (q := q) hu huo hal hp hq hpq hB l j f' t' fr' _ hnext hnextE (by omega) (by omega) (((g.new _).set g.n _).set hp _) (by simp; omega) (by simp; omega) (by simp) (by simp [hqp, hnq, hQ])
      by_cases c2 : (a : Int) = b
      · by_cases c3 : (b : Int) = f
        · have c4 : ¬ (f : Int) = t := by omega
          simp [b18_0, h2, h4, h9, h10, h11, h, hd, hia, hld, hH, hnp, hnp', eq_true c2, eq_true c3, c4, c0, w1, w2, w3, w4, hw]
          refine fin _ ?_ ?_ ?_ ?_ ?_ ?_ <;> simp
        · simp [b18_0, h2, h4, h9, h10, h11, h, hd, hia, hld, hH, hnp, hnp', eq_true c2, c3, c0, w1, w2, w3, w4, hw]
          refine fin _ ?_ ?_ ?_ ?_ ?_ ?_ <;> simp
      · simp [b18_0, h2, h4, h9, h10, h11, h, hd, hia, hld, hH, hnp, hnp', c2, c0, w1, w2, w3, w4, hw]
        refine fin _ ?_ ?_ ?_ ?_ ?_ ?_ <;> simp
    · have hm : movedF f t (⟨a, b, z⟩ :: l) = if t ≤ a then movedF f t l else none := by simp only [movedF]; rw [if_neg c1]
      rw [hm]
      have fin : ∀ fr' : Fr, fr'.ds = [] → fr'.env 2 = .ptr p 0 0 → fr'.env 4 = .ptr q 0 0 → fr'.env 9 = u → fr'.env 10 = .int .i64 all.length → fr'.env 11 = .int .i64 j → MvR σ0 (run ET false [.c 4 (some 2), .t 5] (.d (.loop [2, 4, 9, 10, 11] B) :: .blk 0 :: [.d mvX]) fr' ((σ.new (.row 3 [[.int .i64 0, .int .i64 0, .int .i64 0]])).set σ.n (.row 3 [[.int .i64 a, .int .i64 b, .int .i64 z]]))) (movedF f t l) :=
        fun fr' => moved_loop (σ0 := σ0) (p := p) (q := q) hu huo hal hp hq hpq hB l j f t fr' _ hnext hnextE hft (by omega) ((g.new _).set g.n _) (by simp; omega) (by simp; omega) (by simp [hnp', hH]) (by simp [hnq, hQ])
      have hbad : ∀ (S : St), Gr σ0 S → MvR σ0 (some (.ret (.tup [.agg [.int .i64 0, .int .i64 0], .bool false]), S)) none := fun S g => ⟨S, rfl, g⟩
      by_cases c5 : t ≤ a
      · rw [if_pos c5]
        by_cases c0 : b ≤ f
        · have c0' : (b : Int) ≤ f := by omega
          have c2 : (a : Int) = b := by omega
          have c3 : (b : Int) = f := by omega
          have c4 : (f : Int) = t := by omega
          have c5' : (t : Int) ≤ a := by omega
          simp [b18_0, h2, h4, h9, h10, h11, h, hd, hia, hld, hH, hnp, hnp', eq_true c2, eq_true c3, eq_true c4, c0', c5, c5', hw]
          refine fin _ ?_ ?_ ?_ ?_ ?_ ?_ <;> simp
        · have c0' : ¬ (b : Int) ≤ f := by omega
          simp [b18_0, h2, h4, h9, h10, h11, h, hd, hia, hld, hH, hnp, hnp', c0, c0', c5, hw]
          refine fin _ ?_ ?_ ?_ ?_ ?_ ?_ <;> simp
      · rw [if_neg c5]
        by_cases c0 : b ≤ f
        · exact absurd (by omega : t ≤ a) c5
        · have c0' : ¬ (b : Int) ≤ f := by omega
          simp [b18_0, h2, h4, h9, h10, h11, h, hd, hia, hld, hH, hnp, hnp', hnq, hQ, c0, c0', c5]
          exact hbad _ (((g.new _).set g.n _).set hq _)
theorem moved_ev {σ : St} {u : V} {l : List Ed} {f t : Nat} (hu : Rd σ 3 u (l.map edE)) (huo : u.old σ) (hal : l.length < 2 ^ 20) (he : ∀ e ∈ l, e.fr ≤ e.to ∧ e.to < 2 ^ 40 ∧ e.sz < 2 ^ 40) (hft : f ≤ t) (ht : t < 2 ^ 40) :
    ev ET 18 [.agg [.int .i64 f, .int .i64 t], u] σ = some (.ret (mvV (movedF f t l)), σ) := by
  obtain ⟨s1, hs1⟩ : ∃ s1, s1 = (σ.new (.row 2 [[.int .i64 f, .int .i64 t]])).new (.row 2 [[.int .i64 0, .int .i64 0]]) := ⟨_, rfl⟩
  have n1 : s1.n = σ.n + 2 := by rw [hs1]; simp
  have g1 : Gr σ s1 := by rw [hs1]; simp
  have hul : lenV u = some (.int .i64 l.length) := by simpa using hu.len
  obtain ⟨τ, e1, g⟩ := moved_loop (σ0 := σ) (p := σ.n) (q := σ.n + 1) hu huo hal (by omega) (by omega) (by omega) (B := b18_0) rfl l 0 f t ⟨lk [2, 4, 9, 10, 11] [.ptr σ.n 0 0, .ptr (σ.n + 1) 0 0, u, .int .i64 l.length, .int .i64 0], []⟩ s1 rfl he hft (by omega) g1 (by omega) (by omega) (by rw [hs1]; simp) (by rw [hs1]; simp) rfl (by simp) (by simp) (by simp) (by simp) (by simp)
  refine ev_pure (fd := f18) rfl (by simp [f18]) rfl (o := .ret (mvV (movedF f t l))) (σ' := τ) ?_ g.H g.W (by cases movedF f t l <;> simp [mvV])
  rw [← e1]
  simp [f18, d18, hul, ← hs1, mvX]
end Go.Proofs.Ytogibebpoliolaa
namespace Go.Proofs.Ytogibebpoliolaa
open Go.Proofs.Ytogibebpoliolaa.Ab
set_option linter.unusedVariables false
set_option linter.unusedSimpArgs false
attribute [local simp] Gr.refl Gr.new Gr.set Gr.kill Nat.add_assoc r_cks chk wantG
theorem applyF_in : ∀ {cs : List Ch} {b b' : List UInt8} {acc ed : List Ed}, applyF b acc cs = .ok b' ed → b.length ≤ 1048576 → (∀ c ∈ cs, c.text.length < 2 ^ 40) → (∀ e ∈ acc, e.fr ≤ e.to ∧ e.to < 2 ^ 40 ∧ e.sz < 2 ^ 40) → b'.length ≤ 1048576 ∧ ∀ e ∈ ed, e.fr ≤ e.to ∧ e.to < 2 ^ 40 ∧ e.sz < 2 ^ 40
  | [], b, b', acc, ed, h, hb, _, ha => by
    simp [applyF] at h; obtain ⟨rfl, rfl⟩ := h; exact ⟨hb, ha⟩
  | c :: cs, b, b', acc, ed, h, hb, hc, ha => by
    rw [applyF_one] at h
    cases hR : oneR b c with
    | err n => rw [hR] at h; simp at h
    | ok b1 x =>
      rw [hR] at h
      have hin := edit_in (b := b) (c := c)
      obtain ⟨hx, _⟩ := oneR_ok hR
      rw [← hx] at hin
      have hcl := hc c (by simp)
      refine applyF_in h (oneR_len hR) (fun c h => hc c (by simp [h])) (fun e he => ?_)
      rcases List.mem_append.1 he with he | he
      · exact ha e he
      · simp at he; subst he; omega
theorem u64r {n : Int} {m : Nat} (hm : 0 < m) (hm2 : m < 2 ^ 40) : ∃ a k : Nat, IntKind.u64.wrap n = a ∧ Int.tmod (a : Int) m = (k : Int) ∧ k < m ∧ IntKind.i64.wrap (k : Int) = k := by
  obtain ⟨a, ha⟩ : ∃ a : Nat, IntKind.u64.wrap n = a := by
    refine ⟨(IntKind.u64.wrap n).toNat, ?_⟩
    simp [IntKind.wrap, IntKind.signed, IntKind.bits]; omega
  have hk := Nat.mod_lt a hm
  refine ⟨a, a % m, ha, ?_, hk, IntWalk.i64_in _ (by omega)⟩
  rw [Int.tmod_eq_emod_of_nonneg (by omega)]; omega
def X5 : D := tlD (tlD (tlD (tlD (tlD (tlD (tlD (tlD (tlD (tlD (tlD (tlD d5)))))))))))
set_option maxRecDepth 100000 in
theorem keeps_ev {σ : St} (hf : Fresh σ) {s : List UInt8} {n1 n2 : Int} {v : V} {cs : List Ch} (hv : Tl 6 v (cs.map chE)) (hcs : ∀ c ∈ cs, c.ok) : ∃ σ', ev ET 5 [.agg [.str s, v, .int .i64 n1, .int .i64 n2]] σ = some (.ret (.bool true), σ') := by
  suffices h : ∃ τ, run ET false f5.res [.d f5.body] ⟨envOf [.agg [.str s, v, .int .i64 n1, .int .i64 n2]], []⟩ σ = some (.ret (.bool true), τ) by
    obtain ⟨τ, h⟩ := h
    exact ev_any rfl (by simp [f5]) rfl h
  obtain ⟨s1, hs1⟩ : ∃ s1, s1 = σ.new (.row 4 [[.str s, v, .int .i64 n1, .int .i64 n2]]) := ⟨_, rfl⟩
  have m1 : s1.n = σ.n + 1 := by rw [hs1]; simp
  have b1 : s1.H σ.n = some (.row 4 [[.str s, v, .int .i64 n1, .int .i64 n2]]) := by rw [hs1]; simp
  have hf1 : Fresh s1 := fun x hx => by rw [m1] at hx; rw [hs1]; simp [show x ≠ σ.n by omega, hf x (by omega)]
  have hsv := hv.scal
  have hli := light_ev (σ := s1) (s := s) hv.rd
  have hop := opened_ev (hf1 (s1.n + 1) (by omega))
  cases hl : lightF s cs with
  | false => exact ⟨_, by simp [f5, d5, hsv, ← hs1, m1, b1, hli, hl, hop]; rfl⟩
  | true =>
  obtain ⟨k1, k2, k3⟩ := light_in hl
  have hall : ∀ c ∈ cs, c.ok ∧ c.text.length < 2 ^ 40 := fun c hc => ⟨hcs c hc, by have := k3 c hc; omega⟩
  by_cases ht : takeE s = 0
  · obtain ⟨τ0, o1, g0, q0, e0, d0⟩ := open_ok (σ := s1) (ver := 1) ht (hf1 _ (by omega))
    obtain ⟨m, hm⟩ : ∃ m, m = s.length + 1 := ⟨_, rfl⟩
    have w1 : IntKind.i64.wrap ((s.length : Int) + 1) = (m : Int) := by rw [IntWalk.i64_in _ (by omega)]; omega
    have w2 : IntKind.u64.wrap (m : Int) = m := by simp [IntKind.wrap, IntKind.signed, IntKind.bits]; omega
    obtain ⟨a, f, wa, wb, wc, wd⟩ := u64r (n := n1) (m := m) (by omega) (by omega)
    have hm0 : ¬ m = 0 := by omega
    obtain ⟨l1, hl1⟩ : ∃ l, l = s.length - f := ⟨_, rfl⟩
    obtain ⟨l2, hl2⟩ : ∃ l, l = l1 + 1 := ⟨_, rfl⟩
    have w3 : IntKind.i64.wrap ((s.length : Int) - f) = (l1 : Int) := by rw [IntWalk.i64_in _ (by omega)]; omega
    have w4 : IntKind.i64.wrap ((l1 : Int) + 1) = (l2 : Int) := by rw [IntWalk.i64_in _ (by omega)]; omega
    have w5 : IntKind.u64.wrap (l2 : Int) = l2 := by simp [IntKind.wrap, IntKind.signed, IntKind.bits]; omega
    obtain ⟨a2, z, wa2, wb2, wc2, wd2⟩ := u64r (n := n2) (m := l2) (by omega) (by omega)
    have hm2 : ¬ l2 = 0 := by omega
    obtain ⟨t, htt⟩ : ∃ t, t = f + z := ⟨_, rfl⟩
    have w6 : IntKind.i64.wrap ((f : Int) + z) = (t : Int) := by rw [IntWalk.i64_in _ (by omega)]; omega
    have hap := apply_ev (ver := 2) d0 hv.rd hv.old hall (by omega)
    cases hA : applyF s [] cs with
    | err e =>
      rw [hA] at hap
      simp only at hap
      have he : ¬ e = 0 := by rcases applyF_err hA with rfl | rfl <;> simp
      obtain ⟨u2, τ2, c1, r1⟩ := bytes_ev d0
      have hs := Bs.str (s := s) r1.rd
      rw [m1] at hap c1 o1
      simp only [Nat.add_assoc] at hap c1 o1
      exact ⟨_, by simp [f5, d5, hsv, ← hs1, m1, b1, hli, hl, hop, o1, w1, w2, wa, wb, wd, hm0, w3, w4, w5, wa2, wb2, wd2, hm2, w6, hap, he, c1, hs]; rfl⟩
    | ok b' ed =>
      rw [hA] at hap
      obtain ⟨τ1, h1, d1, q1, y1, x1⟩ := hap
      obtain ⟨hbl, hei⟩ := applyF_in hA (by omega) (fun c hc => (hall c hc).2) (by simp)
      have hel := applyF_len hA
      simp at hel
      obtain ⟨u1, τ2, c1, r1⟩ := bytes_ev d1
      have d2 := d1.gr r1.gr
      obtain ⟨u2, τ3, c2, r2⟩ := edits_ev d2 (by omega)
      have hmo := moved_ev (σ := τ3) (f := f) (t := t) r2.rd r2.old (by omega) hei (by omega) (by omega)
      have r1' := r1.step r2.gr
      have hlen1 := r1'.rd.len
      simp at hlen1
      have hce : ∀ e ∈ b'.map byteE, e.length = 1 := fun e he => by rw [List.mem_map] at he; obtain ⟨c, _, rfl⟩ := he; rfl
      have hee : ∀ e ∈ ed.map edE, e.length = 3 := fun e he => by rw [List.mem_map] at he; obtain ⟨c, _, rfl⟩ := he; rfl
      have tail : ∀ (s4 : St) (fr : Fr), Gr τ3 s4 → fr.ds = [] → fr.env 3 = .str s → fr.env 4 = v → fr.env 7 = .ptr (s1.n + 1) 0 0 → fr.env 10 = u1 → fr.env 13 = .int .i64 0 → ∃ τ', run ET false [.t 2] (.d (.loop [3, 4, 7, 10, 13] b5_0) :: .blk 0 :: [.d (.kb [3, 4, 7] X5)]) fr s4 = some (.ret (.bool true), τ') := by
        intro s4 fr g4 e1 e2 e3 e4 e5 e6
        refine Lands.to (C := fun r => ∃ τ', r = some (CO.ret (.bool true), τ')) (keep_loop0 (σ0 := τ1) (v := u1) rfl (b'.map byteE).length 0 (b'.map byteE) fr s4 (by simp) (by simp; omega) (r1'.step g4) hce e1 e2 e3 e4 e5 e6) ?_
        rintro f' σ5 ⟨g5, a1, a2, a3, a4⟩
        have d5' := d1.gr g5
        obtain ⟨u3, τ6, c6, r6⟩ := edits_ev d5' (by omega)
        simp only [X5, tlD, d5]
        simp [a1, a2, a3, a4, c6]
        refine Lands.to (C := fun r => ∃ τ', r = some (CO.ret (.bool true), τ')) (keep_loop1 (σ0 := σ5) (v := u3) rfl (x3 := .str s) (x4 := v) (x7 := .ptr (s1.n + 1) 0 0) (ed.map edE).length 0 (ed.map edE) _ τ6 (by simp) (by simp; omega) r6 hee rfl (by simp) (by simp) (by simp) (by simp) (by simp)) ?_
        rintro f'' σ7 ⟨g7, z1, z2, z3, z4⟩
        have d7 := d5'.gr g7
        obtain ⟨w, cc, cu⟩ := changes_ev (σ := σ7) hv.rd hv.old (by omega)
        have hrp := rapply_ev (σ := σ7) (b := s) cu.rd cu.old hall (by omega) (by omega)
        rw [hA] at hrp
        obtain ⟨ru, p1, rt⟩ := hrp
        obtain ⟨u8, τ8, c8, r8⟩ := bytes_ev d7
        have hs8 := Bs.str (s := b') r8.rd
        obtain ⟨u9, τ9, c9, r9⟩ := edits_ev (d7.gr r8.gr) (by omega)
        have hsm := same_ev (σ := τ9) r9.rd rt.rd (by omega)
        exact ⟨_, by simp [z1, z2, z3, z4, cc, p1, c8, hs8, c9, hsm]; rfl⟩
      have hp1 : s1.n + 1 = σ.n + 2 := by omega
      rw [hp1] at h1 c1 c2 tail o1
      cases hmv : movedF f t ed with
      | none =>
        rw [hmv] at hmo
        simp [mvV] at hmo
        simp [f5, d5, hsv, ← hs1, m1, b1, hli, hl, hop, o1, w1, w2, wa, wb, wd, hm0, w3, w4, w5, wa2, wb2, wd2, hm2, w6, h1, c1, c2, hmo]
        refine tail _ _ ?_ ?_ ?_ ?_ ?_ ?_ ?_
        · exact ((Gr.refl τ3).new _).set (Nat.le_refl _) _
        all_goals simp
      | some ft =>
        obtain ⟨f', t'⟩ := ft
        rw [hmv] at hmo
        simp [mvV] at hmo
        obtain ⟨j1, j2, j3, j4⟩ := moved_keeps cs s b' [] ed f t f' t' (by simpa using hA) (by omega) (by omega) hmv
        obtain ⟨s4, hs4⟩ : ∃ s4, s4 = (τ3.new (.row 2 [[.int .i64 0, .int .i64 0]])).set τ3.n (.row 2 [[.int .i64 f', .int .i64 t']]) := ⟨_, rfl⟩
        have g4 : Gr τ3 s4 := by rw [hs4]; exact ((Gr.refl τ3).new _).set (Nat.le_refl _) _
        have b4 : s4.H τ3.n = some (.row 2 [[.int .i64 f', .int .i64 t']]) := by rw [hs4]; simp
        have hB4 : Bs s4 u1 b' := (r1'.step g4).rd
        have hcut := hB4.cut j1 j2
        have hst := hcut.str
        rw [j4] at hst
        have hsl : ∀ env (lo hi : Opd), lo.ev env = .int .i64 f' → hi.ev env = .int .i64 t' → lslV env s4 1 u1 (some lo) (some hi) = some (cutV u1 f' t') := fun env lo hi h1 h2 => hB4.lslBoth h1 h2 j1 j2
        obtain ⟨dd, hdd⟩ : ∃ d, d = t - f := ⟨_, rfl⟩
        have v1 : IntKind.i64.wrap ((t' : Int) - f') = (dd : Int) := by rw [IntWalk.i64_in _ (by omega)]; omega
        have v2 : IntKind.i64.wrap ((t : Int) - f) = (dd : Int) := by rw [IntWalk.i64_in _ (by omega)]; omega
        have v3 : ¬ (f' : Int) < 0 := by omega
        have v4 : ¬ (b'.length : Int) < t' := by omega
        have v5 : f ≤ t := by omega
        have v6 : t ≤ s.length := by omega
        simp [f5, d5, hsv, ← hs1, m1, b1, hli, hl, hop, o1, w1, w2, wa, wb, wd, hm0, w3, w4, w5, wa2, wb2, wd2, hm2, w6, h1, c1, c2, hmo, ← hs4, b4, hlen1, v1, v2, v3, v4, v5, v6, hsl, hst]
        refine tail _ _ g4 ?_ ?_ ?_ ?_ ?_ ?_ <;> simp
  · have o1 := open_bad (σ := s1) (ver := 1) (s := s) (by omega) ht
    have ht' : ¬ (takeE s : Int) = 0 := by omega
    exact ⟨_, by simp [f5, d5, hsv, ← hs1, m1, b1, hli, hl, hop, o1, ht, ht']; rfl⟩
theorem keeps_core (W : World) (us : List V) (hu : TypedA [.agg (.str (.slc (.bool (.int .i64 (.int .i64 (.int .i64 (.int .i64 (.str .nil)))))) (.int .i64 (.int .i64 .nil))))] us) : CCalls Try.prog 5 us (Go.Proofs.Ytogibebpoliolaa.Ab.σ0 W) (fun o _ => o = .ret (.bool true)) := by
  obtain ⟨u0, _, rfl, ⟨xs, rfl, s, _, rfl, _, w, _, rfl, hw, n1, _, rfl, _, n2, _, rfl, _, rfl⟩, rfl⟩ := hu
  obtain ⟨cs, hv, hcs⟩ := typed_chs (v := w) ⟨w, [], rfl, hw, rfl⟩
  obtain ⟨σ', h⟩ := keeps_ev (fresh0 W) (s := s) (n1 := n1) (n2 := n2) hv hcs
  exact (ev_calls ET_ok h).mono fun o _ h => h.1
end Go.Proofs.Ytogibebpoliolaa
