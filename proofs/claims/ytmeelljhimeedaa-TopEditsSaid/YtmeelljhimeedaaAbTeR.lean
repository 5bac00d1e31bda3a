/-
The walk over the program's texts, told with what its values say: a part of it. No further condition.
-/
import Derived.Test.YtmeelljhimeedaaAbTeN
namespace Go.Proofs.Ytmeelljhimeedaa
open Go.Proofs.Ytmeelljhimeedaa.Ab
set_option linter.unusedVariables false
set_option linter.unusedSimpArgs false
theorem nx_take {s : List UInt8} {m j : Nat} : nx (s.take m) j = if j < m then nx s j else 0 := by
  unfold nx
  rw [List.getElem?_take]
  split
  · rfl
  · rfl
theorem nx_drop {s : List UInt8} {m j : Nat} : nx (s.drop m) j = nx s (m + j) := by
  unfold nx; rw [List.getElem?_drop]
/-- A letter is read alike where the text is cut ahead of a byte that goes on with none. -/
theorem lt1_take {s : List UInt8} {m i : Nat} (hi : i < m) (hm : ¬ go s m) : lt1 (s.take m) i = lt1 s i := by
  have e0 : nx (s.take m) i = nx s i := by rw [nx_take, if_pos hi]
  have g : ∀ j, j ≤ m → (go (s.take m) j ↔ go s j) := fun j hj => by
    rcases Nat.lt_or_ge j m with h | h
    · unfold go; rw [nx_take, if_pos h]
    · obtain rfl : j = m := by omega
      unfold go at *; rw [nx_take, if_neg (by omega)]; omega
  have n : ∀ j, j < m → nx (s.take m) j = nx s j := fun j hj => by rw [nx_take, if_pos hj]
  unfold lt1
  rw [e0]
  by_cases h1 : i + 1 < m
  · by_cases h2 : i + 2 < m
    · by_cases h3 : i + 3 < m
      · simp only [g _ (Nat.le_of_lt h1), g _ (Nat.le_of_lt h2), g _ (Nat.le_of_lt h3), n _ h1, n _ h2, n _ h3]
      · have h3' : i + 3 = m := by omega
        have hg : ¬ go s (i + 3) := by rw [h3']; exact hm
        have hg' : ¬ go (s.take m) (i + 3) := by rw [g _ (by omega)]; exact hg
        simp only [g _ (Nat.le_of_lt h1), g _ (Nat.le_of_lt h2), hg, hg', n _ h1, n _ h2, and_false, if_false]
    · have h2' : i + 2 = m := by omega
      have hg : ¬ go s (i + 2) := by rw [h2']; exact hm
      have hg' : ¬ go (s.take m) (i + 2) := by rw [g _ (by omega)]; exact hg
      simp only [g _ (Nat.le_of_lt h1), hg, hg', n _ h1, and_false, false_and, if_false]
  · have h1' : i + 1 = m := by omega
    have hg : ¬ go s (i + 1) := by rw [h1']; exact hm
    have hg' : ¬ go (s.take m) (i + 1) := by rw [g _ (by omega)]; exact hg
    simp only [hg, hg', and_false, false_and, if_false]
theorem lt1_drop {s : List UInt8} {m i : Nat} : lt1 (s.drop m) i = lt1 s (m + i) := by
  unfold lt1 go
  simp only [nx_drop, Nat.add_assoc]
theorem sp_drop {s : List UInt8} {m i : Nat} : sp (s.drop m) i = sp s (m + i) := by unfold sp; rw [lt1_drop]
theorem sp_take {s : List UInt8} {m i : Nat} (hi : i < m) (hm : ¬ go s m) : sp (s.take m) i = sp s i := by unfold sp; rw [lt1_take hi hm]
/-- One comes to that place by letters. -/
inductive Rch (s : List UInt8) : Nat → Nat → Prop where
  | refl (a : Nat) : Rch s a a
  | step {i a : Nat} (h : i < s.length) (r : Rch s (i + (sp s i).2) a) : Rch s i a
theorem Rch.le {s : List UInt8} {i a : Nat} (h : Rch s i a) : i ≤ a := by
  induction h with
  | refl => omega
  | step h _ ih => have := sp_pos h; omega
theorem placeL_add {fr to : Nat} : ∀ (ls : List (Nat × Int × Nat)) (n d : Nat), placeL ls (n + d) fr to = placeL ls n fr to + d
  | [], n, d => rfl
  | (a, r, k) :: ls, n, d => by
    simp only [placeL]
    split
    · rfl
    · rw [show n + d + uni r = (n + uni r) + d by omega]; exact placeL_add ls _ d
/-- There and back, within a line. -/
theorem there_back {s : List UInt8} {m fr : Nat} (hm : m ≤ s.length) (hg : ¬ go s m) {j a : Nat} (h : Rch s j a) (ha : a ≤ m) :
    offL (lts (s.take m) j) (placeL (lts s j) 0 fr (fr + a) : Nat) fr (fr + m) = fr + a := by
  induction h with
  | refl a =>
    have hp : placeL (lts s a) 0 fr (fr + a) = 0 := by
      by_cases h : a < s.length
      · have := sp_pos h
        rw [lts_at h]
        unfold placeL
        rw [if_pos (by omega)]
      · rw [lts_end h]; rfl
    rw [hp]
    by_cases h : a < m
    · have hl : a < (s.take m).length := by simp; omega
      rw [lts_at hl]
      have : (0 : Int) < uni (sp (s.take m) a).1 := by unfold uni; split <;> omega
      unfold offL
      rw [if_pos (by simpa using this)]
    · have : a = m := by omega
      rw [lts_end (by simp; omega)]
      simp [offL, this]
  | @step i a h r ih =>
    have hp := sp_pos h
    have hle := r.le
    have hi : i < m := by omega
    have hl : i < (s.take m).length := by simp; omega
    have ih := ih ha
    rw [lts_at h, lts_at hl, sp_take hi hg]
    have e1 : placeL ((i, sp s i) :: lts s (i + (sp s i).2)) 0 fr (fr + a) = placeL (lts s (i + (sp s i).2)) 0 fr (fr + a) + uni (sp s i).1 := by
      rw [← placeL_add]
      show (if fr + a < fr + i + (sp s i).2 then 0 else placeL _ (0 + uni (sp s i).1) fr (fr + a)) = _
      rw [if_neg (by omega)]
    rw [e1]
    show (if ((placeL (lts s (i + (sp s i).2)) 0 fr (fr + a) + uni (sp s i).1 : Nat) : Int) < uni (sp s i).1 then fr + i else offL _ (((placeL (lts s (i + (sp s i).2)) 0 fr (fr + a) + uni (sp s i).1 : Nat) : Int) - uni (sp s i).1) fr (fr + m)) = _
    rw [if_neg (by omega)]
    rw [show (((placeL (lts s (i + (sp s i).2)) 0 fr (fr + a) + uni (sp s i).1 : Nat) : Int) - uni (sp s i).1) = (placeL (lts s (i + (sp s i).2)) 0 fr (fr + a) : Nat) by omega]
    exact ih
theorem lt1_cont {s : List UInt8} {i r k j : Nat} (h : lt1 s i = some (r, k)) (h1 : i < j) (h2 : j < i + k) : go s j := by
  unfold lt1 at h
  split at h
  · simp at h; omega
  split at h
  · rename_i hc
    simp at h
    obtain rfl : j = i + 1 := by omega
    exact hc.2.2
  split at h
  · rename_i hc
    simp only at h
    split at h
    · simp at h
      rcases (by omega : j = i + 1 ∨ j = i + 2) with rfl | rfl
      · exact hc.2.2.1
      · exact hc.2.2.2
    · simp at h
  split at h
  · rename_i hc
    simp only at h
    split at h
    · simp at h
      rcases (by omega : j = i + 1 ∨ j = i + 2 ∨ j = i + 3) with rfl | rfl | rfl
      · exact hc.2.2.1
      · exact hc.2.2.2.1
      · exact hc.2.2.2.2
    · simp at h
  · simp at h
theorem Rch.from {s : List UInt8} {i a fr : Nat} (h : Rch s i a) (h1 : i ≤ fr) (h2 : fr ≤ a) (h3 : 0 < fr → nx s (fr - 1) < 128) : Rch s fr a := by
  induction h with
  | refl a => obtain rfl : fr = a := by omega
              exact .refl _
  | @step i a h r ih =>
    by_cases e : i = fr
    · subst e; exact .step h r
    · refine ih ?_ h2
      have hp := sp_pos h
      have h4 := h3 (by omega)
      by_cases hle : i + (sp s i).2 ≤ fr
      · exact hle
      · exfalso
        cases hl : lt1 s i with
        | none => simp only [sp, hl] at hle; omega
        | some y =>
          obtain ⟨r, k⟩ := y
          simp only [sp, hl] at hle hp
          by_cases e2 : fr - 1 = i
          · rw [e2] at h4
            have : lt1 s i = some (nx s i, 1) := by unfold lt1; rw [if_pos h4]
            rw [hl] at this
            simp at this
            omega
          · have := lt1_cont hl (j := fr - 1) (by omega) (by omega)
            have := this.1
            omega
theorem Rch.drop {s : List UInt8} {i a fr : Nat} (h : Rch s i a) (h1 : fr ≤ i) : Rch (s.drop fr) (i - fr) (a - fr) := by
  induction h with
  | refl => exact .refl _
  | @step i a h r ih =>
    have hp := sp_pos h
    have := ih (by omega)
    refine .step (by simp; omega) ?_
    rw [sp_drop, show fr + (i - fr) = i by omega, show i - fr + (sp s i).2 = i + (sp s i).2 - fr by omega]
    exact this
end Go.Proofs.Ytmeelljhimeedaa
namespace Go.Proofs.Ytmeelljhimeedaa
open Go.Proofs.Ytmeelljhimeedaa.Ab
set_option linter.unusedVariables false
set_option linter.unusedSimpArgs false
theorem mem_lns {b : List UInt8} : ∀ (n i : Nat), b.length ≤ i + n → ∀ x, x ∈ lns b i ↔ ∃ j, i ≤ j ∧ brk b j ∧ x = j + 1 := by
  intro n
  induction n with
  | zero =>
    intro i h x
    rw [lns, dif_neg (by omega)]
    simp
    intro j hj hb _
    have := brk_lt hb
    omega
  | succ n ih =>
    intro i h x
    rw [lns]
    by_cases hi : i < b.length
    · rw [dif_pos hi]
      have ih := ih (i + 1) (by omega) x
      split
      · rename_i hb
        rw [List.mem_cons, ih]
        constructor
        · rintro (rfl | ⟨j, h1, h2, rfl⟩)
          · exact ⟨i, by omega, hb, rfl⟩
          · exact ⟨j, by omega, h2, rfl⟩
        · rintro ⟨j, h1, h2, rfl⟩
          by_cases e : j = i
          · exact .inl (by rw [e])
          · exact .inr ⟨j, by omega, h2, rfl⟩
      · rename_i hb
        rw [ih]
        constructor
        · rintro ⟨j, h1, h2, rfl⟩; exact ⟨j, by omega, h2, rfl⟩
        · rintro ⟨j, h1, h2, rfl⟩
          by_cases e : j = i
          · subst e; exact absurd h2 hb
          · exact ⟨j, by omega, h2, rfl⟩
    · rw [dif_neg hi]
      simp
      intro j hj hb _
      have := brk_lt hb
      omega
theorem lns_sorted {b : List UInt8} : ∀ (n i : Nat), b.length ≤ i + n → (lns b i).Pairwise (· < ·) := by
  intro n
  induction n with
  | zero => intro i h; rw [lns, dif_neg (by omega)]; exact .nil
  | succ n ih =>
    intro i h
    rw [lns]
    by_cases hi : i < b.length
    · rw [dif_pos hi]
      have ih1 := ih (i + 1) (by omega)
      split
      · refine .cons (fun x hx => ?_) ih1
        obtain ⟨j, h1, _, rfl⟩ := (mem_lns n (i + 1) (by omega) x).1 hx
        omega
      · exact ih1
    · rw [dif_neg hi]; exact .nil
theorem linesF_sorted (b : List UInt8) : (linesF b).Pairwise (· < ·) := by
  refine .cons (fun x hx => ?_) (lns_sorted b.length 0 (by omega))
  obtain ⟨j, _, _, rfl⟩ := (mem_lns b.length 0 (by omega) x).1 hx
  omega
theorem lineL_max {L : List Nat} (hs : L.Pairwise (· < ·)) {a : Nat} : ∀ (n l : Nat), L.length ≤ l + n → (h : l < L.length) → L[l] ≤ a → L[lineL L a l]'(lineL_lt h) ≤ a ∧ ∀ x ∈ L, x ≤ a → x ≤ L[lineL L a l]'(lineL_lt h) := by
  intro n
  induction n with
  | zero => intro l h1 h; omega
  | succ n ih =>
    intro l h1 h hl
    by_cases h2 : l + 1 < L.length
    · by_cases h3 : L[l + 1] ≤ a
      · have e : lineL L a l = lineL L a (l + 1) := by rw [lineL, dif_pos h2, if_pos h3]
        simp only [e]
        exact ih (l + 1) (by omega) h2 h3
      · have e : lineL L a l = l := by rw [lineL, dif_pos h2, if_neg h3]
        simp only [e]
        refine ⟨hl, fun x hx hxa => ?_⟩
        obtain ⟨i, hi, rfl⟩ := List.getElem_of_mem hx
        rcases Nat.lt_trichotomy i l with hil | rfl | hil
        · exact Nat.le_of_lt (List.pairwise_iff_getElem.1 hs i l hi h hil)
        · exact Nat.le_refl _
        · exfalso
          by_cases e3 : i = l + 1
          · subst e3; omega
          · have := List.pairwise_iff_getElem.1 hs (l + 1) i h2 hi (by omega)
            omega
    · have e : lineL L a l = l := by rw [lineL, dif_neg h2]
      simp only [e]
      refine ⟨hl, fun x hx hxa => ?_⟩
      obtain ⟨i, hi, rfl⟩ := List.getElem_of_mem hx
      rcases Nat.lt_trichotomy i l with hil | rfl | hil
      · exact Nat.le_of_lt (List.pairwise_iff_getElem.1 hs i l hi h hil)
      · exact Nat.le_refl _
      · omega
theorem endL_spec {b : List UInt8} : ∀ (n i : Nat), b.length = i + n → (endL b i < b.length → b[endL b i]? = some 10 ∨ b[endL b i]? = some 13) := by
  intro n
  induction n with
  | zero => intro i h; rw [endL, dif_neg (by omega)]; omega
  | succ n ih =>
    intro i h
    rw [endL, dif_pos (by omega)]
    have hi : i < b.length := by omega
    split
    · rename_i hc
      intro _
      rcases hc with hc | hc
      · exact .inl (by rw [List.getElem?_eq_getElem hi, hc])
      · exact .inr (by rw [List.getElem?_eq_getElem hi, hc])
    · exact ih (i + 1) (by omega)
theorem go_not {b : List UInt8} {e : Nat} (h : b[e]? = some 10 ∨ b[e]? = some 13 ∨ b.length ≤ e) : ¬ go b e := by
  unfold go nx
  rcases h with h | h | h
  · rw [h]; decide
  · rw [h]; decide
  · rw [List.getElem?_eq_none h]; simp
/-- A position, and the byte that it names. -/
theorem there {b : List UInt8} {a : Nat} (ha : a ≤ b.length) (hr : Rch b 0 a) (hc : ¬ (0 < a ∧ b[a]? = some 10 ∧ b[a - 1]? = some 13)) :
    offF b (linesF b) (placeF b (linesF b) a).1 (placeF b (linesF b) a).2 = a := by
  have h0 : 0 < (linesF b).length := by simp [linesF]
  have hlt := lineL_lt (at' := a) h0
  obtain ⟨h1, h2⟩ := lineL_max (linesF_sorted b) (a := a) (linesF b).length 0 (by omega) h0 (by simp [linesF])
  obtain ⟨line, hline⟩ : ∃ l, l = lineL (linesF b) a 0 := ⟨_, rfl⟩
  simp only [← hline] at h1 h2 hlt
  obtain ⟨fr, hfr⟩ : ∃ f, f = (linesF b)[line] := ⟨_, rfl⟩
  rw [← hfr] at h1 h2
  have hfrb : fr ≤ b.length := by omega
  have hmem : ∀ x, x ∈ linesF b ↔ x = 0 ∨ ∃ j, brk b j ∧ x = j + 1 := fun x => by
    show x ∈ 0 :: lns b 0 ↔ _
    rw [List.mem_cons, mem_lns b.length 0 (by omega) x]
    simp
  have hfm : fr ∈ linesF b := by rw [hfr]; exact List.getElem_mem hlt
  have hahead : 0 < fr → nx b (fr - 1) < 128 := fun hp => by
    rcases (hmem fr).1 hfm with e | ⟨j, hj, e⟩
    · omega
    · subst e
      simp only [Nat.add_sub_cancel]
      unfold nx
      rcases hj with hj | ⟨hj, _⟩ <;> rw [hj] <;> decide
  obtain ⟨ed, hed⟩ : ∃ e, e = endL b fr := ⟨_, rfl⟩
  have hel := endL_le (s := b) (i := fr) hfrb
  have hes := endL_spec (b := b) (b.length - fr) fr (by omega)
  rw [← hed] at hel hes
  have hae : a ≤ ed := by
    rcases Nat.lt_or_ge ed a with hlt2 | h
    · exfalso
      have hno : ∀ j, brk b j → j + 1 ≤ a → j + 1 ≤ fr := fun j hj hja => h2 (j + 1) ((hmem _).2 (.inr ⟨j, hj, rfl⟩)) hja
      rcases hes (by omega) with hb | hb
      · have := hno ed (.inl hb) (by omega); omega
      · by_cases hn : b[ed + 1]? = some 10
        · by_cases hae : a = ed + 1
          · exact hc ⟨by omega, by rw [hae]; exact hn, by rw [hae]; simpa using hb⟩
          · have := hno (ed + 1) (.inl hn) (by omega); omega
        · have := hno ed (.inr ⟨hb, hn⟩) (by omega); omega
    · exact h
  have hrch := (hr.from (Nat.zero_le fr) h1 hahead).drop (Nat.le_refl fr)
  rw [Nat.sub_self] at hrch
  have hg : ¬ go (b.drop fr) (ed - fr) := by
    unfold go; rw [nx_drop, show fr + (ed - fr) = ed by omega]
    apply go_not
    rcases Nat.lt_or_ge ed b.length with h | h
    · rcases hes h with h | h
      · exact .inl h
      · exact .inr (.inl h)
    · exact .inr (.inr h)
  have key := there_back (s := b.drop fr) (m := ed - fr) (fr := fr) (by simp; omega) hg hrch (by omega)
  have hpl : placeF b (linesF b) a = ((line : Int), ((placeL (lts (b.drop fr) 0) 0 fr a : Nat) : Int)) := by
    unfold placeF
    simp only [Int.toNat_natCast, Nat.min_eq_left ha, ← hline, List.getElem?_eq_getElem hlt, ← hfr, Option.getD_some, Nat.min_eq_left hfrb, ← hed, Nat.min_eq_left hae]
  rw [hpl]
  unfold offF
  rw [if_neg (by omega)]
  simp only [Int.toNat_natCast, List.getElem?_eq_getElem hlt, ← hfr, Nat.min_eq_left hfrb, ← hed]
  rw [show fr + (a - fr) = a by omega, show fr + (ed - fr) = ed by omega] at key
  rw [show (b.take ed).drop fr = (b.drop fr).take (ed - fr) by rw [List.drop_take]]
  exact key
end Go.Proofs.Ytmeelljhimeedaa
namespace Go.Proofs.Ytmeelljhimeedaa
open Go.Proofs.Ytmeelljhimeedaa.Ab
set_option linter.unusedVariables false
set_option linter.unusedSimpArgs false
attribute [local simp] Gr.refl Gr.new Gr.set Gr.kill Nat.add_assoc r_cks chk wantG
def eur : List UInt8 := [97, 226, 130, 172, 98]
theorem eur_0 : lt1 eur 0 = some (97, 1) := by decide +kernel
theorem eur_1 : lt1 eur 1 = some (8364, 3) := by decide +kernel
theorem eur_4 : lt1 eur 4 = some (98, 1) := by decide +kernel
theorem eur_ok : takeE eur = 0 := by
  have : bad eur 0 = none := by
    rw [bad_some (by simp [eur]) eur_0, bad_some (by simp [eur]) eur_1, bad_some (by simp [eur]) eur_4, bad_end (by simp [eur])]
  unfold takeE; rw [this]; simp [eur]
theorem bad_120 : bad [120] 0 = none := by
  have h : lt1 [120] 0 = some (120, 1) := by decide +kernel
  rw [bad_some (by simp) h, bad_end (by simp)]
theorem eur_app : applyF eur [] [⟨true, 0, 1, 0, 2, [120]⟩] = .ok [97, 120, 98] [⟨1, 4, 1⟩] := by
  have hl : linesF eur = [0] := by simp [linesF, lns, brk, eur]
  have he : endL eur 0 = 5 := by simp [endL, eur]
  have hlt : lts eur 0 = [(0, 97, 1), (1, 8364, 3), (4, 98, 1)] := by
    rw [lts_at (by simp [eur])]
    simp [sp, eur_0]
    rw [lts_at (by simp [eur])]
    simp [sp, eur_1]
    rw [lts_at (by simp [eur])]
    simp [sp, eur_4]
    rw [lts_end (by simp [eur])]
  have ht : (eur.take 5).drop 0 = eur := rfl
  have h1 : offF eur [0] 0 1 = 1 := by simp [offF, he, offL, uni]; rw [show eur.take 5 = eur from rfl, hlt]; simp [offL, uni]
  have h2 : offF eur [0] 0 2 = 4 := by simp [offF, he, offL, uni]; rw [show eur.take 5 = eur from rfl, hlt]; simp [offL, uni]
  simp [applyF, bad_120, editF, hl, h1, h2, spliceF]
  simp [eur]
end Go.Proofs.Ytmeelljhimeedaa
namespace Go.Proofs.Ytmeelljhimeedaa
open Go.Proofs.Ytmeelljhimeedaa.Ab
set_option linter.unusedVariables false
set_option linter.unusedSimpArgs false
attribute [local simp] Gr.refl Gr.new Gr.set Gr.kill Nat.add_assoc r_cks chk wantG
theorem own_put {σ0 σ : St} {z : Nat} {v : V} {es : List (List V)} (h : Own σ0 σ z v es) {l : Nat} (hl : σ0.n ≤ l) (hv : v.row ≠ some l) (b : Blk) : Own σ0 (σ.set l b) z v es :=
  ⟨h.sl.mono fun k hk => by simp [show k ≠ l from fun e => hv (e ▸ hk)], h.gr.set hl b, fun k hk => by simpa using h.lo k hk⟩
/-- A change may begin there. -/
def mayB (s : List UInt8) (x : Nat × Int × Nat) : Prop := x.2.1 ≠ 10 ∨ x.1 = 0 ∨ s[x.1 - 1]? ≠ some 13
instance (s : List UInt8) (x : Nat × Int × Nat) : Decidable (mayB s x) := inferInstanceAs (Decidable (_ ∨ _ ∨ _))
structure BegI (σ0 σ : St) (e : Env) (m p l : Nat) (s : List UInt8) (acc : List Nat) : Prop where
  q : σ0.n ≤ p ∧ p ≠ m ∧ σ0.n ≤ m
  hm : σ.H m = some (.lp .busy)
  hp : σ.H p = some (.row 1 [[.slc l 0 s.length]])
  hv : σ.H l = some (.row 1 (s.map byteE)) ∧ l ≠ m ∧ l < σ.n
  rs : ∃ r3 r11 u, e 3 = .ptr r3 0 0 ∧ e 11 = .ptr r11 0 0 ∧ σ.H r3 = some (.row 1 [[.str s]]) ∧ σ.H r11 = some (.row 1 [[u]]) ∧ Own σ0 σ 1 u (acc.map intE) ∧ (∀ k, u.row = some k → k ≠ r11 ∧ k ≠ r3 ∧ k ≠ p ∧ k ≠ m ∧ k ≠ l) ∧ r3 ≠ r11 ∧ r11 ≠ p ∧ r11 ≠ m ∧ r3 ≠ m ∧ σ0.n ≤ r11 ∧ r3 < σ.n ∧ r11 < σ.n ∧ p < σ.n ∧ m < σ.n ∧ l ≠ r11
def begL (s : List UInt8) (ls : List (Nat × Int × Nat)) : List Nat := (ls.filter fun x => decide (mayB s x)).map (·.1)
theorem beg_loop {σ0 : St} {s : List UInt8} (hb : s.length < 2 ^ 40) {e : Env} {m p l : Nat} {A B : D} (hA : A = b3_0) (hB : B = b3_1) {st : List SE} :
    ∀ (ls : List (Nat × Int × Nat)) (i : Nat) (acc : List Nat) (f : Fr) (σ : St), (lts s 0).drop i = ls → acc.length ≤ i → BegI σ0 σ e m p l s acc →
      Lands ET false [.t 2] st (fun f' σ' => f'.ds = [.coll] ∧ f'.env = e ∧ ∃ σ2, BegI σ0 σ2 e m p l s (acc ++ begL s ls) ∧ σ' = σ2.kill m) (run ET false [.t 2] (.rnd e [] m [89, 90] A B 19 [.ptr p 0 0] (.str s) ((lts s 0).map ltV) i :: .blk 0 :: st) f σ)
  | [], i, acc, f, σ, hl, ha, hq => by
    have hlen := congrArg List.length hl
    simp at hlen
    obtain ⟨r3, r11, u, a1, a2, a3, a4, a5, a6, n1, n2, n3, n4, n5, n6, n7, n8, n9, n10⟩ := hq.rs
    have g1 : Bs (σ.set m (.lp .ready)) (.slc l 0 s.length) s := by simp [Bs, Rd, cont, hq.hv.1, hq.hv.2.1, List.take_of_length_le]
    rw [rnd_end hq.hm (it_box (v := .slc l 0 s.length) (by simp [hq.q.2.1, hq.hp]) g1 hb) (by simp; omega)]
    simp
    exact .here ⟨rfl, rfl, σ, by simpa [begL] using hq, rfl⟩
  | (a, r, k) :: ls, i, acc, f, σ, hl, ha, hq => by
    obtain ⟨r3, r11, u, a1, a2, a3, a4, a5, a6, n1, n2, n3, n4, n5, n6, n7, n8, n9, n10⟩ := hq.rs
    have g1 : Bs (σ.set m (.lp .ready)) (.slc l 0 s.length) s := by simp [Bs, Rd, cont, hq.hv.1, hq.hv.2.1, List.take_of_length_le]
    have hat : (lts s 0)[i]? = some (a, r, k) := by
      have := congrArg (·[0]?) hl
      simpa using this
    have hmem : (a, r, k) ∈ lts s 0 := List.mem_of_getElem? hat
    have hin := lts_in s.length 0 (by omega) _ hmem
    simp only at hin
    have hnext : (lts s 0).drop (i + 1) = ls := by rw [← List.drop_drop, hl]; rfl
    rw [rnd_at (e' := (setPs e [89, 90] (ltV (a, r, k))).put (some 12) (.int .i64 a) |>.put (some 13) (.int .i32 r)) hB hq.hm (it_box (v := .slc l 0 s.length) (by simp [hq.q.2.1, hq.hp]) g1 hb) (by simp [hat]; rfl) rfl (by rw [hA]; rfl)]
    have e31 : ∀ (t : Nat), ((setPs e [89, 90] (ltV (a, r, k))).put (some 12) (.int .i64 a) |>.put (some 13) (.int .i32 r)) t = if t = 13 then .int .i32 r else if t = 12 then .int .i64 a else (if t = 90 then .int .i32 r else if t = 89 then .int .i64 a else e t) := fun t => rfl
    generalize ((setPs e [89, 90] (ltV (a, r, k))).put (some 12) (.int .i64 a) |>.put (some 13) (.int .i32 r)) = e' at e31
    have hno : ¬ mayB s (a, r, k) → ∀ fr, Lands ET false [.t 2] st (fun f' σ' => f'.ds = [.coll] ∧ f'.env = e ∧ ∃ σ2, BegI σ0 σ2 e m p l s (acc ++ begL s ((a, r, k) :: ls)) ∧ σ' = σ2.kill m) (run ET false [.t 2] (.rnd e [] m [89, 90] A B 19 [.ptr p 0 0] (.str s) ((lts s 0).map ltV) (i + 1) :: .blk 0 :: st) fr σ) := fun hn fr => by
      have := beg_loop (st := st) hb hA hB ls (i + 1) acc fr σ hnext (by omega) hq
      simpa [begL, hn] using this
    have hll := lts_len (s := s) s.length 0 (by omega)
    have hil : i < (lts s 0).length := (List.getElem?_eq_some_iff.1 hat).1
    obtain ⟨w, τ, h1, h2, h3, h4, h5⟩ := a5.app1N [intE a] (by simp) (bytes := 8) (by simp [reach]; omega) (by simp [reach]; omega) (n := 1) rfl
    have hyes : mayB s (a, r, k) → ∀ fr, Lands ET false [.t 2] st (fun f' σ' => f'.ds = [.coll] ∧ f'.env = e ∧ ∃ σ2, BegI σ0 σ2 e m p l s (acc ++ begL s ((a, r, k) :: ls)) ∧ σ' = σ2.kill m) (run ET false [.t 2] (.rnd e [] m [89, 90] A B 19 [.ptr p 0 0] (.str s) ((lts s 0).map ltV) (i + 1) :: .blk 0 :: st) fr (τ.set r11 (.row 1 [[w]]))) := fun hn fr => by
      have hr : ∀ x, x < σ.n → u.row ≠ some x → x ≠ r11 → (τ.set r11 (.row 1 [[w]])).H x = σ.H x := fun x h1 h2 h3 => by simp [h3, h5 x h1 h2]
      have := beg_loop (st := st) hb hA hB ls (i + 1) (acc ++ [a]) fr (τ.set r11 (.row 1 [[w]])) hnext (by simp; omega)
        ⟨hq.q, by rw [hr m n9 (fun h => (a6 m h).2.2.2.1 rfl) (Ne.symm n3)]; exact hq.hm, by rw [hr p n8 (fun h => (a6 p h).2.2.1 rfl) (Ne.symm n2)]; exact hq.hp, ⟨by rw [hr l hq.hv.2.2 (fun h => (a6 l h).2.2.2.2 rfl) n10]; exact hq.hv.1, hq.hv.2.1, by simp; have := hq.hv.2.2; omega⟩,
          r3, r11, w, a1, a2, by rw [hr r3 n6 (fun h => (a6 r3 h).2.1 rfl) n1]; exact a3, by simp, by simpa using own_put h2 n5 (fun h => by have := h3 r11 h; omega) (.row 1 [[w]]),
          fun x hx => by (have := h3 x hx); have := hq.hv.2.2; omega, n1, n2, n3, n4, n5, by simp; omega, by simp; omega, by simp; omega, by simp; omega, n10⟩
      simpa [begL, hn] using this
    simp only [intE] at h1
    have h6 : τ.H r11 = some (.row 1 [[u]]) := by rw [h5 r11 n7 (fun h => (a6 r11 h).1 rfl)]; exact a4
    have h7 : w.cells = [w] ∧ w.scal = true := by
      rcases h2.sl with ⟨rfl, h⟩ | ⟨l, rfl, h⟩
      · exact ⟨rfl, rfl⟩
      · exact ⟨rfl, rfl⟩
    have h8 := h7.1
    have h9 := h7.2
    have hr11 : ¬ r11 = σ.n := by omega
    have hr3 : ¬ r3 = σ.n := by omega
    by_cases c1 : r = 10
    · by_cases c2 : a = 0
      · have := hyes (.inr (.inl (by simp; omega)))
        simp [b3_1, e31, a1, a2, a3, a4, eq_true c1, eq_true c2, h1, h6, h8, h9, hr11, hr3]
        exact this _
      · have hsx : sxV (.str s) (.int .i64 (IntKind.i64.wrap ((a : Int) - 1))) = some (.int .u8 (s[a - 1]'(by omega)).toNat) := by
          rw [IntWalk.i64_in _ (by omega), show (a : Int) - 1 = ((a - 1 : Nat) : Int) by omega]
          simp [show a - 1 < s.length by omega]
        by_cases c3 : ((s[a - 1]'(by omega)).toNat : Int) = 13
        · have := hno (by
            rintro (h | h | h)
            · exact h c1
            · simp at h; omega
            · apply h
              simp only [List.getElem?_eq_getElem (show a - 1 < s.length by omega), Option.some.injEq]
              exact UInt8.toNat.inj (by simp; omega))
          simp [b3_1, e31, a1, a2, a3, a4, eq_true c1, c2, hsx, c3]
          exact this _
        · have := hyes (.inr (.inr (by
            simp only [List.getElem?_eq_getElem (show a - 1 < s.length by omega), ne_eq, Option.some.injEq]
            intro h; rw [h] at c3; simp at c3)))
          simp [b3_1, e31, a1, a2, a3, a4, eq_true c1, c2, hsx, c3, h1, h6, h8, h9, hr11, hr3]
          exact this _
    · have := hyes (.inl c1)
      simp [b3_1, e31, a1, a2, a3, a4, c1, h1, h6, h8, h9, hr11, hr3]
      exact this _
end Go.Proofs.Ytmeelljhimeedaa
