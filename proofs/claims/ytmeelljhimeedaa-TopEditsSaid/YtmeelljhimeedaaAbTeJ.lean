/-
The walk over the program's texts, told with what its values say: a part of it. No further condition.
-/
import Derived.Test.YtmeelljhimeedaaAbTeF
namespace Go.Proofs.Ytmeelljhimeedaa
open Go.Proofs.Ytmeelljhimeedaa.Ab
set_option linter.unusedVariables false
set_option linter.unusedSimpArgs false
attribute [local simp] r_cks chk_x chk_n
/-- All that is known: the telling, and the iterator of letters. -/
def ET : En Try.prog := ⟨T, fun gf cap σ => if gf = 19 then (match cap with | [c] => It19 σ c | _ => none) else none, fun _ _ _ => none, fun _ _ _ _ => none⟩
theorem It44_inv {σ : St} {c : V} {ky : V} {xs : List (List V)} (h : It19 σ c = some (ky, xs)) : ∃ b, boxB σ c = some b ∧ b.length < 2 ^ 40 ∧ ky = .str b ∧ xs = (lts b 0).map ltV := by
  unfold It19 at h
  obtain ⟨b, h1, h2⟩ := Option.bind_eq_some_iff.1 h
  split at h2
  · rename_i hl
    simp at h2
    exact ⟨b, h1, hl, h2.1.symm, h2.2.symm⟩
  · simp at h2
theorem It44_of {σ : St} {c : V} {b : List UInt8} (h : boxB σ c = some b) (hb : b.length < 2 ^ 40) : It19 σ c = some (.str b, (lts b 0).map ltV) := by
  unfold It19; rw [h]; simp [hb]
theorem ET_ok : ET.Ok := ⟨T_ok, fun gf cap σ ky xs h => by
    simp only [ET] at h
    split at h
    · rename_i hg
      subst hg
      split at h
      · rename_i c
        obtain ⟨b, h1, h2, rfl, rfl⟩ := It44_inv h
        refine ⟨(T_ok 19 _ rfl).2, ?_⟩
        intro Y l J X σ' hJ hY h0
        refine iter19 c b h2 Y l J X σ' (fun i σ hj => ?_) hY h0
        have := hJ i σ hj
        simp only [ET, if_true] at this
        obtain ⟨b', h3, _, h4, _⟩ := It44_inv this
        injection h4 with h5; rw [h5]; exact h3
      · simp at h
    · simp at h, fun _ _ _ _ h => by simp [ET] at h, fun _ _ _ _ _ h => by simp [ET] at h⟩
theorem letters_ev {σ : St} {v : V} (hv : v.scal = true) : ev ET 8 [v] σ = some (.ret (.func (.func 19) [] [.ptr σ.n 0 0]), σ.new (.row 1 [[v]])) := by
  refine ev_raw (fd := f8) rfl (by simp [f8]) rfl ?_
  simp [f8, d8, boxV_v σ v hv]
/-- A box of an iterator that reads as these bytes, whatever is made else. -/
theorem it_box {σ : St} {p : Nat} {v : V} {b : List UInt8} (h : σ.H p = some (.row 1 [[v]])) (hv : Bs σ v b) (hb : b.length < 2 ^ 40) : ET.It 19 [.ptr p 0 0] σ = some (.str b, (lts b 0).map ltV) := by
  simp only [ET, if_true]
  exact It44_of (boxB_of (v := v) (by simp [h]) hv) hb
def offL : List (Nat × Int × Nat) → Int → Nat → Nat → Nat
  | [], _, _, to => to
  | (at', r, _) :: ls, left, from', to => if left < uni r then from' + at' else offL ls (left - uni r) from' to
/-- What the loop of Offset knows. -/
structure OffI (σ0 σ : St) (e : Env) (m p : Nat) (v : V) (sub : List UInt8) (left : Int) (from' to : Nat) : Prop where
  gr : Gr σ0 σ
  q : σ0.n ≤ p ∧ p ≠ m ∧ σ0.n ≤ m
  hm : σ.H m = some (.lp .busy)
  hp : σ.H p = some (.row 1 [[v]])
  hv : Bs σ0 v sub
  ho : v.old σ0
  rs : ∃ r6 r7 r9, e 6 = .ptr r6 0 0 ∧ e 7 = .ptr r7 0 0 ∧ e 9 = .ptr r9 0 0 ∧ σ.H r6 = some (.row 1 [[.int .i64 0]]) ∧ σ.H r7 = some (.row 1 [[.int .i64 from']]) ∧ σ.H r9 = some (.row 1 [[.int .i64 left]]) ∧ r6 ≠ r7 ∧ r6 ≠ r9 ∧ r7 ≠ r9 ∧
    r6 ≠ p ∧ r7 ≠ p ∧ r9 ≠ p ∧ r6 ≠ m ∧ r7 ≠ m ∧ r9 ≠ m ∧ σ0.n ≤ r6 ∧ σ0.n ≤ r9
  e8 : e 8 = .int .i64 to
theorem off_loop {σ0 : St} {v : V} {sub : List UInt8} {from' to : Nat} (hb : sub.length < 2 ^ 40) (hf : from' < 2 ^ 40) {e : Env} {m p : Nat} {A B : D} (hA : A = b21_0) (hB : B = b21_1) :
    ∀ (ls : List (Nat × Int × Nat)) (i : Nat) (left : Int) (f : Fr) (σ : St), (lts sub 0).drop i = ls → (∀ x ∈ ls, x.1 < 2 ^ 40 ∧ -1 ≤ x.2.1) → IntKind.i64.min ≤ left → left ≤ IntKind.i64.max → OffI σ0 σ e m p v sub left from' to →
      ∃ τ, run ET false [.c 6 none] (.rnd e [] m [43, 44] A B 19 [.ptr p 0 0] (.str sub) ((lts sub 0).map ltV) i :: .blk 1 :: [.d (.kb [6, 8] (.seq (.reg [⟨some 56, none, .mv (.t 8)⟩, ⟨none, none, .st 1 (.t 6) (.t 56)⟩]) .ret))]) f σ = some (.ret (.int .i64 (offL ls left from' to)), τ) ∧ Gr σ0 τ
  | [], i, left, f, σ, hl, _, _, _, hq => by
    obtain ⟨r6, r7, r9, a1, a2, a3, a4, a5, a6, n1, n2, n3, n4, n5, n6, n7, n8, n9, l1, l2⟩ := hq.rs
    have hlen := congrArg List.length hl
    simp at hlen
    have g1 := hq.gr.set hq.q.2.2 (.lp .ready)
    rw [rnd_end hq.hm (it_box (v := v) (by simp [hq.q.2.1, hq.hp]) (hq.hv.gr g1 hq.ho) hb) (by simp; omega)]
    simp [a1, hq.e8, a4, n7, fin_coll, offL]
    exact (hq.gr.kill hq.q.2.2).set l1 _
  | (at', r, k) :: ls, i, left, f, σ, hl, hr, hn, hx, hq => by
    obtain ⟨r6, r7, r9, a1, a2, a3, a4, a5, a6, n1, n2, n3, n4, n5, n6, n7, n8, n9, l1, l2⟩ := hq.rs
    have hat : (lts sub 0)[i]? = some (at', r, k) := by
      have := congrArg (·[0]?) hl
      simpa using this
    have hnext : (lts sub 0).drop (i + 1) = ls := by rw [← List.drop_drop, hl]; rfl
    obtain ⟨hr1, hr2⟩ := hr (at', r, k) (by simp)
    simp only at hr1 hr2
    have g1 := hq.gr.set hq.q.2.2 (.lp .ready)
    have hu := units_ev (E := ET) rfl (σ := σ) r
    rw [rnd_at (e' := (setPs e [43, 44] (ltV (at', r, k))).put (some 10) (.int .i64 at') |>.put (some 11) (.int .i32 r)) hB hq.hm (it_box (v := v) (by simp [hq.q.2.1, hq.hp]) (hq.hv.gr g1 hq.ho) hb) (by simp [hat]; rfl) rfl (by rw [hA]; rfl)]
    have hw : IntKind.i64.wrap ((from' : Int) + at') = ((from' + at' : Nat) : Int) := by rw [IntWalk.i64_in _ (by omega)]; omega
    have huni : uni r = 1 ∨ uni r = 2 := by unfold uni; split <;> simp
    have e31 : ∀ (t : Nat), ((setPs e [43, 44] (ltV (at', r, k))).put (some 10) (.int .i64 at') |>.put (some 11) (.int .i32 r)) t = if t = 11 then .int .i32 r else if t = 10 then .int .i64 at' else (if t = 44 then .int .i32 r else if t = 43 then .int .i64 at' else e t) := fun t => rfl
    generalize ((setPs e [43, 44] (ltV (at', r, k))).put (some 10) (.int .i64 at') |>.put (some 11) (.int .i32 r)) = e' at e31
    have hl2 : IntKind.i64.min = -9223372036854775808 := rfl
    have hl3 : IntKind.i64.max = 9223372036854775807 := rfl
    by_cases hlt : left < uni r
    · simp [b21_1, e31, a1, a2, a3, a4, a5, a6, hu, hlt, hw, hq.hm, Ne.symm n7, fin_coll, n7, offL]
      exact (hq.gr.set l1 _).kill hq.q.2.2
    · have hw2 : IntKind.i64.wrap (left - (uni r : Int)) = left - uni r := IntWalk.i64_in _ (by omega)
      simp [b21_1, e31, a1, a2, a3, a4, a5, a6, hu, hlt, hw2]
      obtain ⟨τ, h1, h2⟩ := off_loop hb hf hA hB ls (i + 1) (left - uni r) _ (σ.set r9 (.row 1 [[.int .i64 (left - uni r)]])) hnext (fun x hx => hr x (by simp [hx])) (by omega) (by omega)
        ⟨hq.gr.set l2 _, hq.q, by simp [Ne.symm n9, hq.hm], by simp [Ne.symm n6, hq.hp], hq.hv, hq.ho, ⟨r6, r7, r9, a1, a2, a3, by simp [n2, a4], by simp [n3, a5], by simp, n1, n2, n3, n4, n5, n6, n7, n8, n9, l1, l2⟩, hq.e8⟩
      refine ⟨τ, ?_, h2⟩
      rw [h1]
      simp [offL, hlt]
end Go.Proofs.Ytmeelljhimeedaa
namespace Go.Proofs.Ytmeelljhimeedaa
open Go.Proofs.Ytmeelljhimeedaa.Ab
set_option linter.unusedVariables false
set_option linter.unusedSimpArgs false
attribute [local simp] Gr.refl Gr.new Gr.set Gr.kill Nat.add_assoc
theorem lts_in {s : List UInt8} : ∀ (n i : Nat), s.length ≤ i + n → ∀ x ∈ lts s i, i ≤ x.1 ∧ x.1 + x.2.2 ≤ s.length ∧ 1 ≤ x.2.2 ∧ x.2.2 ≤ 4 ∧ -1 ≤ x.2.1 ∧ x.2.1 ≤ 1114111 := by
  intro n
  induction n with
  | zero => intro i hn x hx; rw [lts_end (by omega)] at hx; simp at hx
  | succ n ih =>
    intro i hn x hx
    by_cases h : i < s.length
    · rw [lts_at h] at hx
      have hp := sp_pos h
      rcases List.mem_cons.1 hx with rfl | hx
      · simp; omega
      · have := ih (i + (sp s i).2) (by omega) x hx
        omega
    · rw [lts_end h] at hx; simp at hx
def offF (b : List UInt8) (L : List Nat) (line unit : Int) : Nat :=
  if line < 0 then 0 else match L[line.toNat]? with
    | none => b.length
    | some l => offL (lts ((b.take (endL b (min l b.length))).drop (min l b.length)) 0) unit (min l b.length) (endL b (min l b.length))
theorem maxV (a : Nat) : (if (0 : Int) > a then (0 : Int) else a) = a := by rw [if_neg (by omega)]
theorem minV (a c : Nat) : (if c < a then (c : Int) else a) = ((min a c : Nat) : Int) := by split <;> omega
theorem offset_ev {σ : St} {v lv : V} {b : List UInt8} {L : List Nat} {line unit : Int} (hv : Bs σ v b) (ho : v.old σ) (hl : Rd σ 1 lv (L.map intE)) (hlo : lv.old σ) (hb : b.length < 2 ^ 40) (hu : IntKind.i64.min ≤ unit ∧ unit ≤ IntKind.i64.max) :
    ev ET 21 [v, lv, .agg [.int .i64 line, .int .i64 unit]] σ = some (.ret (.int .i64 (offF b L line unit)), σ) := by
  have hll : lenV lv = some (.int .i64 L.length) := by simpa using hl.len
  obtain ⟨τ, hr, hg⟩ : ∃ τ, run ET false f21.res [.d f21.body] ⟨envOf [v, lv, .agg [.int .i64 line, .int .i64 unit]], []⟩ σ = some (.ret (.int .i64 (offF b L line unit)), τ) ∧ Gr σ τ := by
    by_cases h1 : line < 0
    · exact ⟨_, by simp [f21, d21, h1, offF]; rfl, by simp (maxDischargeDepth := 12)⟩
    obtain ⟨n, rfl⟩ : ∃ n : Nat, line = n := ⟨line.toNat, by omega⟩
    by_cases h2 : L.length ≤ n
    · have h2' : (L.length : Int) ≤ n := by omega
      exact ⟨_, by simp [f21, d21, h1, hll, h2', hv.len, offF, List.getElem?_eq_none h2]; rfl, by simp (maxDischargeDepth := 12)⟩
    have hn : n < L.length := by omega
    have h2' : ¬ (L.length : Int) ≤ n := by omega
    obtain ⟨x, hx⟩ : ∃ x, L[n] = x := ⟨_, rfl⟩
    obtain ⟨fr, hfr⟩ : ∃ fr, fr = min x b.length := ⟨_, rfl⟩
    obtain ⟨to, hto⟩ : ∃ to, to = endL b fr := ⟨_, rfl⟩
    have hmx := maxV x
    have hmn := minV x b.length
    rw [← hfr] at hmn
    have hto' := endL_le (s := b) (i := fr) (hfr ▸ Nat.min_le_right _ _)
    rw [← hto] at hto'
    have hat' : ∀ σ', Gr σ σ' → iaV σ' 1 lv (.int .i64 n) = some (elA lv n) := fun σ' g => Rd.at (hl.gr g hlo) (by simpa using hn)
    have hel' : ∀ σ', Gr σ σ' → ldV σ' (elA lv n) = some (.int .i64 x) := fun σ' g => by
      have := Rd.el (hl.gr g hlo) (i := n) (e := intE L[n]) (by simp [hn])
      simpa [intE, hx] using this
    have hend : ∀ σ', Gr σ σ' → ev ET 23 [v, .int .i64 fr] σ' = some (.ret (.int .i64 to), σ') := fun σ' g => by rw [hto]; exact end_ev rfl (hv.gr g ho) hb
    have hcut : ∀ σ' env (lo hi : Opd), Gr σ σ' → lo.ev env = .int .i64 fr → hi.ev env = .int .i64 to → lslV env σ' 1 v (some lo) (some hi) = some (cutV v fr to) := fun σ' env lo hi g e1 e2 => (hv.gr g ho).lslBoth e1 e2 hto'.1 hto'.2
    have hlet : ∀ σ', ev ET 8 [cutV v fr to] σ' = some (.ret (.func (.func 19) [] [.ptr σ'.n 0 0]), σ'.new (.row 1 [[cutV v fr to]])) := fun σ' => letters_ev (hv.cut hto'.1 hto'.2).scal
    have hn0 : ¬ (n : Int) < 0 := by omega
    simp (maxDischargeDepth := 12) [f21, d21, hll, h2', hv.len, hat', hel', hmx, hmn, hn0, hend, hcut, hlet]
    rw [rng_in (.t 42) rfl (by simp) (it_box (p := σ.n + 4) (v := cutV v fr to) (b := (b.take to).drop fr) (by simp) ((hv.cut hto'.1 hto'.2).gr (by simp (maxDischargeDepth := 12)) (V.old_cut ho fr to)) (by simp; omega))]
    have hsub : ((b.take to).drop fr).length < 2 ^ 40 := by simp; omega
    obtain ⟨τ, e1, e2⟩ := off_loop (σ0 := σ) (v := cutV v fr to) (from' := fr) (to := to) hsub (by omega) (e := lk [6, 7, 8, 9, 42] [.ptr (σ.n + 1) 0 0, .ptr (σ.n + 2) 0 0, .int .i64 to, .ptr (σ.n + 3) 0 0, .func (.func 19) [] [.ptr (σ.n + 4) 0 0]]) (m := σ.n + 5) (p := σ.n + 4) (A := b21_0) (B := b21_1) rfl rfl (lts ((b.take to).drop fr) 0) 0 unit
      ⟨lk [6, 7, 8, 9, 42] [.ptr (σ.n + 1) 0 0, .ptr (σ.n + 2) 0 0, .int .i64 to, .ptr (σ.n + 3) 0 0, .func (.func 19) [] [.ptr (σ.n + 4) 0 0]], []⟩
      ((((((((σ.new (.row 2 [[.int .i64 n, .int .i64 unit]])).new (.row 1 [[.int .i64 0]])).new (.row 1 [[.int .i64 0]])).set (σ.n + 2) (.row 1 [[.int .i64 fr]])).new (.row 1 [[.int .i64 0]])).set (σ.n + 3) (.row 1 [[.int .i64 unit]])).new (.row 1 [[cutV v fr to]])).new (.lp .busy))
      rfl (fun x hx => by have := lts_in ((b.take to).drop fr).length 0 (by omega) x hx; omega) hu.1 hu.2
      ⟨by simp (maxDischargeDepth := 12), by simp, by simp, by simp, hv.cut hto'.1 hto'.2, V.old_cut ho fr to, ⟨σ.n + 1, σ.n + 2, σ.n + 3, by simp, by simp, by simp, by simp, by simp, by simp, by simp, by simp, by simp, by simp, by simp, by simp, by simp, by simp, by simp, by simp, by simp⟩, by simp⟩
    refine ⟨τ, ?_, e2⟩
    have hoff : offF b L n unit = offL (lts ((b.take to).drop fr) 0) unit fr to := by
      unfold offF
      rw [if_neg hn0]
      simp only [Int.toNat_natCast, List.getElem?_eq_getElem hn, hx]
      rw [← hfr, ← hto]
    rw [hoff, ← e1]
    simp
  exact ev_pure (fd := f21) rfl (by simp [f21]) rfl hr hg.H hg.W (by simp)
end Go.Proofs.Ytmeelljhimeedaa
namespace Go.Proofs.Ytmeelljhimeedaa
open Go.Proofs.Ytmeelljhimeedaa.Ab
set_option linter.unusedVariables false
set_option linter.unusedSimpArgs false
attribute [local simp] Gr.refl Gr.new Gr.set Gr.kill Nat.add_assoc
attribute [local simp] r_cks chk_x chk_n
theorem lts_sz {s : List UInt8} : ∀ (n i : Nat), s.length ≤ i + n → ∀ x ∈ lts s i, (x.2.1 = -1 ∧ x.2.2 = 1) ∨ ∃ r : Nat, x.2.1 = r ∧ szU r = x.2.2 ∧ r ≤ 1114111 ∧ ¬ (55296 ≤ r ∧ r ≤ 57343) := by
  intro n
  induction n with
  | zero => intro i hn x hx; rw [lts_end (by omega)] at hx; simp at hx
  | succ n ih =>
    intro i hn x hx
    by_cases h : i < s.length
    · rw [lts_at h] at hx
      have hp := sp_pos h
      rcases List.mem_cons.1 hx with rfl | hx
      · simp only [sp]
        cases hl : lt1 s i with
        | none => exact .inl ⟨rfl, rfl⟩
        | some y => obtain ⟨r, k⟩ := y; exact .inr ⟨r, rfl, lt1_size hl⟩
      · exact ih (i + (sp s i).2) (by omega) x hx
    · rw [lts_end h] at hx; simp at hx
theorem lts_len {s : List UInt8} : ∀ (n i : Nat), s.length = i + n → (lts s i).length ≤ n := by
  intro n
  induction n using Nat.strongRecOn with
  | ind n ih =>
    intro i hn
    by_cases h : i < s.length
    · rw [lts_at h]
      have hp := sp_pos h
      have := ih (n - (sp s i).2) (by omega) (i + (sp s i).2) (by omega)
      simp; omega
    · rw [lts_end h]; simp
def lineL (L : List Nat) (at' line : Nat) : Nat := if h : line + 1 < L.length then if L[line + 1] ≤ at' then lineL L at' (line + 1) else line else line
termination_by L.length - line
theorem lineL_lt {L : List Nat} {at' line : Nat} (h : line < L.length) : lineL L at' line < L.length := by
  rw [lineL]
  split
  · split
    · exact lineL_lt (by omega)
    · exact h
  · exact h
termination_by L.length - line
theorem line_loop {E : En Try.prog} {σ : St} {lv : V} {L : List Nat} {at' : Nat} (hl : Rd σ 1 lv (L.map intE)) (hL : L.length < 2 ^ 41) {dd : Bool} {rs : List RC} {s : List SE} {B : D} (hB : B = b20_0) :
    ∀ (n line : Nat) (f : Fr), L.length ≤ line + n → line < L.length → f.ds = [] → f.env 1 = lv → f.env 2 = .int .i64 at' → f.env 7 = .int .i64 line →
      Lands E dd rs s (fun f' σ' => σ' = σ ∧ f'.ds = [] ∧ f'.env 0 = f.env 0 ∧ f'.env 1 = lv ∧ f'.env 2 = f.env 2 ∧ f'.env 6 = f.env 6 ∧ f'.env 7 = .int .i64 (lineL L at' line)) (run E dd rs (.d (.loop [0, 1, 2, 6, 7] B) :: .blk 0 :: s) f σ)
  | 0, line, f, hn, hlt, _, _, _, _ => by omega
  | n + 1, line, f, hn, hlt, hd, h1, h2, h7 => by
    rw [r_loopU hB, lineL]
    have hll : lenV lv = some (.int .i64 L.length) := by simpa using hl.len
    obtain ⟨j, hj⟩ : ∃ j, j = line + 1 := ⟨_, rfl⟩
    have hw : IntKind.i64.wrap ((line : Int) + 1) = (j : Int) := by rw [IntWalk.i64_in _ (by omega)]; omega
    rw [← hj]
    by_cases h : j < L.length
    · rw [dif_pos h]
      have hat := Rd.at hl (k := .i64) (i := j) (by simpa using h)
      have hel := Rd.el hl (i := j) (e := intE L[j]) (by simp [h])
      simp only [intE, List.getElem?_cons_zero] at hel
      by_cases h3 : L[j] ≤ at'
      · rw [if_pos h3]
        simp [b20_0, h1, h2, h7, hd, hll, hw, h, hat, hel, h3]
        exact .mono (line_loop (at' := at') hl hL hB n j _ (by omega) h rfl (by simp) (by simp [h2]) (by simp)) fun f' σ' h => by simpa [h2] using h
      · rw [if_neg h3]
        simp [b20_0, h1, h2, h7, hd, hll, hw, h, hat, hel, h3]
        exact .here (by simp [h2])
    · rw [dif_neg h]
      simp [b20_0, h1, h2, h7, hd, hll, hw, h]
      exact .here (by simp [h2])
def placeL : List (Nat × Int × Nat) → Nat → Nat → Nat → Nat
  | [], n, _, _ => n
  | (a, r, k) :: ls, n, from', to => if to < from' + a + k then n else placeL ls (n + uni r) from' to
structure PlaI (σ0 σ : St) (e : Env) (m p : Nat) (v : V) (sub : List UInt8) (n from' to line : Nat) : Prop where
  gr : Gr σ0 σ
  q : σ0.n ≤ p ∧ p ≠ m ∧ σ0.n ≤ m
  hm : σ.H m = some (.lp .busy)
  hp : σ.H p = some (.row 1 [[v]])
  hv : Bs σ0 v sub
  ho : v.old σ0
  e7 : e 7 = .int .i64 line
  rs : ∃ r6 r8 r9 r10, e 6 = .ptr r6 0 0 ∧ e 8 = .ptr r8 0 0 ∧ e 9 = .ptr r9 0 0 ∧ e 10 = .ptr r10 0 0 ∧ σ.H r6 = some (.row 2 [[.int .i64 0, .int .i64 0]]) ∧ σ.H r8 = some (.row 1 [[.int .i64 from']]) ∧ σ.H r9 = some (.row 1 [[.int .i64 to]]) ∧ σ.H r10 = some (.row 1 [[.int .i64 n]]) ∧
    r10 ≠ r6 ∧ r10 ≠ r8 ∧ r10 ≠ r9 ∧ r10 ≠ p ∧ r6 ≠ m ∧ r8 ≠ m ∧ r9 ≠ m ∧ r10 ≠ m ∧ σ0.n ≤ r6 ∧ σ0.n ≤ r10
def placeX : D := .kb [6, 7, 10] (.seq (.reg [⟨some 80, none, .mv (.t 7)⟩, ⟨some 81, none, .ld (.t 10)⟩, ⟨some 82, none, .build [.int .i64 0, .int .i64 0] [(0, 1, .t 80), (1, 1, .t 81)]⟩, ⟨none, none, .st 2 (.t 6) (.t 82)⟩]) .ret)
theorem pla_loop {σ0 : St} {v : V} {sub : List UInt8} {from' to line : Nat} (hb : sub.length < 2 ^ 40) (hf : from' < 2 ^ 40) {e : Env} {m p : Nat} {A B : D} (hA : A = b20_1) (hB : B = b20_2) :
    ∀ (ls : List (Nat × Int × Nat)) (i n : Nat) (f : Fr) (σ : St), (lts sub 0).drop i = ls → n ≤ 2 * i → PlaI σ0 σ e m p v sub n from' to line →
      ∃ τ, run ET false [.c 6 (some 2)] (.rnd e [] m [58, 59] A B 19 [.ptr p 0 0] (.str sub) ((lts sub 0).map ltV) i :: .blk 2 :: [.d placeX]) f σ = some (.ret (.agg [.int .i64 line, .int .i64 (placeL ls n from' to)]), τ) ∧ Gr σ0 τ
  | [], i, n, f, σ, hl, _, hq => by
    obtain ⟨r6, r8, r9, r10, a1, a2, a3, a4, b1, b2, b3, b4, n1, n2, n3, n4, n5, n6, n7, n8, l1, l2⟩ := hq.rs
    have hlen := congrArg List.length hl
    simp at hlen
    have g1 := hq.gr.set hq.q.2.2 (.lp .ready)
    rw [rnd_end hq.hm (it_box (v := v) (by simp [hq.q.2.1, hq.hp]) (hq.hv.gr g1 hq.ho) hb) (by simp; omega)]
    refine ⟨_, by simp [placeX, a1, a4, hq.e7, b1, b4, n5, n8, fin_coll, placeL]; rfl, ?_⟩
    exact (hq.gr.kill hq.q.2.2).set l1 _
  | (a, r, k) :: ls, i, n, f, σ, hl, hn, hq => by
    obtain ⟨r6, r8, r9, r10, a1, a2, a3, a4, b1, b2, b3, b4, n1, n2, n3, n4, n5, n6, n7, n8, l1, l2⟩ := hq.rs
    have hat : (lts sub 0)[i]? = some (a, r, k) := by
      have := congrArg (·[0]?) hl
      simpa using this
    have hmem : (a, r, k) ∈ lts sub 0 := List.mem_of_getElem? hat
    have hilt : i < (lts sub 0).length := (List.getElem?_eq_some_iff.1 hat).1
    have hll := lts_len (s := sub) sub.length 0 (by omega)
    have hin := lts_in sub.length 0 (by omega) _ hmem
    have hsz := lts_sz sub.length 0 (by omega) _ hmem
    simp only at hin hsz
    have hnext : (lts sub 0).drop (i + 1) = ls := by rw [← List.drop_drop, hl]; rfl
    have g1 := hq.gr.set hq.q.2.2 (.lp .ready)
    have hu := units_ev (E := ET) rfl (σ := σ) r
    rw [rnd_at (e' := (setPs e [58, 59] (ltV (a, r, k))).put (some 11) (.int .i64 a) |>.put (some 12) (.int .i32 r)) hB hq.hm (it_box (v := v) (by simp [hq.q.2.1, hq.hp]) (hq.hv.gr g1 hq.ho) hb) (by simp [hat]; rfl) rfl (by rw [hA]; rfl)]
    have e31 : ∀ (t : Nat), ((setPs e [58, 59] (ltV (a, r, k))).put (some 11) (.int .i64 a) |>.put (some 12) (.int .i32 r)) t = if t = 12 then .int .i32 r else if t = 11 then .int .i64 a else (if t = 59 then .int .i32 r else if t = 58 then .int .i64 a else e t) := fun t => rfl
    generalize ((setPs e [58, 59] (ltV (a, r, k))).put (some 11) (.int .i64 a) |>.put (some 12) (.int .i32 r)) = e' at e31
    obtain ⟨c1, hc1⟩ : ∃ c1, c1 = from' + a := ⟨_, rfl⟩
    obtain ⟨c2, hc2⟩ : ∃ c2, c2 = c1 + k := ⟨_, rfl⟩
    have hw1 : IntKind.i64.wrap ((from' : Int) + a) = (c1 : Int) := by rw [IntWalk.i64_in _ (by omega)]; omega
    have hw2 : IntKind.i64.wrap ((c1 : Int) + k) = (c2 : Int) := by rw [IntWalk.i64_in _ (by omega)]; omega
    have huni : uni r = 1 ∨ uni r = 2 := by unfold uni; split <;> simp
    obtain ⟨n', hn'⟩ : ∃ n', n' = n + uni r := ⟨_, rfl⟩
    have hw3 : IntKind.i64.wrap ((n : Int) + uni r) = (n' : Int) := by rw [IntWalk.i64_in _ (by omega)]; omega
    have hpl : placeL ((a, r, k) :: ls) n from' to = if to < c2 then n else placeL ls n' from' to := by simp only [placeL, hc2, hc1, hn']
    have ih := fun f' => pla_loop (from' := from') (to := to) (line := line) hb hf hA hB ls (i + 1) n' f' (σ.set r10 (.row 1 [[.int .i64 n']])) hnext (by omega)
      ⟨hq.gr.set l2 _, hq.q, by simp [Ne.symm n8, hq.hm], by simp [Ne.symm n4, hq.hp], hq.hv, hq.ho, hq.e7, ⟨r6, r8, r9, r10, a1, a2, a3, a4, by simp [Ne.symm n1, b1], by simp [Ne.symm n2, b2], by simp [Ne.symm n3, b3], by simp, n1, n2, n3, n4, n5, n6, n7, n8, l1, l2⟩⟩
    rw [hpl]
    rcases hsz with ⟨rfl, rfl⟩ | ⟨r, rfl, hs, hr1, hr2⟩
    · have hw2' : IntKind.i64.wrap ((c1 : Int) + 1) = (c2 : Int) := hw2
      by_cases hc : to < c2
      · rw [if_pos hc]
        refine ⟨_, by simp [b20_2, e31, a1, a2, a3, a4, hw1, hw2', b1, b2, b3, b4, hc, hq.hm, n5, n8, fin_coll, placeX, hq.e7]; rfl, ?_⟩
        exact (hq.gr.kill hq.q.2.2).set l1 _
      · rw [if_neg hc]
        simp [b20_2, e31, a1, a2, a3, a4, hw1, hw2', hw3, b1, b2, b3, b4, hc, hu]
        obtain ⟨τ, h1, h2⟩ := ih _
        refine ⟨τ, ?_, h2⟩
        rw [h1]
    · obtain ⟨bs, hbs, he⟩ := encode_ev (E := ET) rfl (σ := σ) hr1 hr2
      rw [hs] at hbs
      have hr0 : (0 : Int) ≤ r := by omega
      by_cases hc : to < c2
      · rw [if_pos hc]
        refine ⟨_, by simp [b20_2, e31, a1, a2, a3, a4, hw1, hw2, b1, b2, b3, b4, hc, hq.hm, n5, n8, fin_coll, placeX, hq.e7, he, hbs, hr0]; rfl, ?_⟩
        exact (hq.gr.kill hq.q.2.2).set l1 _
      · rw [if_neg hc]
        simp [b20_2, e31, a1, a2, a3, a4, hw1, hw2, hw3, b1, b2, b3, b4, hc, hu, he, hbs, hr0]
        obtain ⟨τ, h1, h2⟩ := ih _
        refine ⟨τ, ?_, h2⟩
        rw [h1]
def placeF (b : List UInt8) (L : List Nat) (at' : Int) : Int × Int :=
  let a := min at'.toNat b.length
  let line := lineL L a 0
  let fr := min (L[line]?.getD 0) b.length
  (line, placeL (lts (b.drop fr) 0) 0 fr (min a (endL b fr)))
theorem place_ev {σ : St} {v lv : V} {b : List UInt8} {L : List Nat} {at' : Int} (hv : Bs σ v b) (ho : v.old σ) (hl : Rd σ 1 lv (L.map intE)) (hlo : lv.old σ) (hb : b.length < 2 ^ 40) (hL : L.length < 2 ^ 41) (h0 : 0 < L.length) :
    ev ET 20 [v, lv, .int .i64 at'] σ = some (.ret (.agg [.int .i64 (placeF b L at').1, .int .i64 (placeF b L at').2]), σ) := by
  have hll : lenV lv = some (.int .i64 L.length) := by simpa using hl.len
  obtain ⟨τ, hr, hg⟩ : ∃ τ, run ET false f20.res [.d f20.body] ⟨envOf [v, lv, .int .i64 at'], []⟩ σ = some (.ret (.agg [.int .i64 (placeF b L at').1, .int .i64 (placeF b L at').2]), τ) ∧ Gr σ τ := by
    obtain ⟨a, ha⟩ : ∃ a, a = min at'.toNat b.length := ⟨_, rfl⟩
    have hmm : (if (b.length : Int) < (if at' < 0 then 0 else at') then (b.length : Int) else if at' < 0 then 0 else at') = (a : Int) := by
      rw [ha]; split <;> split <;> omega
    have hg := (Gr.refl σ).new (.row 2 [[.int .i64 0, .int .i64 0]])
    obtain ⟨line, hline⟩ : ∃ line, line = lineL L a 0 := ⟨_, rfl⟩
    have hlt : line < L.length := by rw [hline]; exact lineL_lt h0
    obtain ⟨x, hx⟩ : ∃ x, L[line] = x := ⟨_, rfl⟩
    obtain ⟨fr, hfr⟩ : ∃ fr, fr = min x b.length := ⟨_, rfl⟩
    obtain ⟨ed, hed⟩ : ∃ ed, ed = endL b fr := ⟨_, rfl⟩
    have hmx := maxV x
    have hmn := minV x b.length
    rw [← hfr] at hmn
    have hfl : fr ≤ b.length := hfr ▸ Nat.min_le_right _ _
    obtain ⟨to, hto⟩ : ∃ to, to = min a ed := ⟨_, rfl⟩
    have hmt := minV a ed
    rw [← hto] at hmt
    have hat' : ∀ σ', Gr σ σ' → iaV σ' 1 lv (.int .i64 line) = some (elA lv line) := fun σ' g => Rd.at (hl.gr g hlo) (by simpa using hlt)
    have hel' : ∀ σ', Gr σ σ' → ldV σ' (elA lv line) = some (.int .i64 x) := fun σ' g => by
      have := Rd.el (hl.gr g hlo) (i := line) (e := intE L[line]) (by simp [hlt])
      simpa [intE, hx] using this
    have hend : ∀ σ', Gr σ σ' → ev ET 23 [v, .int .i64 fr] σ' = some (.ret (.int .i64 ed), σ') := fun σ' g => by rw [hed]; exact end_ev rfl (hv.gr g ho) hb
    have hcut : ∀ σ' env (lo : Opd), Gr σ σ' → lo.ev env = .int .i64 fr → lslV env σ' 1 v (some lo) none = some (cutV v fr b.length) := fun σ' env lo g e1 => (hv.gr g ho).lslFrom e1 hfl
    have hlet : ∀ σ', ev ET 8 [cutV v fr b.length] σ' = some (.ret (.func (.func 19) [] [.ptr σ'.n 0 0]), σ'.new (.row 1 [[cutV v fr b.length]])) := fun σ' => letters_ev (hv.cut hfl (Nat.le_refl _)).scal
    have hL0 : ¬ L = [] := List.length_pos_iff.1 h0
    simp [f20, d20, hv.len, hmm]
    refine Lands.to (C := fun r => ∃ τ, r = some (CO.ret (.agg [.int .i64 (placeF b L at').1, .int .i64 (placeF b L at').2]), τ) ∧ Gr σ τ) (line_loop (at' := a) (hl.gr hg hlo) hL rfl L.length 0 _ (by omega) h0 rfl (by simp) (by simp) (by simp)) ?_
    rintro f' _ ⟨rfl, hd, g0, g1, g2, g6, g7⟩
    rw [← hline] at g7
    simp at g0 g2 g6
    simp (maxDischargeDepth := 12) [hd, g0, g1, g2, g6, g7, hll, hL0, hv.len, hat', hel', hmx, hmn, hend, hmt, hcut, hlet]
    rw [rng_in (.t 57) rfl (by simp) (it_box (p := σ.n + 4) (v := cutV v fr b.length) (b := (b.take b.length).drop fr) (by simp) ((hv.cut hfl (Nat.le_refl _)).gr (by simp (maxDischargeDepth := 12)) (V.old_cut ho fr b.length)) (by simp; omega))]
    have hsub : ((b.take b.length).drop fr).length < 2 ^ 40 := by simp; omega
    obtain ⟨τ, e1, e2⟩ := pla_loop (σ0 := σ) (v := cutV v fr b.length) (from' := fr) (to := to) (line := line) hsub (by omega) (e := lk [6, 7, 8, 9, 10, 57] [.ptr σ.n 0 0, .int .i64 line, .ptr (σ.n + 1) 0 0, .ptr (σ.n + 2) 0 0, .ptr (σ.n + 3) 0 0, .func (.func 19) [] [.ptr (σ.n + 4) 0 0]]) (m := σ.n + 5) (p := σ.n + 4) (A := b20_1) (B := b20_2) rfl rfl (lts ((b.take b.length).drop fr) 0) 0 0
      ⟨lk [6, 7, 8, 9, 10, 57] [.ptr σ.n 0 0, .int .i64 line, .ptr (σ.n + 1) 0 0, .ptr (σ.n + 2) 0 0, .ptr (σ.n + 3) 0 0, .func (.func 19) [] [.ptr (σ.n + 4) 0 0]], []⟩
      (((((((((σ.new (.row 2 [[.int .i64 0, .int .i64 0]])).new (.row 1 [[.int .i64 0]])).set (σ.n + 1) (.row 1 [[.int .i64 fr]])).new (.row 1 [[.int .i64 0]])).set (σ.n + 2) (.row 1 [[.int .i64 to]])).new (.row 1 [[.int .i64 0]])).set (σ.n + 3) (.row 1 [[.int .i64 0]])).new (.row 1 [[cutV v fr b.length]])).new (.lp .busy))
      rfl (by omega)
      ⟨by simp (maxDischargeDepth := 12), by simp, by simp, by simp, hv.cut hfl (Nat.le_refl _), V.old_cut ho fr b.length, by simp, ⟨σ.n, σ.n + 1, σ.n + 2, σ.n + 3, by simp, by simp, by simp, by simp, by simp, by simp, by simp, by simp, by simp, by simp, by simp, by simp, by simp, by simp, by simp, by simp, by simp, by simp⟩⟩
    refine ⟨τ, ?_, e2⟩
    have hpl : placeF b L at' = ((line : Int), ((placeL (lts ((b.take b.length).drop fr) 0) 0 fr to : Nat) : Int)) := by
      unfold placeF
      simp only [← ha, ← hline, List.getElem?_eq_getElem hlt, hx, Option.getD_some, ← hfr, ← hed, ← hto, List.take_length]
    rw [hpl]
    simp only
    rw [← e1]
    simp [placeX]
  exact ev_pure (fd := f20) rfl (by simp [f20]) rfl hr hg.H hg.W (by simp)
end Go.Proofs.Ytmeelljhimeedaa
namespace Go.Proofs.Ytmeelljhimeedaa
open Go.Proofs.Ytmeelljhimeedaa.Ab
set_option linter.unusedVariables false
set_option linter.unusedSimpArgs false
attribute [local simp] Gr.refl Gr.new Gr.set Gr.kill Nat.add_assoc
/-- A change. -/
structure Ch where
  rg : Bool
  l1 : Int
  u1 : Int
  l2 : Int
  u2 : Int
  text : List UInt8
def Ch.ok (c : Ch) : Prop := (IntKind.i64.min ≤ c.l1 ∧ c.l1 ≤ IntKind.i64.max) ∧ (IntKind.i64.min ≤ c.u1 ∧ c.u1 ≤ IntKind.i64.max) ∧ (IntKind.i64.min ≤ c.l2 ∧ c.l2 ≤ IntKind.i64.max) ∧ (IntKind.i64.min ≤ c.u2 ∧ c.u2 ≤ IntKind.i64.max)
def chE (c : Ch) : List V := [.bool c.rg, .int .i64 c.l1, .int .i64 c.u1, .int .i64 c.l2, .int .i64 c.u2, .str c.text]
/-- An edit. -/
structure Ed where
  fr : Nat
  to : Nat
  sz : Nat
def edE (e : Ed) : List V := [.int .i64 e.fr, .int .i64 e.to, .int .i64 e.sz]
def linesF (b : List UInt8) : List Nat := 0 :: lns b 0
def editF (b : List UInt8) (c : Ch) : Ed :=
  if c.rg then ⟨offF b (linesF b) c.l1 c.u1, max (offF b (linesF b) c.l1 c.u1) (offF b (linesF b) c.l2 c.u2), c.text.length⟩ else ⟨0, b.length, c.text.length⟩
theorem maxN (a c : Nat) : (if a < c then (c : Int) else a) = ((max a c : Nat) : Int) := by split <;> omega
theorem edit_ev {σ : St} {v lv : V} {b : List UInt8} {c : Ch} (hc : c.ok) (hv : Bs σ v b) (ho : v.old σ) (hl : Rd σ 1 lv ((linesF b).map intE)) (hlo : lv.old σ) (hb : b.length < 2 ^ 40) :
    ev ET 15 [v, lv, .agg (chE c)] σ = some (.ret (.agg (edE (editF b c))), σ) := by
  obtain ⟨rg, l1, u1, l2, u2, t⟩ := c
  obtain ⟨_, h1, _, h2⟩ := hc
  simp only at h1 h2
  obtain ⟨τ, hr, hg⟩ : ∃ τ, run ET false f15.res [.d f15.body] ⟨envOf [v, lv, .agg (chE ⟨rg, l1, u1, l2, u2, t⟩)], []⟩ σ = some (.ret (.agg (edE (editF b ⟨rg, l1, u1, l2, u2, t⟩))), τ) ∧ Gr σ τ := by
    cases rg with
    | false => exact ⟨_, by simp [f15, d15, chE, editF, edE, hv.len]; rfl, by simp (maxDischargeDepth := 12)⟩
    | true =>
      have hof : ∀ l u, (IntKind.i64.min ≤ u ∧ u ≤ IntKind.i64.max) → ∀ σ', Gr σ σ' → ev ET 21 [v, lv, .agg [.int .i64 l, .int .i64 u]] σ' = some (.ret (.int .i64 (offF b (linesF b) l u)), σ') := fun l u hu σ' g => offset_ev (hv.gr g ho) (V.old_gr ho g) (hl.gr g hlo) (V.old_gr hlo g) hb hu
      have ho1 := hof l1 u1 h1
      have ho2 := hof l2 u2 h2
      exact ⟨_, by simp (maxDischargeDepth := 12) [f15, d15, chE, editF, edE, hv.len, ho1, ho2, maxN]; rfl, by simp (maxDischargeDepth := 12)⟩
  exact ev_pure (fd := f15) rfl (by simp [f15]) rfl hr hg.H hg.W (by simp [edE])
def spliceF (b : List UInt8) (e : Ed) (s : List UInt8) : List UInt8 := b.take e.fr ++ s ++ b.drop e.to
theorem byteE_pure (b : List UInt8) : ∀ e ∈ b.map byteE, ∀ u ∈ e, u.pure = true := fun e he u hu => by
  simp at he; obtain ⟨c, _, rfl⟩ := he; simp [byteE] at hu; subst hu; rfl
theorem spliced_ev {σ : St} {v : V} {b s : List UInt8} {e : Ed} (hv : Bs σ v b) (ho : v.old σ) (h1 : e.fr ≤ e.to) (h2 : e.to ≤ b.length) (hb : b.length < 2 ^ 40) (hs : s.length < 2 ^ 40) :
    ev ET 16 [v, .agg (edE e), .str s] σ = some (.ret (.islc 1 ((spliceF b e s).map byteE)), σ) := by
  obtain ⟨fr, to, sz⟩ := e
  simp only at h1 h2
  obtain ⟨m1, e1⟩ : ∃ m, m = to - fr := ⟨_, rfl⟩
  obtain ⟨m2, e2⟩ : ∃ m, m = b.length - m1 := ⟨_, rfl⟩
  obtain ⟨m3, e3⟩ : ∃ m, m = m2 + s.length := ⟨_, rfl⟩
  have w1 : IntKind.i64.wrap ((to : Int) - fr) = (m1 : Int) := by rw [IntWalk.i64_in _ (by omega)]; omega
  have w2 : IntKind.i64.wrap ((b.length : Int) - m1) = (m2 : Int) := by rw [IntWalk.i64_in _ (by omega)]; omega
  have w3 : IntKind.i64.wrap ((m2 : Int) + s.length) = (m3 : Int) := by rw [IntWalk.i64_in _ (by omega)]; omega
  have w4 : (m3 : Int) ≤ 70368744177664 := by omega
  have g1 : Gr σ (σ.new (.row 3 [edE ⟨fr, to, sz⟩])) := (Gr.refl σ).new _
  have q0 := Own.new (σ0 := σ.new (.row 3 [edE ⟨fr, to, sz⟩])) (Gr.refl _) 1 [] (n := 0) rfl
  obtain ⟨u1, τ1, a1, q1, k1⟩ := q0.appA (y := cutV v 0 fr) (ys := ((b.take fr).drop 0).map byteE) (srcOf_rd ((hv.cut (by omega) (by omega)).gr (g1.trans q0.gr) (V.old_cut ho 0 fr))) (bytes := 1) (by simp [reach]; omega) (by simp [reach]; omega)
  obtain ⟨u2, τ2, a2, q2, k2⟩ := q1.appA (y := .str s) (ys := s.map byteE) (by simp [srcOf]) (bytes := 1) (by simp [reach]; omega) (by simp [reach]; omega)
  obtain ⟨u3, τ3, a3, q3, k3⟩ := q2.appA (y := cutV v to b.length) (ys := ((b.take b.length).drop to).map byteE) (srcOf_rd ((hv.cut h2 (Nat.le_refl _)).gr (g1.trans q2.gr) (V.old_cut ho to b.length))) (bytes := 1) (by simp [reach]; omega) (by simp [reach]; omega)
  have c1 : ∀ σ' env (hi : Opd), Gr σ σ' → hi.ev env = .int .i64 fr → lslV env σ' 1 v none (some hi) = some (cutV v 0 fr) := fun σ' env hi g e => (hv.gr g ho).lslTo e (by omega)
  have c2 : ∀ σ' env (lo : Opd), Gr σ σ' → lo.ev env = .int .i64 to → lslV env σ' 1 v (some lo) none = some (cutV v to b.length) := fun σ' env lo g e => (hv.gr g ho).lslFrom e h2
  have n1 : τ1.H σ.n = some (.row 3 [edE ⟨fr, to, sz⟩]) := (q1.gr.H σ.n (by simp)).trans (by simp)
  have n2 : τ2.H σ.n = some (.row 3 [edE ⟨fr, to, sz⟩]) := (q2.gr.H σ.n (by simp)).trans (by simp)
  have g2 := g1.trans q2.gr
  simp [edE] at a1 n1 n2
  have hne : u3 ≠ .nils := k3 (k2 (k1 (by simp)))
  have q := q3.base g1
  have hes : ([] ++ ((b.take fr).drop 0).map byteE ++ s.map byteE ++ ((b.take b.length).drop to).map byteE) = (spliceF b ⟨fr, to, sz⟩ s).map byteE := by simp [spliceF]
  rw [hes] at q
  refine ev_pure (fd := f16) (o := .ret u3) (σ' := τ3) rfl (by simp [f16]) rfl ?_ q.gr.H q.gr.W ?_
  · simp (maxDischargeDepth := 12) [f16, d16, edE, hv.len, w1, w2, w3, w4, reach, c1, a1, a2, n1, n2, g2, c2, a3]
  · simp only [frzO_ret]
    rw [q.frzV (byteE_pure _), told_is hne]
end Go.Proofs.Ytmeelljhimeedaa
