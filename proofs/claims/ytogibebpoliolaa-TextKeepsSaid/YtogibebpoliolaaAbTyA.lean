/-
The walk over the program's texts, told with what its values say: a part of it. No further condition.
-/
import Derived.Test.YtogibebpoliolaaAbTxR
namespace Go.Proofs.Ytogibebpoliolaa
open Go.Proofs.Ytogibebpoliolaa.Ab
set_option linter.unusedVariables false
set_option linter.unusedSimpArgs false
theorem rlines_loop {σ0 : St} {v : V} {b : List UInt8} (hv : Bs σ0 v b) (ho : v.old σ0) (hb : b.length < 2 ^ 40) {dd : Bool} {rs : List RC} {s : List SE} {B : D} (hB : B = b21_0) :
    ∀ (n i : Nat) (acc : List Nat) (f : Fr) (σ : St), b.length = i + n → acc.length ≤ i + 1 → f.ds = [] → f.env 0 = v → f.env 4 = .int .i64 ((i + 1 : Nat) : Int) → Own σ0 σ 1 (f.env 3) (acc.map intE) →
      Lands ET dd rs s (fun f' σ' => f'.ds = [] ∧ Own σ0 σ' 1 (f'.env 3) ((acc ++ lns b i).map intE)) (run ET dd rs (.d (.loop [0, 3, 4] B) :: .blk 0 :: s) f σ)
  | 0, i, acc, f, σ, hn, ha, hd, h0, h4, hq => by
    rw [r_loopU hB, lns, dif_neg (by omega)]
    have hv' := hv.gr hq.gr ho
    obtain ⟨j, hj⟩ : ∃ j, j = i + 1 := ⟨_, rfl⟩
    rw [← hj] at h4
    have h : ¬ j ≤ b.length := by omega
    simp [b21_0, h0, h4, h, hd, hv'.len]
    exact .here ⟨by simp, by simpa using hq⟩
  | n + 1, i, acc, f, σ, hn, ha, hd, h0, h4, hq => by
    rw [r_loopU hB, lns]
    have h : i < b.length := by omega
    have hv' := hv.gr hq.gr ho
    have h1 : b[i]? = some b[i] := by simp
    have ld := hv'.ld h1
    have k10 := u8n (c := b[i]) (n := 10) (by omega)
    have k13 := u8n (c := b[i]) (n := 13) (by omega)
    rw [dif_pos h]
    obtain ⟨j, hj⟩ : ∃ j, j = i + 1 := ⟨_, rfl⟩
    rw [← hj] at h4 ⊢
    have hle : j ≤ b.length := by omega
    have hs : IntKind.i64.wrap ((j : Int) - 1) = (i : Int) := by rw [IntWalk.i64_in _ (by omega)]; omega
    have hw : IntKind.i64.wrap ((j : Int) + 1) = ((j + 1 : Nat) : Int) := by rw [IntWalk.i64_in _ (by omega)]; omega
    obtain ⟨j', hj'⟩ : ∃ j', j' = j + 1 := ⟨_, rfl⟩
    rw [← hj'] at hw
    obtain ⟨u, τ, ap, hq'⟩ := hq.app1 [intE j] (by simp) (bytes := 8) (by simp [reach]; omega) (by simp [reach]; omega) (n := 1) rfl
    have hyes : ∀ g : Fr, g.ds = [] → g.env 0 = v → g.env 4 = .int .i64 j' → g.env 3 = u → _ := fun g g1 g2 g3 g4 => rlines_loop hv ho hb (dd := dd) (rs := rs) (s := s) hB n j (acc ++ [j]) g τ (by omega) (by simp; omega) g1 g2 (by rw [g3, hj']) (by rw [g4]; simpa using hq')
    have hno : ∀ g : Fr, g.ds = [] → g.env 0 = v → g.env 4 = .int .i64 j' → g.env 3 = f.env 3 → _ := fun g g1 g2 g3 g4 => rlines_loop hv ho hb (dd := dd) (rs := rs) (s := s) hB n j acc g σ (by omega) (by omega) g1 g2 (by rw [g3, hj']) (by rw [g4]; exact hq)
    simp only [List.append_assoc, List.singleton_append] at hyes
    by_cases c1 : b[i] = 10
    · have c1' : ((b[i].toNat : Int) = 10) := by rw [c1]; rfl
      have hbr : brk b i := .inl (by rw [h1, c1])
      rw [if_pos hbr]
      simp [intE] at ap
      simp [b21_0, h0, h4, hd, hv'.len, h, hle, hs, hv'.at, ld, c1', c1, hw, ap]
      exact .mono (hyes _ rfl (by simp) (by simp) (by simp)) fun _ _ h => by simpa using h
    have c1' : ¬ ((b[i].toNat : Int) = 10) := fun e => c1 (k10.1 e)
    by_cases c2 : b[i] = 13
    · have c2' : ((b[i].toNat : Int) = 13) := by rw [c2]; rfl
      by_cases c3 : j = b.length
      · have c3' : (j : Int) = b.length := by omega
        have hbr : brk b i := .inr ⟨by rw [h1, c2], by rw [List.getElem?_eq_none (by omega)]; simp⟩
        rw [if_pos hbr]
        simp [intE] at ap
        simp [b21_0, h0, h4, hd, hv'.len, h, hle, hs, hv'.at, ld, c1', c2', eq_true c3', hw, ap]
        exact .mono (hyes _ rfl (by simp) (by simp) (by simp)) fun _ _ h => by simpa using h
      · have hjl : j < b.length := by omega
        have c3' : ¬ (j : Int) = b.length := by omega
        have hl2 := hv'.ld (i := j) (c := b[j]) (by simp)
        have k := u8n (c := b[j]) (n := 10) (by omega)
        by_cases c4 : b[j] = 10
        · have c4' : ((b[j].toNat : Int) = 10) := by rw [c4]; rfl
          have hbr : ¬ brk b i := by
            rintro (e | ⟨_, e⟩)
            · rw [h1] at e; simp at e; exact c1 e
            · apply e; rw [← hj]; simp [hjl, c4]
          rw [if_neg hbr]
          simp [b21_0, h0, h4, hd, hv'.len, h, hle, hs, hv'.at, ld, c1', c2', c3', hw, hjl, hl2, c4']
          exact .mono (hno _ rfl (by simp) (by simp) (by simp)) fun _ _ h => by simpa using h
        · have c4' : ¬ ((b[j].toNat : Int) = 10) := fun e => c4 (k.1 e)
          have hbr : brk b i := .inr ⟨by rw [h1, c2], by rw [← hj]; simp [hjl]; exact c4⟩
          rw [if_pos hbr]
          simp [intE] at ap
          simp [b21_0, h0, h4, hd, hv'.len, h, hle, hs, hv'.at, ld, c1', c2', c3', hw, hjl, hl2, c4', ap]
          exact .mono (hyes _ rfl (by simp) (by simp) (by simp)) fun _ _ h => by simpa using h
    · have c2' : ¬ ((b[i].toNat : Int) = 13) := fun e => c2 (k13.1 e)
      have hbr : ¬ brk b i := by
        rintro (e | ⟨e, _⟩) <;> (rw [h1] at e; simp at e)
        · exact c1 e
        · exact c2 e
      rw [if_neg hbr]
      simp [b21_0, h0, h4, hd, hv'.len, h, hle, hs, hv'.at, ld, c1', c2', hw]
      exact .mono (hno _ rfl (by simp) (by simp) (by simp)) fun _ _ h => by simpa using h
theorem intE_pure (l : List Nat) : ∀ e ∈ l.map intE, ∀ u ∈ e, u.pure = true := fun e he u hu => by
  simp at he; obtain ⟨c, _, rfl⟩ := he; simp [intE] at hu; subst hu; rfl
theorem rlines_ev {σ : St} {v : V} {b : List UInt8} (hv : Bs σ v b) (ho : v.old σ) (hb : b.length < 2 ^ 40) : ∃ u, ev ET 21 [v] σ = some (.ret u, σ) ∧ Tl 1 u ((linesF b).map intE) := by
  have hq := Own.new (Gr.refl σ) 1 [intE 0] (n := 1) rfl
  obtain ⟨f', σ', e, hd, hq'⟩ := rlines_loop hv ho hb (dd := false) (rs := f21.res) (s := [.d (.kb [3] (.seq (.reg [⟨some 45, none, .mv (.t 3)⟩, ⟨some 2, none, .mv (.t 45)⟩]) .ret))]) rfl b.length 0 [0] ⟨lk [0, 3, 4] [v, .slc σ.n 0 1, .int .i64 1], []⟩ (σ.new (.row 1 [intE 0])) (by omega) (by simp) rfl (by simp) (by simp) (by simpa using hq)
  refine ⟨_, ev_pure (fd := f21) (o := .ret (f'.env 3)) (σ' := σ') rfl (by simp [f21]) rfl ?_ hq'.gr.H hq'.gr.W (by simp only [frzO_ret]; rw [hq'.frzV (intE_pure _)]), by simpa [linesF] using hq'.tl⟩
  simp [f21, d21, intE] at e ⊢
  rw [e]
  simp [hd]
theorem rend_loop {σ : St} {v : V} {b : List UInt8} (hv : Bs σ v b) (hb : b.length < 2 ^ 40) {B : D} (hB : B = b34_0) :
    ∀ (n i : Nat) (f : Fr), b.length = i + n → f.ds = [] → f.env 0 = v → f.env 5 = .int .i64 i → run ET false [.t 4] (.d (.loop [0, 5] B) :: .blk 0 :: [.d (.kb [0] (.seq (.reg [⟨some 26, none, .mv (.t 0)⟩, ⟨some 27, none, .llen (.t 26)⟩, ⟨some 4, none, .mv (.t 27)⟩]) .ret))]) f σ = some (.ret (.int .i64 (endL b i)), σ)
  | 0, i, f, hn, hd, h0, h5 => by
    rw [r_loopU hB, endL, dif_neg (by omega)]
    have h : ¬ i < b.length := by omega
    have : b.length = i := by omega
    simp [b34_0, h0, h5, hd, hv.len, h]
    omega
  | n + 1, i, f, hn, hd, h0, h5 => by
    rw [r_loopU hB, endL]
    have h : i < b.length := by omega
    have h1 : b[i]? = some b[i] := by simp
    have ld := hv.ld h1
    have k10 := u8n (c := b[i]) (n := 10) (by omega)
    have k13 := u8n (c := b[i]) (n := 13) (by omega)
    rw [dif_pos h]
    by_cases c1 : b[i] = 10
    · have c1' : ((b[i].toNat : Int) = 10) := by rw [c1]; rfl
      simp [b34_0, h0, h5, hd, hv.len, h, hv.at, ld, c1', c1]
    have c1' : ¬ ((b[i].toNat : Int) = 10) := fun e => c1 (k10.1 e)
    by_cases c2 : b[i] = 13
    · have c2' : ((b[i].toNat : Int) = 13) := by rw [c2]; rfl
      simp [b34_0, h0, h5, hd, hv.len, h, hv.at, ld, c1', c1, c2', c2]
    · have c2' : ¬ ((b[i].toNat : Int) = 13) := fun e => c2 (k13.1 e)
      have hw : IntKind.i64.wrap ((i : Int) + 1) = ((i + 1 : Nat) : Int) := by rw [IntWalk.i64_in _ (by omega)]; omega
      simp [b34_0, h0, h5, hd, hv.len, h, hv.at, ld, c1', c1, c2', c2, hw]
      refine rend_loop hv hb hB n (i + 1) _ (by omega) ?_ ?_ ?_ <;> simp
theorem rend_ev {σ : St} {v : V} {b : List UInt8} (hv : Bs σ v b) (hb : b.length < 2 ^ 40) {i : Nat} (hi : i ≤ b.length) : ev ET 34 [v, .int .i64 i] σ = some (.ret (.int .i64 (endL b i)), σ) := by
  refine ev_same (fd := f34) (o := .ret (.int .i64 (endL b i))) rfl (by simp [f34]) rfl ?_ (by simp)
  simp [f34, d34]
  refine rend_loop hv hb rfl (b.length - i) i _ (by omega) ?_ ?_ ?_ <;> simp
end Go.Proofs.Ytogibebpoliolaa
namespace Go.Proofs.Ytogibebpoliolaa
open Go.Proofs.Ytogibebpoliolaa.Ab
set_option linter.unusedVariables false
set_option linter.unusedSimpArgs false
attribute [local simp] Gr.refl Gr.new Gr.set Gr.kill Nat.add_assoc r_cks chk wantG
theorem roff_loop {σ : St} {u : V} {all : List (Nat × Int × Nat)} (hu : Rd σ 3 u (all.map ltE)) (hal : all.length < 2 ^ 40) {p : Nat} {line unit : Int} (hp : σ.H p = some (.row 2 [[.int .i64 line, .int .i64 unit]])) (hui : IntKind.i64.min ≤ unit ∧ unit ≤ IntKind.i64.max) {fr to : Nat} (hfr : fr < 2 ^ 40) {B : D} (hB : B = b22_0) :
    ∀ (ls : List (Nat × Int × Nat)) (i ah : Nat) (f : Fr), all.drop i = ls → (∀ x ∈ ls, x.1 < 2 ^ 40) → ah ≤ 2 * i → f.ds = [] → f.env 5 = .ptr p 0 0 → f.env 7 = .int .i64 fr → f.env 8 = .int .i64 to → f.env 9 = u → f.env 10 = .int .i64 ah → f.env 11 = .int .i64 i →
      run ET false [.t 6] (.d (.loop [5, 7, 8, 9, 10, 11] B) :: .blk 0 :: [.d (.kb [8] (.seq (.reg [⟨some 76, none, .mv (.t 8)⟩, ⟨some 6, none, .mv (.t 76)⟩]) .ret))]) f σ = some (.ret (.int .i64 (offL ls (unit - ah) fr to)), σ)
  | [], i, ah, f, hl, _, _, hd, h5, h7, h8, h9, h10, h11 => by
    rw [r_loopU hB]
    have hcl : lenV u = some (.int .i64 all.length) := by simpa using hu.len
    have hlen := congrArg List.length hl
    simp at hlen
    have h : ¬ i < all.length := by omega
    simp [b22_0, h5, h7, h8, h9, h10, h11, hcl, h, hd, offL]
  | (a, r, k) :: ls, i, ah, f, hl, hx, ha, hd, h5, h7, h8, h9, h10, h11 => by
    rw [r_loopU hB]
    have hcl : lenV u = some (.int .i64 all.length) := by simpa using hu.len
    have hlen := congrArg List.length hl
    simp at hlen
    have h : i < all.length := by omega
    have hat : all[i]? = some (a, r, k) := by
      have := congrArg (·[0]?) hl
      simpa using this
    have hnext : all.drop (i + 1) = ls := by rw [← List.drop_drop, hl]; rfl
    have hia := Rd.at hu (k := .i64) (i := i) (by simpa using h)
    have hf1 := Rd.fa hu (i := i) (j := 1) (by simpa using h)
    have hf0 := Rd.fa hu (i := i) (j := 0) (by simpa using h)
    have hl1 := Rd.cel hu (i := i) (j := 1) (e := ltE (a, r, k)) (by simp [hat])
    have hl0 := Rd.cel hu (i := i) (j := 0) (e := ltE (a, r, k)) (by simp [hat])
    simp [ltE] at hl1 hl0
    have hun := runit_ev (σ := σ) r
    have huni : uni r = 1 ∨ uni r = 2 := by unfold uni; split <;> simp
    have hw : IntKind.i64.wrap ((i : Int) + 1) = ((i + 1 : Nat) : Int) := by rw [IntWalk.i64_in _ (by omega)]; omega
    obtain ⟨j, hj⟩ : ∃ j, j = i + 1 := ⟨_, rfl⟩
    have hax := hx (a, r, k) (by simp)
    simp only at hax
    have hwf : IntKind.i64.wrap ((fr : Int) + a) = ((fr + a : Nat) : Int) := by rw [IntWalk.i64_in _ (by omega)]; omega
    obtain ⟨fa, hfa⟩ : ∃ fa, fa = fr + a := ⟨_, rfl⟩
    obtain ⟨ah', hah⟩ : ∃ ah', ah' = ah + uni r := ⟨_, rfl⟩
    have hwa : IntKind.i64.wrap ((ah : Int) + uni r) = (ah' : Int) := by rw [IntWalk.i64_in _ (by omega)]; omega
    rw [← hj] at hw hnext
    rw [← hfa] at hwf
    have hmin : IntKind.i64.min = -9223372036854775808 := rfl
    have hmax : IntKind.i64.max = 9223372036854775807 := rfl
    have hoff : offL ((a, r, k) :: ls) (unit - ah) fr to = if unit - ah < uni r then fa else offL ls (unit - ah') fr to := by
      simp only [offL, hfa]
      rw [show unit - (ah : Int) - (uni r : Int) = unit - (ah' : Int) by omega]
    rw [hoff]
    by_cases h1 : unit ≤ ah
    · rw [if_pos (by omega)]
      simp [b22_0, h5, h7, h8, h9, h10, h11, hcl, h, hd, hp, h1, hia, hf1, hf0, hl1, hl0, hwf]
    · obtain ⟨d, hdd⟩ : ∃ d, d = unit - (ah : Int) := ⟨_, rfl⟩
      have hws : IntKind.i64.wrap (unit - (ah : Int)) = d := by rw [IntWalk.i64_in _ (by omega)]; omega
      rw [← hdd]
      by_cases h2 : d < uni r
      · rw [if_pos h2]
        simp [b22_0, h5, h7, h8, h9, h10, h11, hcl, h, hd, hp, h1, hia, hf1, hf0, hl1, hl0, hwf, hws, hun, h2]
      · rw [if_neg h2]
        simp [b22_0, h5, h7, h8, h9, h10, h11, hcl, h, hd, hp, h1, hia, hf1, hf0, hl1, hl0, hw, hws, hun, h2, hwa]
        refine roff_loop hu hal hp hui hfr hB ls j ah' _ hnext (fun x hx' => hx x (by simp [hx'])) (by omega) ?_ ?_ ?_ ?_ ?_ ?_ ?_ <;> simp [hj]
theorem roffset_ev {σ : St} {v lv : V} {b : List UInt8} {L : List Nat} {line unit : Int} (hv : Bs σ v b) (ho : v.old σ) (hl : Rd σ 1 lv (L.map intE)) (hlo : lv.old σ) (hb : b.length < 2 ^ 40) (hu : IntKind.i64.min ≤ unit ∧ unit ≤ IntKind.i64.max) :
    ev ET 22 [v, lv, .agg [.int .i64 line, .int .i64 unit]] σ = some (.ret (.int .i64 (offF b L line unit)), σ) := by
  have hll : lenV lv = some (.int .i64 L.length) := by simpa using hl.len
  have g1 : Gr σ (σ.new (.row 2 [[.int .i64 line, .int .i64 unit]])) := (Gr.refl σ).new _
  refine ev_pure (fd := f22) (σ' := σ.new (.row 2 [[.int .i64 line, .int .i64 unit]])) (o := .ret (.int .i64 (offF b L line unit))) rfl (by simp [f22]) rfl ?_ g1.H g1.W (by simp)
  by_cases h1 : line < 0
  · simp [f22, d22, h1, offF]
  obtain ⟨n, rfl⟩ : ∃ n : Nat, line = n := ⟨line.toNat, by omega⟩
  by_cases h2 : L.length ≤ n
  · have h2' : (L.length : Int) ≤ n := by omega
    simp [f22, d22, h1, hll, h2', hv.len, offF, List.getElem?_eq_none h2]
  have hn : n < L.length := by omega
  have h2' : ¬ (L.length : Int) ≤ n := by omega
  have hn0 : ¬ (n : Int) < 0 := by omega
  obtain ⟨x, hx⟩ : ∃ x, L[n] = x := ⟨_, rfl⟩
  obtain ⟨fr, hfr⟩ : ∃ fr, fr = min x b.length := ⟨_, rfl⟩
  obtain ⟨to, hto⟩ : ∃ to, to = endL b fr := ⟨_, rfl⟩
  have hto' := endL_le (s := b) (i := fr) (hfr ▸ Nat.min_le_right _ _)
  rw [← hto] at hto'
  have hwi : (if (x : Int) < 0 then (0 : Int) else if (b.length : Int) < x then (b.length : Int) else x) = fr := by
    rw [if_neg (by omega)]; split <;> omega
  have hv1 := hv.gr g1 ho
  have hat' := Rd.at (hl.gr g1 hlo) (k := .i64) (i := n) (by simpa using hn)
  have hel' := Rd.el (hl.gr g1 hlo) (i := n) (e := intE L[n]) (by simp [hn])
  simp [intE, hx] at hel'
  have hwe := within_ev (σ := σ.new (.row 2 [[.int .i64 n, .int .i64 unit]])) x 0 b.length
  rw [hwi] at hwe
  have hre := rend_ev (i := fr) hv1 hb (by omega)
  rw [← hto] at hre
  have hcut := hv1.cut hto'.1 hto'.2
  have hlsl : ∀ env (lo hi : Opd), lo.ev env = .int .i64 fr → hi.ev env = .int .i64 to → lslV env (σ.new (.row 2 [[.int .i64 n, .int .i64 unit]])) 1 v (some lo) (some hi) = some (cutV v fr to) := fun env lo hi e1 e2 => hv1.lslBoth e1 e2 hto'.1 hto'.2
  obtain ⟨u, hle, htl⟩ := rlet_ev hcut (V.old_cut (V.old_gr ho g1) fr to) (by simp; omega)
  have hll2 := lts_len (s := (b.take to).drop fr) ((b.take to).drop fr).length 0 (by omega)
  have hll3 : ((b.take to).drop fr).length ≤ b.length := by simp; omega
  have hoff : offF b L n unit = offL (lts ((b.take to).drop fr) 0) (unit - ((0 : Nat) : Int)) fr to := by
    unfold offF
    rw [if_neg hn0]
    simp only [Int.toNat_natCast, List.getElem?_eq_getElem hn, hx]
    rw [← hfr, ← hto]
    simp
  rw [hoff]
  simp [f22, d22, hll, h2', hn0, hv.len, hat', hel', hwe, hre, hlsl, hle]
  refine (roff_loop (p := σ.n) (line := n) (unit := unit) (fr := fr) (to := to) (htl.rd (σ := σ.new (.row 2 [[.int .i64 n, .int .i64 unit]]))) (by omega) (by simp) hu (by omega) rfl (lts ((b.take to).drop fr) 0) 0 0 _ rfl (fun y hy => by have := lts_in ((b.take to).drop fr).length 0 (by omega) y hy; omega) (by omega) ?_ ?_ ?_ ?_ ?_ ?_ ?_).trans ?_ <;> simp
theorem rline_loop {E : En Try.prog} {σ : St} {lv : V} {L : List Nat} {at' : Nat} (hl : Rd σ 1 lv (L.map intE)) (hL : L.length < 2 ^ 41) {dd : Bool} {rs : List RC} {s : List SE} {B : D} (hB : B = b23_0) :
    ∀ (n line : Nat) (f : Fr), L.length ≤ line + n → line < L.length → f.ds = [] → f.env 1 = lv → f.env 2 = .int .i64 at' → f.env 7 = .int .i64 line →
      Lands E dd rs s (fun f' σ' => σ' = σ ∧ f'.ds = [] ∧ f'.env 0 = f.env 0 ∧ f'.env 1 = lv ∧ f'.env 2 = f.env 2 ∧ f'.env 6 = f.env 6 ∧ f'.env 7 = .int .i64 (lineL L at' line)) (run E dd rs (.d (.loop [0, 1, 2, 6, 7] B) :: .blk 0 :: s) f σ) :=
  line_loop hl hL (hB.trans rfl)
end Go.Proofs.Ytogibebpoliolaa
namespace Go.Proofs.Ytogibebpoliolaa
open Go.Proofs.Ytogibebpoliolaa.Ab
set_option linter.unusedVariables false
set_option linter.unusedSimpArgs false
attribute [local simp] Gr.refl Gr.new Gr.set Gr.kill Nat.add_assoc r_cks chk wantG
def rplX : D := .kb [6, 7, 11] (.seq (.reg [⟨some 84, none, .mv (.t 7)⟩, ⟨some 85, none, .mv (.t 11)⟩, ⟨some 86, none, .build [.int .i64 0, .int .i64 0] [(0, 1, .t 84), (1, 1, .t 85)]⟩, ⟨none, none, .st 2 (.t 6) (.t 86)⟩]) .ret)
theorem rpl_loop {σ : St} {u : V} {all : List (Nat × Int × Nat)} (hu : Rd σ 3 u (all.map ltE)) (hal : all.length < 2 ^ 40) {p : Nat} (hp : σ.H p = some (.row 2 [[.int .i64 0, .int .i64 0]])) {fr to line : Nat} (hfr : fr < 2 ^ 40) {B : D} (hB : B = b23_1) :
    ∀ (ls : List (Nat × Int × Nat)) (i n : Nat) (f : Fr), all.drop i = ls → (∀ x ∈ ls, x.1 < 2 ^ 40 ∧ x.2.2 ≤ 4) → n ≤ 2 * i → f.ds = [] → f.env 6 = .ptr p 0 0 → f.env 7 = .int .i64 line → f.env 8 = .int .i64 fr → f.env 9 = .int .i64 to → f.env 10 = u → f.env 11 = .int .i64 n → f.env 12 = .int .i64 i →
      run ET false [.c 6 (some 2)] (.d (.loop [6, 7, 8, 9, 10, 11, 12] B) :: .blk 2 :: [.d rplX]) f σ = some (.ret (.agg [.int .i64 line, .int .i64 (placeL ls n fr to)]), σ.set p (.row 2 [[.int .i64 line, .int .i64 (placeL ls n fr to)]]))
  | [], i, n, f, hl, _, _, hd, h6, h7, h8, h9, h10, h11, h12 => by
    rw [r_loopU hB]
    have hcl : lenV u = some (.int .i64 all.length) := by simpa using hu.len
    have hlen := congrArg List.length hl
    simp at hlen
    have h : ¬ i < all.length := by omega
    simp [b23_1, h6, h7, h8, h9, h10, h11, h12, hcl, h, hd, placeL, rplX, hp]
  | (a, r, k) :: ls, i, n, f, hl, hx, hn, hd, h6, h7, h8, h9, h10, h11, h12 => by
    rw [r_loopU hB]
    have hcl : lenV u = some (.int .i64 all.length) := by simpa using hu.len
    have hlen := congrArg List.length hl
    simp at hlen
    have h : i < all.length := by omega
    have hat : all[i]? = some (a, r, k) := by
      have := congrArg (·[0]?) hl
      simpa using this
    have hnext : all.drop (i + 1) = ls := by rw [← List.drop_drop, hl]; rfl
    have hia := Rd.at hu (k := .i64) (i := i) (by simpa using h)
    have hf0 := Rd.fa hu (i := i) (j := 0) (by simpa using h)
    have hf1 := Rd.fa hu (i := i) (j := 1) (by simpa using h)
    have hf2 := Rd.fa hu (i := i) (j := 2) (by simpa using h)
    have hl0 := Rd.cel hu (i := i) (j := 0) (e := ltE (a, r, k)) (by simp [hat])
    have hl1 := Rd.cel hu (i := i) (j := 1) (e := ltE (a, r, k)) (by simp [hat])
    have hl2 := Rd.cel hu (i := i) (j := 2) (e := ltE (a, r, k)) (by simp [hat])
    simp [ltE] at hl0 hl1 hl2
    have hun := runit_ev (σ := σ) r
    have huni : uni r = 1 ∨ uni r = 2 := by unfold uni; split <;> simp
    have hw : IntKind.i64.wrap ((i : Int) + 1) = ((i + 1 : Nat) : Int) := by rw [IntWalk.i64_in _ (by omega)]; omega
    obtain ⟨j, hj⟩ : ∃ j, j = i + 1 := ⟨_, rfl⟩
    obtain ⟨hax, hkx⟩ := hx (a, r, k) (by simp)
    simp only at hax hkx
    obtain ⟨c1, hc1⟩ : ∃ c1, c1 = fr + a := ⟨_, rfl⟩
    obtain ⟨c2, hc2⟩ : ∃ c2, c2 = c1 + k := ⟨_, rfl⟩
    have hw1 : IntKind.i64.wrap ((fr : Int) + a) = (c1 : Int) := by rw [IntWalk.i64_in _ (by omega)]; omega
    have hw2 : IntKind.i64.wrap ((c1 : Int) + k) = (c2 : Int) := by rw [IntWalk.i64_in _ (by omega)]; omega
    obtain ⟨n', hn'⟩ : ∃ n', n' = n + uni r := ⟨_, rfl⟩
    have hw3 : IntKind.i64.wrap ((n : Int) + uni r) = (n' : Int) := by rw [IntWalk.i64_in _ (by omega)]; omega
    rw [← hj] at hw hnext
    have hpl : placeL ((a, r, k) :: ls) n fr to = if to < c2 then n else placeL ls n' fr to := by simp only [placeL, hc2, hc1, hn']
    rw [hpl]
    by_cases hc : to < c2
    · have hc' : ¬ c2 ≤ to := by omega
      rw [if_pos hc]
      simp [b23_1, h6, h7, h8, h9, h10, h11, h12, hcl, h, hd, rplX, hp, hia, hf0, hf1, hf2, hl0, hl1, hl2, hw1, hw2, hc']
    · have hc' : c2 ≤ to := by omega
      rw [if_neg hc]
      simp [b23_1, h6, h7, h8, h9, h10, h11, h12, hcl, h, hd, hp, hia, hf0, hf1, hf2, hl0, hl1, hl2, hw1, hw2, hc', hun, hw3, hw]
      refine rpl_loop hu hal hp hfr hB ls j n' _ hnext (fun x hx' => hx x (by simp [hx'])) (by omega) ?_ ?_ ?_ ?_ ?_ ?_ ?_ ?_ <;> simp
theorem rplace_ev {σ : St} {v lv : V} {b : List UInt8} {L : List Nat} {at' : Int} (hv : Bs σ v b) (ho : v.old σ) (hl : Rd σ 1 lv (L.map intE)) (hlo : lv.old σ) (hb : b.length < 2 ^ 40) (hL : L.length < 2 ^ 41) (h0 : 0 < L.length) :
    ev ET 23 [v, lv, .int .i64 at'] σ = some (.ret (.agg [.int .i64 (placeF b L at').1, .int .i64 (placeF b L at').2]), σ) := by
  have hll : lenV lv = some (.int .i64 L.length) := by simpa using hl.len
  have g1 : Gr σ (σ.new (.row 2 [[.int .i64 0, .int .i64 0]])) := (Gr.refl σ).new _
  have g2 := g1.set (Nat.le_refl _) (.row 2 [[.int .i64 (placeF b L at').1, .int .i64 (placeF b L at').2]])
  refine ev_pure (fd := f23) (σ' := (σ.new (.row 2 [[.int .i64 0, .int .i64 0]])).set σ.n (.row 2 [[.int .i64 (placeF b L at').1, .int .i64 (placeF b L at').2]])) (o := .ret (.agg [.int .i64 (placeF b L at').1, .int .i64 (placeF b L at').2])) rfl (by simp [f23]) rfl ?_ g2.H g2.W (by simp)
  obtain ⟨a, ha⟩ : ∃ a, a = min at'.toNat b.length := ⟨_, rfl⟩
  have hwa : (if at' < 0 then (0 : Int) else if (b.length : Int) < at' then (b.length : Int) else at') = (a : Int) := by
    rw [ha]; split
    · omega
    · split <;> omega
  obtain ⟨line, hline⟩ : ∃ line, line = lineL L a 0 := ⟨_, rfl⟩
  have hlt : line < L.length := by rw [hline]; exact lineL_lt h0
  obtain ⟨x, hx⟩ : ∃ x, L[line] = x := ⟨_, rfl⟩
  obtain ⟨fr, hfr⟩ : ∃ fr, fr = min x b.length := ⟨_, rfl⟩
  have hfl : fr ≤ b.length := hfr ▸ Nat.min_le_right _ _
  obtain ⟨ed, hed⟩ : ∃ ed, ed = endL b fr := ⟨_, rfl⟩
  obtain ⟨to, hto⟩ : ∃ to, to = min a ed := ⟨_, rfl⟩
  have hwx : (if (x : Int) < 0 then (0 : Int) else if (b.length : Int) < x then (b.length : Int) else x) = (fr : Int) := by
    rw [if_neg (by omega)]; split <;> omega
  have hwt : (if (a : Int) < 0 then (0 : Int) else if (ed : Int) < a then (ed : Int) else a) = (to : Int) := by
    rw [if_neg (by omega)]; split <;> omega
  have hv1 := hv.gr g1 ho
  have e1 := within_ev (σ := σ.new (.row 2 [[.int .i64 0, .int .i64 0]])) at' 0 b.length
  rw [hwa] at e1
  have e2 := within_ev (σ := σ.new (.row 2 [[.int .i64 0, .int .i64 0]])) x 0 b.length
  rw [hwx] at e2
  have e3 := within_ev (σ := σ.new (.row 2 [[.int .i64 0, .int .i64 0]])) a 0 ed
  rw [hwt] at e3
  have e4 := rend_ev (i := fr) hv1 hb hfl
  rw [← hed] at e4
  have hat' := Rd.at (hl.gr g1 hlo) (k := .i64) (i := line) (by simpa using hlt)
  have hel' := Rd.el (hl.gr g1 hlo) (i := line) (e := intE L[line]) (by simp [hlt])
  simp [intE, hx] at hel'
  have hcut := hv1.cut hfl (Nat.le_refl _)
  have hlsl : ∀ env (lo : Opd), lo.ev env = .int .i64 fr → lslV env (σ.new (.row 2 [[.int .i64 0, .int .i64 0]])) 1 v (some lo) none = some (cutV v fr b.length) := fun env lo e1 => hv1.lslFrom e1 hfl
  obtain ⟨u, hle, htl⟩ := rlet_ev hcut (V.old_cut (V.old_gr ho g1) fr b.length) (by simp; omega)
  have hll2 := lts_len (s := (b.take b.length).drop fr) ((b.take b.length).drop fr).length 0 (by omega)
  have hll3 : ((b.take b.length).drop fr).length ≤ b.length := by simp
  have hL0 : ¬ L = [] := List.length_pos_iff.1 h0
  have hpl : placeF b L at' = ((line : Int), ((placeL (lts ((b.take b.length).drop fr) 0) 0 fr to : Nat) : Int)) := by
    unfold placeF
    simp only [← ha, ← hline, List.getElem?_eq_getElem hlt, hx, Option.getD_some, ← hfr, ← hed, ← hto, List.take_length]
  rw [hpl]
  simp [f23, d23, hll, hL0, hv.len, e1]
  refine Lands.to (C := fun r => r = some (CO.ret (.agg [.int .i64 line, .int .i64 (placeL (lts (b.drop fr) 0) 0 fr to)]), (σ.new (.row 2 [[.int .i64 0, .int .i64 0]])).set σ.n (.row 2 [[.int .i64 line, .int .i64 (placeL (lts (b.drop fr) 0) 0 fr to)]]))) (rline_loop (at' := a) (hl.gr g1 hlo) hL rfl L.length 0 _ (by omega) h0 rfl (by simp) (by simp) (by simp)) ?_
  rintro f' σ' ⟨hσ, hd, g0, g1', g2', g6, g7⟩
  rw [hσ]
  rw [← hline] at g7
  simp at g0 g2' g6
  simp [hd, g0, g1', g2', g6, g7, hv.len, hat', hel', e2, e3, e4, hlsl, hle]
  refine (rpl_loop (p := σ.n) (fr := fr) (to := to) (line := line) (htl.rd (σ := σ.new (.row 2 [[.int .i64 0, .int .i64 0]]))) (by omega) (by simp) (by omega) rfl (lts ((b.take b.length).drop fr) 0) 0 0 _ rfl (fun y hy => by have := lts_in ((b.take b.length).drop fr).length 0 (by omega) y hy; omega) (by omega) ?_ ?_ ?_ ?_ ?_ ?_ ?_ ?_).trans ?_ <;> simp
end Go.Proofs.Ytogibebpoliolaa
namespace Go.Proofs.Ytogibebpoliolaa
open Go.Proofs.Ytogibebpoliolaa.Ab
set_option linter.unusedVariables false
set_option linter.unusedSimpArgs false
attribute [local simp] Gr.refl Gr.new Gr.set Gr.kill Nat.add_assoc r_cks chk wantG
theorem take_ev {σ : St} {s : List UInt8} (hs : s.length < 2 ^ 40) : ev ET 11 [.str s] σ = some (.ret (.int .i64 (takeE s)), σ) := by
  unfold takeE
  by_cases h : 1048576 < s.length
  · have h' : (1048576 : Int) < s.length := by omega
    rw [if_pos h]
    exact ev_same (fd := f11) (o := .ret (.int .i64 3)) rfl (by simp [f11]) rfl (by simp [f11, d11, h']) (by simp)
  · have h' : ¬ (1048576 : Int) < s.length := by omega
    rw [if_neg h]
    have hv := rvalid_ev (σ := σ.new (.row 1 (s.map byteE))) (v := .slc σ.n 0 s.length) (b := s) (by simp [Bs, Rd, cont, List.take_of_length_le]) (fun l off len e => by simp at e; simp [← e.1]) hs
    have g1 : Gr σ (σ.new (.row 1 (s.map byteE))) := (Gr.refl σ).new _
    split
    · rename_i hb
      rw [hb] at hv
      simp [badV] at hv
      exact ev_pure (fd := f11) (o := .ret (.int .i64 0)) rfl (by simp [f11]) rfl (by simp [f11, d11, h', hv]) g1.H g1.W (by simp)
    · rename_i hb
      obtain ⟨i, hi⟩ := Option.ne_none_iff_exists'.1 hb
      rw [hi] at hv
      simp [badV] at hv
      exact ev_pure (fd := f11) (o := .ret (.int .i64 10)) rfl (by simp [f11]) rfl (by simp [f11, d11, h', hv]) g1.H g1.W (by simp)
inductive R1 where
  | err (n : Nat)
  | ok (b : List UInt8) (e : Ed)
def oneR (b : List UInt8) (c : Ch) : R1 :=
  if bad c.text 0 = none then if 1048576 < b.length - ((editF b c).to - (editF b c).fr) + c.text.length then .err 3 else .ok (spliceF b (editF b c) c.text) (editF b c) else .err 10
def r1V : R1 → V
  | .err n => .tup [.str [], .agg [.int .i64 0, .int .i64 0, .int .i64 0], .int .i64 n]
  | .ok b e => .tup [.str b, .agg (edE e), .int .i64 0]
theorem s2b_rd {σ : St} {s : List UInt8} {n : Nat} (h : σ.n = n) : Bs (σ.new (.row 1 (s.map byteE))) (.slc n 0 s.length) s := by simp [Bs, Rd, cont, ← h, List.take_of_length_le]
theorem s2b_old {σ : St} {s : List UInt8} {n : Nat} (h : σ.n = n) : (V.slc n 0 s.length).old (σ.new (.row 1 (s.map byteE))) := fun l off len e => by simp at e; simp [← e.1, ← h]
theorem rone_ev {σ : St} {b : List UInt8} {c : Ch} (hc : c.ok) (hb : b.length ≤ 1048576) (ht : c.text.length < 2 ^ 40) : ev ET 30 [.str b, .agg (chE c)] σ = some (.ret (r1V (oneR b c)), σ) := by
  obtain ⟨rg, l1, u1, l2, u2, t⟩ := c
  obtain ⟨_, h1, _, h2⟩ := hc
  simp only at h1 h2 ht
  obtain ⟨τ, hr, hg⟩ : ∃ τ, run ET false f30.res [.d f30.body] ⟨envOf [.str b, .agg (chE ⟨rg, l1, u1, l2, u2, t⟩)], []⟩ σ = some (.ret (r1V (oneR b ⟨rg, l1, u1, l2, u2, t⟩)), τ) ∧ Gr σ τ := by
    obtain ⟨s2, hs2⟩ : ∃ s2, s2 = (σ.new (.row 6 [[.bool rg, .int .i64 l1, .int .i64 u1, .int .i64 l2, .int .i64 u2, .str t]])).new (.row 3 [[.int .i64 0, .int .i64 0, .int .i64 0]]) := ⟨_, rfl⟩
    have n2 : s2.n = σ.n + 2 := by rw [hs2]; simp
    have b0 : s2.H σ.n = some (.row 6 [[.bool rg, .int .i64 l1, .int .i64 u1, .int .i64 l2, .int .i64 u2, .str t]]) := by rw [hs2]; simp
    have b1 : s2.H (σ.n + 1) = some (.row 3 [[.int .i64 0, .int .i64 0, .int .i64 0]]) := by rw [hs2]; simp
    have g2 : Gr σ s2 := by rw [hs2]; simp
    have hva := rvalid_ev (s2b_rd (s := t) n2) (s2b_old n2) ht
    by_cases hbad : bad t 0 = none
    · rw [hbad] at hva
      simp [badV] at hva
      obtain ⟨e, he⟩ : ∃ e, e = editF b ⟨rg, l1, u1, l2, u2, t⟩ := ⟨_, rfl⟩
      have hin := edit_in (b := b) (c := ⟨rg, l1, u1, l2, u2, t⟩)
      rw [← he] at hin
      obtain ⟨fr, to, sz⟩ := e
      simp only at hin
      obtain ⟨m1, e1⟩ : ∃ m, m = to - fr := ⟨_, rfl⟩
      obtain ⟨m2, e2⟩ : ∃ m, m = b.length - m1 := ⟨_, rfl⟩
      obtain ⟨m3, e3⟩ : ∃ m, m = m2 + t.length := ⟨_, rfl⟩
      have w1 : IntKind.i64.wrap ((to : Int) - fr) = (m1 : Int) := by rw [IntWalk.i64_in _ (by omega)]; omega
      have w2 : IntKind.i64.wrap ((b.length : Int) - m1) = (m2 : Int) := by rw [IntWalk.i64_in _ (by omega)]; omega
      have w3 : IntKind.i64.wrap ((m2 : Int) + t.length) = (m3 : Int) := by rw [IntWalk.i64_in _ (by omega)]; omega
      have hfb : (fr : Int) ≤ b.length := by omega
      have hfb' : fr ≤ b.length := by omega
      have hsp : spliceF b ⟨fr, to, sz⟩ t = b.take fr ++ (t ++ b.drop to) := by simp [spliceF]
      have hR : oneR b ⟨rg, l1, u1, l2, u2, t⟩ = if 1048576 < m3 then .err 3 else .ok (b.take fr ++ (t ++ b.drop to)) ⟨fr, to, t.length⟩ := by
        simp only [oneR, hbad, if_true, ← he]
        rw [hsp, hin.2.2]
        have : b.length - (to - fr) + t.length = m3 := by omega
        simp only [this]
      rw [hR]
      cases rg with
      | false =>
        simp [editF] at he
        obtain ⟨rfl, rfl, rfl⟩ := he
        have w1' : IntKind.i64.wrap (b.length : Int) = (m1 : Int) := by rw [IntWalk.i64_in _ (by omega)]; omega
        by_cases hbig : 1048576 < m3
        · have hbig' : (1048576 : Int) < m3 := by omega
          rw [if_pos hbig]
          refine ⟨_, by simp [f30, d30, chE, ← hs2, n2, b0, b1, hva, w1', w2, w3, hbig', r1V]; rfl, ?_⟩
          exact (g2.new _).set (by omega) _
        · have hbig' : ¬ (1048576 : Int) < m3 := by omega
          rw [if_neg hbig]
          have q1 : t.length ≤ 9223372036854775807 := by omega
          refine ⟨_, by simp [f30, d30, chE, ← hs2, n2, b0, b1, hva, w1', w2, w3, hbig', r1V, edE, q1]; rfl, ?_⟩
          exact (g2.new _).set (by omega) _
      | true =>
        simp [editF] at he
        obtain ⟨h3, h4, h5⟩ := he
        obtain ⟨u, hli, hut⟩ := rlines_ev (σ := (s2.new (.row 1 (t.map byteE))).new (.row 1 (b.map byteE))) (s2b_rd (s := b) (n := σ.n + 3) (by simp [n2])) (s2b_old (by simp [n2])) (by omega)
        have ho1 := roffset_ev (σ := ((s2.new (.row 1 (t.map byteE))).new (.row 1 (b.map byteE))).new (.row 1 (b.map byteE))) (line := l1) (s2b_rd (s := b) (n := σ.n + 4) (by simp [n2])) (s2b_old (by simp [n2])) hut.rd hut.old (by omega) h1
        have ho2 := roffset_ev (σ := (((s2.new (.row 1 (t.map byteE))).new (.row 1 (b.map byteE))).new (.row 1 (b.map byteE))).new (.row 1 (b.map byteE))) (line := l2) (s2b_rd (s := b) (n := σ.n + 5) (by simp [n2])) (s2b_old (by simp [n2])) hut.rd hut.old (by omega) h2
        rw [← h3] at ho1
        obtain ⟨x, hx⟩ : ∃ x, x = offF b (linesF b) l2 u2 := ⟨_, rfl⟩
        rw [← hx] at ho2 h4
        rw [← h3] at h4
        have q1 : min fr b.length + t.length ≤ 9223372036854775807 := by omega
        have q2 : min fr b.length + (t.length + (b.length - to)) ≤ 9223372036854775807 := by omega
        have q3 : to ≤ b.length := hin.2.1
        have q4 : fr + t.length ≤ 9223372036854775807 := by omega
        have q5 : fr + (t.length + (b.length - to)) ≤ 9223372036854775807 := by omega
        have q6 : min fr b.length = fr := Nat.min_eq_left hfb'
        have gg : ∀ r, Gr σ ((((((s2.new (.row 1 (t.map byteE))).new (.row 1 (b.map byteE))).new (.row 1 (b.map byteE))).new (.row 1 (b.map byteE)))).set (σ.n + 1) r) := fun r => ((((g2.new _).new _).new _).new _).set (by omega) _
        by_cases hxf : x < fr
        · have ht' : to = fr := by omega
          subst ht'
          have w0 : IntKind.i64.wrap (0 : Int) = (m1 : Int) := by rw [IntWalk.i64_in _ (by omega)]; omega
          by_cases hbig : 1048576 < m3
          · have hbig' : (1048576 : Int) < m3 := by omega
            rw [if_pos hbig]
            exact ⟨_, by simp [f30, d30, chE, ← hs2, n2, b0, b1, hva, hli, ho1, ho2, hxf, w0, w1, w2, w3, hbig', r1V]; rfl, gg _⟩
          · have hbig' : ¬ (1048576 : Int) < m3 := by omega
            rw [if_neg hbig]
            exact ⟨_, by simp [f30, d30, chE, ← hs2, n2, b0, b1, hva, hli, ho1, ho2, hxf, w0, w1, w2, w3, hbig', r1V, edE, q1, q2, q3, q4, q5, q6, hfb']; rfl, gg _⟩
        · have ht' : to = x := by omega
          subst ht'
          by_cases hbig : 1048576 < m3
          · have hbig' : (1048576 : Int) < m3 := by omega
            rw [if_pos hbig]
            exact ⟨_, by simp [f30, d30, chE, ← hs2, n2, b0, b1, hva, hli, ho1, ho2, hxf, w1, w2, w3, hbig', r1V]; rfl, gg _⟩
          · have hbig' : ¬ (1048576 : Int) < m3 := by omega
            rw [if_neg hbig]
            exact ⟨_, by simp [f30, d30, chE, ← hs2, n2, b0, b1, hva, hli, ho1, ho2, hxf, w1, w2, w3, hbig', r1V, edE, q1, q2, q3, q4, q5, q6, hfb']; rfl, gg _⟩
    · obtain ⟨i, hi⟩ := Option.ne_none_iff_exists'.1 hbad
      rw [hi] at hva
      simp [badV] at hva
      have hR : oneR b ⟨rg, l1, u1, l2, u2, t⟩ = .err 10 := by simp [oneR, hbad]
      rw [hR]
      refine ⟨_, by simp [f30, d30, chE, ← hs2, n2, b0, b1, hva, r1V]; rfl, ?_⟩
      exact (g2.new _).set (by omega) _
  refine ev_pure (fd := f30) rfl (by simp [f30]) rfl hr hg.H hg.W ?_
  cases oneR b ⟨rg, l1, u1, l2, u2, t⟩ <;> simp [r1V, edE]
end Go.Proofs.Ytogibebpoliolaa
