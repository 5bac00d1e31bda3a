/-
The walk over the program's texts, told with what its values say: a part of it. No further condition.
-/
import Derived.Test.YtgmjeklneeljdaaAbLxP
namespace Go.Proofs.Ytgmjeklneeljdaa
open Go.Proofs.Ytgmjeklneeljdaa.Ab
set_option linter.unusedVariables false
set_option linter.unusedSimpArgs false
variable {E : En Try.prog}
theorem small_ev (hT : E.T = T) {σ : St} (c : UInt8) : ev E 17 [.int .u8 c.toNat] σ = some (.ret (.bool (smallB c)), σ) := by
  refine ev_same (fd := f17) (o := .ret (.bool (smallB c))) (by rw [hT]; rfl) (by simp [f17]) rfl ?_ (by simp)
  unfold smallB
  by_cases h : (97 : Int) ≤ c.toNat <;> by_cases h2 : (c.toNat : Int) ≤ 122 <;> simp [f17, d17, h, h2] <;> omega
theorem digit_ev (hT : E.T = T) {σ : St} (c : UInt8) : ev E 18 [.int .u8 c.toNat] σ = some (.ret (.bool (digitB c)), σ) := by
  refine ev_same (fd := f18) (o := .ret (.bool (digitB c))) (by rw [hT]; rfl) (by simp [f18]) rfl ?_ (by simp)
  unfold digitB
  by_cases h : (48 : Int) ≤ c.toNat <;> by_cases h2 : (c.toNat : Int) ≤ 57 <;> simp [f18, d18, h, h2] <;> omega
/-- A byte where a rest begins. -/
theorem at_drop {b : List UInt8} {i : Nat} {c : UInt8} {t : List UInt8} (h : b.drop i = c :: t) : i < b.length ∧ b[i]? = some c ∧ b.drop (i + 1) = t := by
  have h1 : i < b.length := by
    rcases Nat.lt_or_ge i b.length with h' | h'
    · exact h'
    · rw [List.drop_eq_nil_of_le h'] at h; simp at h
  have := congrArg (·[0]?) h
  refine ⟨h1, by simpa using this, by rw [← List.drop_drop, h]; rfl⟩
theorem remark_ev (hT : E.T = T) {σ : St} {v : V} {b : List UInt8} (hv : Bs σ v b) (hb : b.length < 2 ^ 40) {i : Nat} {c : UInt8} {t : List UInt8} (h : b.drop i = c :: t) :
    ev E 16 [v, .int .i64 i] σ = some (.ret (.bool (c.toNat == 47 && slashB t)), σ) := by
  obtain ⟨h1, h2, h3⟩ := at_drop h
  refine ev_same (fd := f16) (o := .ret (.bool (c.toNat == 47 && slashB t))) (by rw [hT]; rfl) (by simp [f16]) rfl ?_ (by simp)
  have hw : IntKind.i64.wrap ((i : Int) + 1) = ((i + 1 : Nat) : Int) := by rw [IntWalk.i64_in _ (by omega)]; omega
  obtain ⟨j, hj⟩ : ∃ j, j = i + 1 := ⟨_, rfl⟩
  rw [← hj] at hw h3
  by_cases hc : (c.toNat : Int) = 47
  · have hc' : c.toNat = 47 := by omega
    cases t with
    | nil =>
      have hj2 : ¬ j < b.length := by simp at h3; omega
      simp [f16, d16, hv.len, hv.at h1, hv.ld h2, hc, hw, hj2, slashB]
    | cons d t =>
      obtain ⟨g1, g2, g3⟩ := at_drop h3
      by_cases hd : (d.toNat : Int) = 47
      · have hd' : d.toNat = 47 := by omega
        simp [f16, d16, hv.len, hv.at h1, hv.ld h2, hv.at g1, hv.ld g2, hc, hc', hw, g1, hd, hd', slashB]
      · have hd' : ¬ d.toNat = 47 := by omega
        simp [f16, d16, hv.len, hv.at h1, hv.ld h2, hv.at g1, hv.ld g2, hc, hc', hw, g1, hd, hd', slashB]
  · have hc' : ¬ c.toNat = 47 := by omega
    simp [f16, d16, hv.len, hv.at h1, hv.ld h2, hc, hc', slashB]
theorem skip_loop (hT : E.T = T) {σ : St} {v : V} {b : List UInt8} (hv : Bs σ v b) (hb : b.length < 2 ^ 40) {x : D} (hx : ∀ (f : Fr) (j : Nat), f.ds = [] → f.env 1 = .int .i64 j → run E false [.t 4] [.d x] f σ = some (.ret (.int .i64 j), σ))
    {B0 B1 : D} (h0 : B0 = b13_0) (h1 : B1 = b13_1) :
    ∀ (s : List UInt8) (i : Nat) (f : Fr), b.drop i = s → i ≤ b.length → f.ds = [] → f.env 0 = v → f.env 1 = .int .i64 i →
      run E false [.t 4] (.d (.loop [0, 1] B1) :: .blk 0 :: [.d x]) f σ = some (.ret (.int .i64 (b.length - (skipF false s).length : Nat)), σ) ∧
      run E false [.t 4] (.d (.loop [0, 1] B0) :: .blk 3 :: .blk 2 :: .blk 1 :: .lp [0, 1] B1 :: .blk 0 :: [.d x]) f σ = some (.ret (.int .i64 (b.length - (skipF true s).length : Nat)), σ)
  | [], i, f, h, hi, hd, e0, e1 => by
    have hlen := congrArg List.length h
    simp at hlen
    obtain rfl : i = b.length := by omega
    have A : ∀ f : Fr, f.ds = [] → f.env 0 = v → f.env 1 = .int .i64 b.length → run E false [.t 4] (.d (.loop [0, 1] B1) :: .blk 0 :: [.d x]) f σ = some (.ret (.int .i64 (b.length - (skipF false []).length : Nat)), σ) := fun f hd e0 e1 => by
      rw [r_loopU h1]
      simp [b13_1, e0, e1, hv.len, skipF]
      exact hx _ _ (by simpa using hd) (by simp)
    refine ⟨A f hd e0 e1, ?_⟩
    rw [r_loopU h0]
    simp [b13_0, e0, e1, hv.len]
    exact A _ (by simpa using hd) (by simp) (by simp)
  | c :: t, i, f, h, hi, hd, e0, e1 => by
    obtain ⟨g1, g2, g3⟩ := at_drop h
    have hlen := congrArg List.length h
    simp at hlen
    have hw : IntKind.i64.wrap ((i : Int) + 1) = ((i + 1 : Nat) : Int) := by rw [IntWalk.i64_in _ (by omega)]; omega
    obtain ⟨j, hj⟩ : ∃ j, j = i + 1 := ⟨_, rfl⟩
    rw [← hj] at hw g3
    have ih := fun f => skip_loop hT hv hb hx h0 h1 t j f g3 (by omega)
    have hrm := remark_ev hT hv hb h
    have ld := hv.ld g2
    have A : ∀ f : Fr, f.ds = [] → f.env 0 = v → f.env 1 = .int .i64 i → run E false [.t 4] (.d (.loop [0, 1] B1) :: .blk 0 :: [.d x]) f σ = some (.ret (.int .i64 (b.length - (skipF false (c :: t)).length : Nat)), σ) := fun f hd e0 e1 => by
      rw [r_loopU h1]
      have hbl : blankB c = true → skipF false (c :: t) = skipF false t := fun h => by
        have : c.toNat ≠ 47 := by simp [blankB] at h; omega
        have e : (c.toNat == 47) = false := by simpa using this
        simp [skipF, offB, h, e]
      have ih0 := fun f a b c => (ih f a b c).1
      by_cases c1 : (c.toNat : Int) = 32
      · simp [b13_1, e0, e1, hd, hv.len, g1, hv.at g1, ld, eq_true c1, hw]
        rw [hbl (by simp [blankB]; omega)]
        exact ih0 _ (by simp) (by simp) (by simp)
      by_cases c2 : (c.toNat : Int) = 9
      · simp [b13_1, e0, e1, hd, hv.len, g1, hv.at g1, ld, c1, eq_true c2, hw]
        rw [hbl (by simp [blankB]; omega)]
        exact ih0 _ (by simp) (by simp) (by simp)
      by_cases c3 : (c.toNat : Int) = 10
      · simp [b13_1, e0, e1, hd, hv.len, g1, hv.at g1, ld, c1, c2, eq_true c3, hw]
        rw [hbl (by simp [blankB]; omega)]
        exact ih0 _ (by simp) (by simp) (by simp)
      by_cases c4 : (c.toNat : Int) = 13
      · simp [b13_1, e0, e1, hd, hv.len, g1, hv.at g1, ld, c1, c2, c3, eq_true c4, hw]
        rw [hbl (by simp [blankB]; omega)]
        exact ih0 _ (by simp) (by simp) (by simp)
      have hb' : blankB c = false := by simp [blankB]; omega
      by_cases c5 : c.toNat = 47 ∧ slashB t = true
      · have ih1 := fun f a b c => (ih f a b c).2
        simp [c5] at hrm
        simp [b13_1, e0, e1, hd, hv.len, g1, hv.at g1, ld, c1, c2, c3, c4, hrm]
        rw [← h0, r_loopU h0]
        have hs : skipF false (c :: t) = skipF true t := by simp [skipF, offB, c5]
        rw [hs]
        simp [b13_0, e0, e1, hd, hv.len, g1, hv.at g1, ld, c3, hw]
        exact ih1 _ (by simp) (by simp) (by simp)
      · have hof : (c.toNat == 47 && slashB t) = false := by simpa using c5
        rw [hof] at hrm
        have hs : skipF false (c :: t) = c :: t := by simp [skipF, offB, hb', hof]
        rw [hs]
        simp [b13_1, e0, e1, hd, hv.len, g1, hv.at g1, ld, c1, c2, c3, c4, hrm]
        omega
    refine ⟨A f hd e0 e1, ?_⟩
    rw [r_loopU h0]
    by_cases c3 : (c.toNat : Int) = 10
    · have hs : skipF true (c :: t) = skipF false (c :: t) := by
        have : c.toNat = 10 := by omega
        simp [skipF, offB, this]
      rw [hs]
      simp [b13_0, e0, e1, hd, hv.len, g1, hv.at g1, ld, eq_true c3]
      exact A _ (by simp) (by simp) (by simp)
    · have hs : skipF true (c :: t) = skipF true t := by
        have e : (c.toNat != 10) = true := by simp; omega
        simp [skipF, offB, e]
      rw [hs]
      simp [b13_0, e0, e1, hd, hv.len, g1, hv.at g1, ld, c3, hw]
      exact (ih _ (by simp) (by simp) (by simp)).2
theorem skip_ev (hT : E.T = T) {σ : St} {v : V} {b : List UInt8} (hv : Bs σ v b) (hb : b.length < 2 ^ 40) {i : Nat} (hi : i ≤ b.length) :
    ev E 13 [v, .int .i64 i] σ = some (.ret (.int .i64 (b.length - (skipF false (b.drop i)).length : Nat)), σ) := by
  refine ev_same (fd := f13) (o := .ret (.int .i64 (b.length - (skipF false (b.drop i)).length : Nat))) (by rw [hT]; rfl) (by simp [f13]) rfl ?_ (by simp)
  simp [f13, d13]
  refine (skip_loop hT hv hb ?_ rfl rfl (b.drop i) i _ rfl hi ?_ ?_ ?_).1
  · intro f j hd e1
    simp [hd, e1]
  all_goals simp
theorem has_ev (hT : E.T = T) {σ : St} {v : V} {b : List UInt8} (hv : Bs σ v b) (hb : b.length < 2 ^ 40) {i : Nat} (hi : i ≤ b.length) :
    ev E 14 [v, .int .i64 i] σ = some (.ret (.bool (decide (0 < (skipF false (b.drop i)).length))), σ) := by
  refine ev_same (fd := f14) (o := .ret (.bool (decide (0 < (skipF false (b.drop i)).length)))) (by rw [hT]; rfl) (by simp [f14]) rfl ?_ (by simp)
  have hs := skip_ev hT hv hb hi
  have hl := (skip_suf (b.drop i) false).length_le
  simp at hl
  obtain ⟨k, hk⟩ : ∃ k, k = (skipF false (b.drop i)).length := ⟨_, rfl⟩
  rw [← hk] at hs hl ⊢
  obtain ⟨j, hj⟩ : ∃ j, j = b.length - k := ⟨_, rfl⟩
  rw [← hj] at hs
  have : (j < b.length) = (0 < k) := by simp; omega
  simp [f14, d14, hs, hv.len, this]
end Go.Proofs.Ytgmjeklneeljdaa
namespace Go.Proofs.Ytgmjeklneeljdaa
open Go.Proofs.Ytgmjeklneeljdaa.Ab
set_option linter.unusedVariables false
set_option linter.unusedSimpArgs false
variable {E : En Try.prog}
theorem word_ev (hT : E.T = T) {σ : St} (s : List UInt8) : ev E 19 [.str s] σ = some (.ret (.bool (wordB s)), σ) := by
  refine ev_same (fd := f19) (o := .ret (.bool (wordB s))) (by rw [hT]; rfl) (by simp [f19]) rfl ?_ (by simp)
  unfold wordB
  by_cases h : s ∈ wordsL
  · simp only [h, decide_true]
    simp only [wordsL, List.mem_cons, List.not_mem_nil, or_false] at h
    rcases h with rfl | rfl | rfl | rfl | rfl | rfl | rfl | rfl | rfl | rfl | rfl | rfl | rfl | rfl | rfl | rfl | rfl | rfl | rfl | rfl | rfl | rfl <;> simp [f19, d19]
  · simp only [h, decide_false]
    simp only [wordsL, List.mem_cons, List.not_mem_nil, or_false, not_or] at h
    simp [f19, d19, h]
def tlD : D → D
  | .seq _ (.kb _ b) => b
  | d => d
def subD : Nat → D → D → D
  | 0, _, x => x
  | n + 1, .seq a (.kb t b), x => .seq a (.kb t (subD n b x))
  | _, d, _ => d
def Y20 : D := tlD (tlD d20)
theorem sign_half {σ : St} {v : V} {i : Nat} {c : UInt8} (hit : iaV σ 1 v (.int .i64 i) = some (elA v i)) (ld : ldV σ (elA v i) = some (.int .u8 c.toNat)) {f : Fr} (hd : f.ds = []) (e0 : f.env 0 = v) (e1 : f.env 1 = .int .i64 i) :
    run E false [.t 4] [.d Y20] f σ = some (.ret (.int .i64 (if oneL.contains c.toNat then 1 else 0 : Nat)), σ) := by
  by_cases h : c.toNat ∈ oneL
  · have hc : oneL.contains c.toNat = true := by simpa using h
    simp only [hc, if_true]
    simp only [oneL, List.mem_cons, List.not_mem_nil, or_false] at h
    rcases h with h | h | h | h | h | h | h | h | h | h | h | h | h | h | h <;> rw [h] at ld <;> simp [Y20, tlD, d20, hd, e0, e1, hit, ld]
  · have hc : oneL.contains c.toNat = false := by simpa using h
    simp only [hc]
    simp only [oneL, List.mem_cons, List.not_mem_nil, or_false, not_or] at h
    have k : ∀ n : Nat, c.toNat ≠ n → ¬ (c.toNat : Int) = (n : Int) := fun n h e => h (by omega)
    obtain ⟨a40, a41, a123, a125, a44, a58, a61, a59, a43, a45, a42, a47, a37, a60, a62⟩ := h
    have k40 : ¬ (c.toNat : Int) = 40 := by omega
    have k41 : ¬ (c.toNat : Int) = 41 := by omega
    have k123 : ¬ (c.toNat : Int) = 123 := by omega
    have k125 : ¬ (c.toNat : Int) = 125 := by omega
    have k44 : ¬ (c.toNat : Int) = 44 := by omega
    have k58 : ¬ (c.toNat : Int) = 58 := by omega
    have k61 : ¬ (c.toNat : Int) = 61 := by omega
    have k59 : ¬ (c.toNat : Int) = 59 := by omega
    have k43 : ¬ (c.toNat : Int) = 43 := by omega
    have k45 : ¬ (c.toNat : Int) = 45 := by omega
    have k42 : ¬ (c.toNat : Int) = 42 := by omega
    have k47 : ¬ (c.toNat : Int) = 47 := by omega
    have k37 : ¬ (c.toNat : Int) = 37 := by omega
    have k60 : ¬ (c.toNat : Int) = 60 := by omega
    have k62 : ¬ (c.toNat : Int) = 62 := by omega
    simp [Y20, tlD, d20, hd, e0, e1, hit, ld, k40, k41, k123, k125, k44, k58, k61, k59, k43, k45, k42, k47, k37, k60, k62]
theorem sign_ev (hT : E.T = T) {σ : St} {v : V} {b : List UInt8} (hv : Bs σ v b) (hb : b.length < 2 ^ 40) {i : Nat} {c : UInt8} {t : List UInt8} (h : b.drop i = c :: t) :
    ev E 20 [v, .int .i64 i] σ = some (.ret (.int .i64 (signF (c :: t))), σ) := by
  obtain ⟨h1, h2, h3⟩ := at_drop h
  refine ev_same (fd := f20) (o := .ret (.int .i64 (signF (c :: t)))) (by rw [hT]; rfl) (by simp [f20]) rfl ?_ (by simp)
  have hw : IntKind.i64.wrap ((i : Int) + 1) = ((i + 1 : Nat) : Int) := by rw [IntWalk.i64_in _ (by omega)]; omega
  have hw2 : IntKind.i64.wrap ((i : Int) + 2) = ((i + 2 : Nat) : Int) := by rw [IntWalk.i64_in _ (by omega)]; omega
  obtain ⟨j, hj⟩ : ∃ j, j = i + 1 := ⟨_, rfl⟩
  obtain ⟨k, hk⟩ : ∃ k, k = i + 2 := ⟨_, rfl⟩
  rw [← hj] at hw h3
  rw [← hk] at hw2
  have ld := hv.ld h2
  have hit := hv.at h1 (k := .i64)
  have half : ∀ (f : Fr), f.ds = [] → f.env 0 = v → f.env 1 = .int .i64 i → run E false [.t 4] [.d Y20] f σ = some (.ret (.int .i64 (if oneL.contains c.toNat then 1 else 0 : Nat)), σ) := fun f hd e0 e1 => sign_half hit ld hd e0 e1
  have hX : f20.body = subD 2 d20 Y20 := rfl
  rw [hX]
  cases t with
  | nil =>
    have hj2 : ¬ j < b.length := by simp at h3; omega
    simp [f20, d20, subD, hw, hv.len, hj2]
    rw [half _ (by simp) (by simp) (by simp)]
    simp [signF, twoS]
  | cons d u =>
    obtain ⟨g1, g2, g3⟩ := at_drop h3
    have hcut : ∀ env (lo hi : Opd), lo.ev env = .int .i64 i → hi.ev env = .int .i64 k → lslV env σ 1 v (some lo) (some hi) = some (cutV v i k) := fun env lo hi e1 e2 => hv.lslBoth e1 e2 (by omega) (by omega)
    have hst : b2sV σ (cutV v i k) = some (.str [c, d]) := by
      have h := (hv.cut (a := i) (b := k) (by omega) (by omega)).str
      have : (b.take k).drop i = [c, d] := by
        rw [List.drop_take, ‹b.drop i = c :: d :: u›, hk, show i + 2 - i = 2 by omega]; rfl
      rw [this] at h
      exact h
    have t2 : twoS c (d :: u) = twoB c d := rfl
    have hu : ∀ (x : UInt8) (n : Nat), n < 256 → (x = UInt8.ofNat n ↔ x.toNat = n) := fun x n hn => by
      constructor
      · rintro rfl; simp; omega
      · intro h; apply UInt8.toNat.inj; simp; omega
    by_cases c1 : c = 45 ∧ d = 62
    · obtain ⟨rfl, rfl⟩ := c1
      simp [f20, d20, subD, hw, hw2, hv.len, g1, hcut, hst, signF, t2, twoB]
    by_cases c2 : c = 60 ∧ d = 61
    · obtain ⟨rfl, rfl⟩ := c2
      simp [f20, d20, subD, hw, hw2, hv.len, g1, hcut, hst, signF, t2, twoB]
    by_cases c3 : c = 62 ∧ d = 61
    · obtain ⟨rfl, rfl⟩ := c3
      simp [f20, d20, subD, hw, hw2, hv.len, g1, hcut, hst, signF, t2, twoB]
    by_cases c4 : c = 33 ∧ d = 61
    · obtain ⟨rfl, rfl⟩ := c4
      simp [f20, d20, subD, hw, hw2, hv.len, g1, hcut, hst, signF, t2, twoB]
    have ht : twoB c d = false := by
      have e := fun (x : UInt8) (n : Nat) (hn : n < 256) => (hu x n hn)
      simp only [twoB]
      have a1 : ¬ (c.toNat = 45 ∧ d.toNat = 62) := fun h => c1 ⟨(hu c 45 (by omega)).2 h.1, (hu d 62 (by omega)).2 h.2⟩
      have a2 : ¬ (c.toNat = 60 ∧ d.toNat = 61) := fun h => c2 ⟨(hu c 60 (by omega)).2 h.1, (hu d 61 (by omega)).2 h.2⟩
      have a3 : ¬ (c.toNat = 62 ∧ d.toNat = 61) := fun h => c3 ⟨(hu c 62 (by omega)).2 h.1, (hu d 61 (by omega)).2 h.2⟩
      have a4 : ¬ (c.toNat = 33 ∧ d.toNat = 61) := fun h => c4 ⟨(hu c 33 (by omega)).2 h.1, (hu d 61 (by omega)).2 h.2⟩
      simp; omega
    simp [f20, d20, subD, hw, hw2, hv.len, g1, hcut, hst, c1, c2, c3, c4]
    rw [half _ (by simp) (by simp) (by simp)]
    simp [signF, t2, ht]
end Go.Proofs.Ytgmjeklneeljdaa
namespace Go.Proofs.Ytgmjeklneeljdaa
open Go.Proofs.Ytgmjeklneeljdaa.Ab
set_option linter.unusedVariables false
set_option linter.unusedSimpArgs false
variable {E : En Try.prog}
attribute [local simp] Gr.refl Gr.new Gr.set Gr.kill Nat.add_assoc r_cks chk wantG
theorem name_loop (hT : E.T = T) {σ : St} {v p : V} {b : List UInt8} (hv : Bs σ v b) (hb : b.length < 2 ^ 40) {x1 : V} {dd : Bool} {rs : List RC} {st : List SE} {B : D} (hB : B = b15_0) :
    ∀ (u : List UInt8) (j : Nat) (f : Fr), b.drop j = u → j ≤ b.length → f.ds = [] → f.env 0 = v → f.env 1 = x1 → f.env 4 = p → f.env 6 = .int .i64 j →
      Lands E dd rs st (fun f' σ' => σ' = σ ∧ f'.ds = [] ∧ f'.env 0 = v ∧ f'.env 1 = x1 ∧ f'.env 4 = p ∧ f'.env 6 = .int .i64 (j + (u.takeWhile goesB).length : Nat)) (run E dd rs (.d (.loop [0, 1, 4, 6] B) :: .blk 1 :: st) f σ)
  | [], j, f, h, hj, hd, e0, e1, e4, e6 => by
    have hlen := congrArg List.length h
    simp at hlen
    obtain rfl : j = b.length := by omega
    rw [r_loopU hB]
    simp [b15_0, hd, e0, e1, e4, e6, hv.len]
    exact .here ⟨rfl, by simp, by simp, by simp, by simp, by simp⟩
  | c :: t, j, f, h, hj, hd, e0, e1, e4, e6 => by
    obtain ⟨g1, g2, g3⟩ := at_drop h
    have hlen := congrArg List.length h
    simp at hlen
    have hw : IntKind.i64.wrap ((j : Int) + 1) = ((j + 1 : Nat) : Int) := by rw [IntWalk.i64_in _ (by omega)]; omega
    obtain ⟨k, hk⟩ : ∃ k, k = j + 1 := ⟨_, rfl⟩
    rw [← hk] at hw g3
    have ih := fun f => name_loop hT hv hb (p := p) (x1 := x1) (dd := dd) (rs := rs) (st := st) hB t k f g3 (by omega)
    have ld := hv.ld g2
    have k1 := fun σ => small_ev hT (σ := σ) c
    have k2 := fun σ => digit_ev hT (σ := σ) c
    have yes : goesB c = true → ∀ f : Fr, f.ds = [] → f.env 0 = v → f.env 1 = x1 → f.env 4 = p → f.env 6 = .int .i64 k →
        Lands E dd rs st (fun f' σ' => σ' = σ ∧ f'.ds = [] ∧ f'.env 0 = v ∧ f'.env 1 = x1 ∧ f'.env 4 = p ∧ f'.env 6 = .int .i64 (j + ((c :: t).takeWhile goesB).length : Nat)) (run E dd rs (.d (.loop [0, 1, 4, 6] B) :: .blk 1 :: st) f σ) := fun hg f q0 q1 q2 q3 q4 => by
      have := ih f q0 q1 q2 q3 q4
      rw [List.takeWhile_cons_of_pos hg, List.length_cons, show j + ((t.takeWhile goesB).length + 1) = k + (t.takeWhile goesB).length by omega]
      exact this
    rw [r_loopU hB]
    cases hs : smallB c with
    | true =>
      rw [hs] at k1
      simp [b15_0, hd, e0, e1, e4, e6, hv.len, g1, hv.at g1, ld, k1, hw]
      exact yes (by simp [goesB, hs]) _ (by simp) (by simp) (by simp) (by simp) (by simp)
    | false =>
      rw [hs] at k1
      cases hg : digitB c with
      | true =>
        rw [hg] at k2
        simp [b15_0, hd, e0, e1, e4, e6, hv.len, g1, hv.at g1, ld, k1, k2, hw]
        exact yes (by simp [goesB, hg]) _ (by simp) (by simp) (by simp) (by simp) (by simp)
      | false =>
        rw [hg] at k2
        by_cases c3 : (c.toNat : Int) = 95
        · simp [b15_0, hd, e0, e1, e4, e6, hv.len, g1, hv.at g1, ld, k1, k2, eq_true c3, hw]
          exact yes (by simp [goesB]; omega) _ (by simp) (by simp) (by simp) (by simp) (by simp)
        · have hn : goesB c = false := by simp [goesB, hs, hg]; omega
          rw [List.takeWhile_cons_of_neg (by simp [hn])]
          simp [b15_0, hd, e0, e1, e4, e6, hv.len, g1, hv.at g1, ld, k1, k2, c3]
          exact .here ⟨rfl, by simp, by simp, by simp, by simp, by simp⟩
theorem dig_loop (hT : E.T = T) {σ : St} {v p : V} {b : List UInt8} (hv : Bs σ v b) (hb : b.length < 2 ^ 40) {x1 : V} {dd : Bool} {rs : List RC} {st : List SE} {B : D} (hB : B = b15_1) :
    ∀ (u : List UInt8) (j : Nat) (f : Fr), b.drop j = u → j ≤ b.length → f.ds = [] → f.env 0 = v → f.env 1 = x1 → f.env 4 = p → f.env 6 = .int .i64 j →
      Lands E dd rs st (fun f' σ' => σ' = σ ∧ f'.ds = [] ∧ f'.env 0 = v ∧ f'.env 1 = x1 ∧ f'.env 4 = p ∧ f'.env 6 = .int .i64 (j + (u.takeWhile digitB).length : Nat)) (run E dd rs (.d (.loop [0, 1, 4, 6] B) :: .blk 3 :: st) f σ)
  | [], j, f, h, hj, hd, e0, e1, e4, e6 => by
    have hlen := congrArg List.length h
    simp at hlen
    obtain rfl : j = b.length := by omega
    rw [r_loopU hB]
    simp [b15_1, hd, e0, e1, e4, e6, hv.len]
    exact .here ⟨rfl, by simp, by simp, by simp, by simp, by simp⟩
  | c :: t, j, f, h, hj, hd, e0, e1, e4, e6 => by
    obtain ⟨g1, g2, g3⟩ := at_drop h
    have hlen := congrArg List.length h
    simp at hlen
    have hw : IntKind.i64.wrap ((j : Int) + 1) = ((j + 1 : Nat) : Int) := by rw [IntWalk.i64_in _ (by omega)]; omega
    obtain ⟨k, hk⟩ : ∃ k, k = j + 1 := ⟨_, rfl⟩
    rw [← hk] at hw g3
    have ih := fun f => dig_loop hT hv hb (p := p) (x1 := x1) (dd := dd) (rs := rs) (st := st) hB t k f g3 (by omega)
    have ld := hv.ld g2
    have k2 := fun σ => digit_ev hT (σ := σ) c
    rw [r_loopU hB]
    cases hg : digitB c with
    | true =>
      rw [hg] at k2
      rw [List.takeWhile_cons_of_pos hg, List.length_cons, show j + ((t.takeWhile digitB).length + 1) = k + (t.takeWhile digitB).length by omega]
      simp [b15_1, hd, e0, e1, e4, e6, hv.len, g1, hv.at g1, ld, k2, hw]
      exact ih _ (by simp) (by simp) (by simp) (by simp) (by simp)
    | false =>
      rw [hg] at k2
      rw [List.takeWhile_cons_of_neg (by simp [hg])]
      simp [b15_1, hd, e0, e1, e4, e6, hv.len, g1, hv.at g1, ld, k2]
      exact .here ⟨rfl, by simp, by simp, by simp, by simp, by simp⟩
def tokV (i : Nat) (q : Nat × List UInt8 × Nat) : V :=
  if q.2.2 = 0 then .tup [.agg [.int .i64 q.1, .str q.2.1, .int .i64 i, .int .i64 (i + q.2.1.length : Nat)], .int .i64 0]
  else .tup [.agg [.int .i64 0, .str [], .int .i64 0, .int .i64 0], .int .i64 q.2.2]
theorem cut_n {b s : List UInt8} {i : Nat} (h : b.drop i = s) (n : Nat) : (b.take (i + n)).drop i = s.take n := by
  rw [List.drop_take, h, show i + n - i = n by omega]
set_option maxRecDepth 100000 in
theorem token_ev (hT : E.T = T) {σ : St} {v : V} {b : List UInt8} (hv : Bs σ v b) (ho : v.old σ) (hb : b.length < 2 ^ 40) {i : Nat} {c : UInt8} {t : List UInt8} (h : b.drop i = c :: t) :
    ev E 15 [v, .int .i64 i] σ = some (.ret (tokV i (tokF (c :: t))), σ) := by
  obtain ⟨h1, h2, h3⟩ := at_drop h
  have hlen := congrArg List.length h
  simp at hlen
  obtain ⟨s1, hs1⟩ : ∃ s1, s1 = σ.new (.row 4 [[.int .i64 0, .str [], .int .i64 0, .int .i64 0]]) := ⟨_, rfl⟩
  have g1 : Gr σ s1 := by rw [hs1]; exact (Gr.refl σ).new _
  have b1 : s1.H σ.n = some (.row 4 [[.int .i64 0, .str [], .int .i64 0, .int .i64 0]]) := by rw [hs1]; simp
  have hv1 := hv.gr g1 ho
  have ld := hv1.ld h2
  have hit := hv1.at h1 (k := .i64)
  have k1 := fun σ => small_ev hT (σ := σ) c
  have k2 := fun σ => digit_ev hT (σ := σ) c
  have hcut : ∀ env (lo hi : Opd) (n : Nat), lo.ev env = .int .i64 i → hi.ev env = .int .i64 (i + n : Nat) → i + n ≤ b.length → lslV env s1 1 v (some lo) (some hi) = some (cutV v i (i + n)) := fun env lo hi n e1 e2 hn => hv1.lslBoth e1 e2 (by omega) hn
  have hst : ∀ n, i + n ≤ b.length → b2sV s1 (cutV v i (i + n)) = some (.str ((c :: t).take n)) := fun n hn => by
    have h' := (hv1.cut (a := i) (b := i + n) (by omega) hn).str
    rwa [cut_n h] at h'
  suffices hr : ∃ τ, run E false f15.res [.d f15.body] ⟨envOf [v, .int .i64 i], []⟩ σ = some (.ret (tokV i (tokF (c :: t))), τ) ∧ Gr σ τ by
    obtain ⟨τ, hr, hg⟩ := hr
    exact ev_pure (fd := f15) (by rw [hT]; rfl) (by simp [f15]) rfl hr hg.H hg.W (by unfold tokV; split <;> simp)
  show ∃ τ, _ ∧ Gr σ τ
  cases hs : smallB c with
  | true =>
    rw [hs] at k1
    have hle := takeWhile_le goesB (c :: t)
    have htk := take_takeWhile goesB (c :: t)
    rw [tokF_name hs]
    simp [f15, d15, ← hs1, hit, ld, k1]
    refine Lands.to (C := fun r => ∃ τ, r = some (CO.ret (tokV i _), τ) ∧ Gr σ τ) (name_loop hT hv1 hb (p := .ptr σ.n 0 0) (x1 := .int .i64 i) rfl (c :: t) i _ h (by omega) (by simp) (by simp) (by simp) (by simp) (by simp)) ?_
    rintro f' σ' ⟨rfl, q0, q1, q2, q3, q4⟩
    obtain ⟨n, hn⟩ : ∃ n, n = ((c :: t).takeWhile goesB).length := ⟨_, rfl⟩
    rw [← hn] at hle htk q4
    have hil : i + n ≤ b.length := by rw [List.length_cons] at hle; omega
    have hc1 := fun env lo hi e1 e2 => hcut env lo hi n e1 e2 hil
    have hc2 := hst n hil
    rw [htk] at hc2
    obtain ⟨m, hm⟩ : ∃ m, m = i + n := ⟨_, rfl⟩
    rw [← hm] at hc1 hc2 q4
    have hw : IntKind.i64.wrap ((m : Int) - i) = (n : Int) := by rw [IntWalk.i64_in _ (by omega)]; omega
    have hwd := fun σ => word_ev hT (σ := σ) ((c :: t).takeWhile goesB)
    obtain ⟨tw, htw⟩ : ∃ tw, tw = (c :: t).takeWhile goesB := ⟨_, rfl⟩
    rw [← htw] at hn hc2 hwd ⊢
    rw [← hn]
    cases hwb : wordB tw with
    | true =>
      rw [hwb] at hwd
      by_cases hl : 24 < n
      · have hl' : (24 : Int) < n := by omega
        rw [if_pos (by omega)]
        exact ⟨_, by simp [q0, q1, q2, q3, q4, hc1, hc2, hwd, hw, hl, hl', b1, tokV]; rfl, by simp (maxDischargeDepth := 12) [g1]⟩
      · have hl' : ¬ (24 : Int) < n := by omega
        rw [if_neg (by omega)]
        have hV : tokV i (2, tw, 0) = .tup [.agg [.int .i64 2, .str tw, .int .i64 i, .int .i64 m], .int .i64 0] := by simp [tokV, hm, hn]
        exact ⟨_, by simp [q0, q1, q2, q3, q4, hc1, hc2, hwd, hw, hl, hl', b1, hV]; rfl, by simp (maxDischargeDepth := 12) [g1]⟩
    | false =>
      rw [hwb] at hwd
      by_cases hl : 24 < n
      · have hl' : (24 : Int) < n := by omega
        rw [if_pos (by omega)]
        exact ⟨_, by simp [q0, q1, q2, q3, q4, hc1, hc2, hwd, hw, hl, hl', b1, tokV]; rfl, by simp (maxDischargeDepth := 12) [g1]⟩
      · have hl' : ¬ (24 : Int) < n := by omega
        rw [if_neg (by omega)]
        have hV : tokV i (1, tw, 0) = .tup [.agg [.int .i64 1, .str tw, .int .i64 i, .int .i64 m], .int .i64 0] := by simp [tokV, hm, hn]
        exact ⟨_, by simp [q0, q1, q2, q3, q4, hc1, hc2, hwd, hw, hl, hl', b1, hV]; rfl, by simp (maxDischargeDepth := 12) [g1]⟩
  | false =>
    rw [hs] at k1
    cases hg : digitB c with
    | true =>
      rw [hg] at k2
      have hle := takeWhile_le digitB (c :: t)
      have htk := take_takeWhile digitB (c :: t)
      rw [tokF_dig hs hg]
      simp [f15, d15, ← hs1, hit, ld, k1, k2]
      refine Lands.to (C := fun r => ∃ τ, r = some (CO.ret (tokV i _), τ) ∧ Gr σ τ) (dig_loop hT hv1 hb (p := .ptr σ.n 0 0) (x1 := .int .i64 i) rfl (c :: t) i _ h (by omega) (by simp) (by simp) (by simp) (by simp) (by simp)) ?_
      rintro f' σ' ⟨rfl, q0, q1, q2, q3, q4⟩
      obtain ⟨n, hn⟩ : ∃ n, n = ((c :: t).takeWhile digitB).length := ⟨_, rfl⟩
      rw [← hn] at hle htk q4
      have hil : i + n ≤ b.length := by rw [List.length_cons] at hle; omega
      have hc1 := fun env lo hi e1 e2 => hcut env lo hi n e1 e2 hil
      have hc2 := hst n hil
      rw [htk] at hc2
      obtain ⟨m, hm⟩ : ∃ m, m = i + n := ⟨_, rfl⟩
      rw [← hm] at hc1 hc2 q4
      have hw : IntKind.i64.wrap ((m : Int) - i) = (n : Int) := by rw [IntWalk.i64_in _ (by omega)]; omega
      obtain ⟨tw, htw⟩ : ∃ tw, tw = (c :: t).takeWhile digitB := ⟨_, rfl⟩
      rw [← htw] at hn hc2 ⊢
      rw [← hn]
      by_cases hl : 40 < n
      · have hl' : (40 : Int) < n := by omega
        rw [if_pos (by omega)]
        exact ⟨_, by simp [q0, q1, q2, q3, q4, hc1, hc2, hw, hl, hl', b1, tokV]; rfl, by simp (maxDischargeDepth := 12) [g1]⟩
      · have hl' : ¬ (40 : Int) < n := by omega
        rw [if_neg (by omega)]
        have hV : tokV i (3, tw, 0) = .tup [.agg [.int .i64 3, .str tw, .int .i64 i, .int .i64 m], .int .i64 0] := by simp [tokV, hm, hn]
        exact ⟨_, by simp [q0, q1, q2, q3, q4, hc1, hc2, hw, hl, hl', b1, hV]; rfl, by simp (maxDischargeDepth := 12) [g1]⟩
    | false =>
      rw [hg] at k2
      have hsg := sign_ev hT hv1 hb h
      have hsl := (sign_le c t).1
      rw [tokF_sign hs hg]
      obtain ⟨n, hn⟩ : ∃ n, n = signF (c :: t) := ⟨_, rfl⟩
      rw [← hn] at hsg hsl ⊢
      have hil : i + n ≤ b.length := by rw [List.length_cons] at hsl; omega
      have hc1 := fun env lo hi e1 e2 => hcut env lo hi n e1 e2 hil
      have hc2 := hst n hil
      have hlt : ((c :: t).take n).length = n := by rw [List.length_take]; omega
      obtain ⟨m, hm⟩ : ∃ m, m = i + n := ⟨_, rfl⟩
      rw [← hm] at hc1 hc2
      have hw : IntKind.i64.wrap ((i : Int) + n) = (m : Int) := by rw [IntWalk.i64_in _ (by omega)]; omega
      obtain ⟨tw, htw⟩ : ∃ tw, tw = (c :: t).take n := ⟨_, rfl⟩
      rw [← htw] at hlt hc2 ⊢
      by_cases hl : n = 0
      · have hl' : (m : Int) = i := by omega
        rw [if_pos hl]
        exact ⟨_, by simp [f15, d15, ← hs1, hit, ld, k1, k2, hsg, hw, eq_true hl', b1, tokV]; rfl, by simp (maxDischargeDepth := 12) [g1]⟩
      · have hl' : ¬ (m : Int) = i := by omega
        rw [if_neg hl]
        have hV : tokV i (4, tw, 0) = .tup [.agg [.int .i64 4, .str tw, .int .i64 i, .int .i64 m], .int .i64 0] := by simp [tokV, hm, hlt]
        exact ⟨_, by simp [f15, d15, ← hs1, hit, ld, k1, k2, hsg, hw, hl', b1, hV, hc1, hc2]; rfl, by simp (maxDischargeDepth := 12) [g1]⟩
end Go.Proofs.Ytgmjeklneeljdaa
namespace Go.Proofs.Ytgmjeklneeljdaa
open Go.Proofs.Ytgmjeklneeljdaa.Ab
set_option linter.unusedVariables false
set_option linter.unusedSimpArgs false
variable {E : En Try.prog}
attribute [local simp] Gr.refl Gr.new Gr.set Gr.kill Nat.add_assoc r_cks chk wantG
def tkE (q : TK) : List V := [.int .i64 q.kind, .str q.txt, .int .i64 q.fr, .int .i64 (q.fr + q.txt.length : Nat)]
theorem tkE_pure (l : List TK) : ∀ e ∈ l.map tkE, ∀ u ∈ e, u.pure = true := fun e he u hu => by
  simp at he; obtain ⟨c, _, rfl⟩ := he; simp [tkE] at hu; rcases hu with rfl | rfl | rfl | rfl <;> rfl
/-- How the loop over a text's tokens ends. -/
def TkR (σ0 : St) (acc : List TK) (q : List TK × Nat × Nat) (r : Option (CO × St)) : Prop :=
  if q.2.2 = 0 then ∃ u τ, r = some (.ret (.tup [u, .int .i64 0, .int .i64 0]), τ) ∧ Own σ0 τ 4 u ((acc ++ q.1).map tkE)
  else ∃ τ, r = some (.ret (.tup [.nils, .int .i64 q.2.1, .int .i64 q.2.2]), τ) ∧ Gr σ0 τ
def X10 : D := tlD (tlD (tlD d10))
theorem toks_loop (hT : E.T = T) {σ0 : St} {v : V} {b : List UInt8} (hv : Bs σ0 v b) (ho : v.old σ0) (hb : b.length < 2 ^ 40) {B : D} (hB : B = b10_0) :
    ∀ (n : Nat) (s : List UInt8) (acc : List TK) (f : Fr) (σ : St), s <:+ b → s.length < n → acc.length + s.length ≤ b.length → f.ds = [] → f.env 0 = v → f.env 6 = .int .i64 (b.length - (skipF false s).length : Nat) → Own σ0 σ 4 (f.env 5) (acc.map tkE) →
      TkR σ0 acc (toksF b.length n s) (run E false [.t 2, .t 3, .t 4] (.d (.loop [0, 5, 6] B) :: .blk 0 :: [.d (.kb [0, 5] X10)]) f σ)
  | 0, s, acc, f, σ, h1, h2, h3, hd, e0, e6, hq => by omega
  | n + 1, s, acc, f, σ, h1, h2, h3, hd, e0, e6, hq => by
    have hv' := hv.gr hq.gr ho
    have hss := skip_suf s false
    have hsl := hss.length_le
    have hsb := hss.trans h1
    have hbl := hsb.length_le
    have hdr := suf_drop hsb
    rw [r_loopU hB]
    unfold toksF
    cases hk : skipF false s with
    | nil =>
      rw [hk] at e6
      simp only [List.length_nil, Nat.sub_zero] at e6
      obtain ⟨u, τ, ap, hq'⟩ := hq.app1 [tkE ⟨0, [], b.length⟩] (by simp) (bytes := 40) (by simp [reach]; omega) (by simp [reach]; omega) (n := 1) rfl
      simp [tkE] at ap
      simp only [TkR, if_true]
      exact ⟨u, τ, by simp [b10_0, X10, tlD, d10, hd, e0, e6, hv'.len, ap], by simpa [tkE] using hq'⟩
    | cons c t =>
      rw [hk] at hss hsl hsb hbl hdr e6
      obtain ⟨i, hi⟩ : ∃ i, i = b.length - (c :: t).length := ⟨_, rfl⟩
      rw [← hi] at hdr e6
      have hil : i < b.length := (at_drop hdr).1
      have htk := token_ev hT hv' (V.old_gr ho hq.gr) hb hdr
      simp only
      by_cases h0 : (tokF (c :: t)).2.2 = 0
      · obtain ⟨l1, l2, l3⟩ := tok_len h0
        obtain ⟨kd, hkd⟩ : ∃ k, k = (tokF (c :: t)).1 := ⟨_, rfl⟩
        obtain ⟨tx, htx⟩ : ∃ k, k = (tokF (c :: t)).2.1 := ⟨_, rfl⟩
        have hV : tokV i (tokF (c :: t)) = .tup [.agg [.int .i64 kd, .str tx, .int .i64 i, .int .i64 (i + tx.length : Nat)], .int .i64 0] := by
          simp [tokV, h0, hkd, htx]
        rw [hV] at htk
        rw [← htx] at l1 l2 l3
        rw [← hkd, ← htx, if_pos h0]
        obtain ⟨m, hm⟩ : ∃ m, m = i + tx.length := ⟨_, rfl⟩
        rw [← hm] at htk
        have hd2 : b.drop m = (c :: t).drop tx.length := by rw [hm, ← List.drop_drop, hdr]
        have hsuf : (c :: t).drop tx.length <:+ b := (List.drop_suffix _ _).trans hsb
        have hlen : ((c :: t).drop tx.length).length = (c :: t).length - tx.length := List.length_drop
        obtain ⟨s1, hs1⟩ : ∃ s1, s1 = (σ.new (.row 4 [[.int .i64 0, .str [], .int .i64 0, .int .i64 0]])).set σ.n (.row 4 [[.int .i64 kd, .str tx, .int .i64 i, .int .i64 m]]) := ⟨_, rfl⟩
        have g1 : Gr σ s1 := by rw [hs1]; exact ((Gr.refl σ).new _).set (Nat.le_refl _) _
        have b1 : s1.H σ.n = some (.row 4 [[.int .i64 kd, .str tx, .int .i64 i, .int .i64 m]]) := by rw [hs1]; simp
        have n1 : σ.n < s1.n := by rw [hs1]; simp
        obtain ⟨u, τ, ap, hq', a1, a2, a3⟩ := (hq.step g1).app1N [tkE ⟨kd, tx, i⟩] (by simp) (bytes := 40) (by simp [reach]; omega) (by simp [reach]; omega) (n := 1) rfl
        simp only [tkE, ← hm] at ap
        have b2 : τ.H σ.n = some (.row 4 [[.int .i64 kd, .str tx, .int .i64 i, .int .i64 m]]) := by
          rw [a3 σ.n n1 (fun h => by have := (hq.lo _ h).2; omega)]; exact b1
        have b3 : (s1.new (.row 4 [[.int .i64 kd, .str tx, .int .i64 i, .int .i64 m]])).H σ.n = some (.row 4 [[.int .i64 kd, .str tx, .int .i64 i, .int .i64 m]]) := by simp [show σ.n ≠ s1.n by omega, b1]
        have hml : m ≤ b.length := by rw [hm]; omega
        have hskp := skip_ev hT (hv.gr hq'.gr ho) hb hml
        rw [hd2] at hskp
        have ih := fun f a b c d => toks_loop hT hv ho hb hB n _ (acc ++ [⟨kd, tx, i⟩]) f τ hsuf (by omega) (by simp; simp at hlen l1 l3 hsl; omega) a b c d
        have hfin : TkR σ0 acc (if (toksF b.length n ((c :: t).drop tx.length)).2.2 = 0 then (⟨kd, tx, b.length - (c :: t).length⟩ :: (toksF b.length n ((c :: t).drop tx.length)).1, 0, 0) else ([], (toksF b.length n ((c :: t).drop tx.length)).2.1, (toksF b.length n ((c :: t).drop tx.length)).2.2)) = TkR σ0 (acc ++ [⟨kd, tx, i⟩]) (toksF b.length n ((c :: t).drop tx.length)) := by
          rw [← hi]
          funext r
          unfold TkR
          by_cases hr : (toksF b.length n ((c :: t).drop tx.length)).2.2 = 0
          · simp [hr]
          · simp [hr]
        rw [hfin]
        simp [b10_0, hd, e0, e6, hv'.len, hil, htk, ← hs1, b1, b3, ap, b2, hskp]
        refine ih _ ?_ ?_ ?_ ?_
        · simp
        · simp
        · simp
        · simpa [tkE, hm] using hq'
      · have hV : tokV i (tokF (c :: t)) = .tup [.agg [.int .i64 0, .str [], .int .i64 0, .int .i64 0], .int .i64 (tokF (c :: t)).2.2] := by
          simp [tokV, h0]
        rw [hV] at htk
        have h0' : ¬ ((tokF (c :: t)).2.2 : Int) = 0 := by omega
        rw [if_neg h0]
        obtain ⟨er, her⟩ : ∃ k, k = (tokF (c :: t)).2.2 := ⟨_, rfl⟩
        rw [← her] at htk h0 h0' ⊢
        rw [← hi]
        simp only [TkR, if_neg h0]
        show ∃ τ, _ ∧ Gr σ0 τ
        exact ⟨_, by simp [b10_0, hd, e0, e6, hv'.len, hil, htk, h0, h0']; rfl, (hq.gr.new _).set hq.gr.n _⟩
/-- What Tokens tells of a text. -/
def tokensV (b : List UInt8) : V :=
  if (toksF b.length (b.length + 1) b).2.2 = 0 then .tup [.islc 4 ((toksF b.length (b.length + 1) b).1.map tkE), .int .i64 0, .int .i64 0]
  else .tup [.nils, .int .i64 (toksF b.length (b.length + 1) b).2.1, .int .i64 (toksF b.length (b.length + 1) b).2.2]
theorem toks_ne {L : Nat} : ∀ (n : Nat) (s : List UInt8), s.length < n → (toksF L n s).2.2 = 0 → (toksF L n s).1 ≠ []
  | 0, s, h, _ => by omega
  | n + 1, s, h, h0 => by
    unfold toksF at h0 ⊢
    split
    · simp
    · rename_i hk
      rw [hk] at h0
      simp only at h0
      split
      · rename_i h1
        rw [if_pos h1] at h0
        split
        · simp
        · rename_i h2
          rw [if_neg h2] at h0
          exact absurd h0 h2
      · rename_i h1
        rw [if_neg h1] at h0
        exact absurd h0 h1
theorem tokens_ev (hT : E.T = T) {σ : St} {v : V} {b : List UInt8} (hv : Bs σ v b) (ho : v.old σ) (hb : b.length < 2 ^ 40) :
    ev E 10 [v] σ = some (.ret (tokensV b), σ) := by
  have hs : ev E 13 [v, .int .i64 0] σ = some (.ret (.int .i64 (b.length - (skipF false b).length : Nat)), σ) := skip_ev hT hv hb (i := 0) (by omega)
  have key := fun f a b' c d => toks_loop hT hv ho hb (B := b10_0) rfl (b.length + 1) b [] f σ (List.suffix_refl _) (by omega) (by simp) a b' c d
  have hr : run E false f10.res [.d f10.body] ⟨envOf [v], []⟩ σ = run E false [.t 2, .t 3, .t 4] (.d (.loop [0, 5, 6] b10_0) :: .blk 0 :: [.d (.kb [0, 5] X10)]) ⟨lk [0, 5, 6] [v, .nils, .int .i64 (b.length - (skipF false b).length : Nat)], []⟩ σ := by
    have hX : f10.body = subD 3 d10 X10 := rfl
    rw [hX]
    simp [f10, d10, subD, hs]
  have k := key ⟨lk [0, 5, 6] [v, .nils, .int .i64 (b.length - (skipF false b).length : Nat)], []⟩ rfl (by simp) (by simp) (by simpa using Own.nils σ 4)
  unfold TkR at k
  unfold tokensV
  by_cases h0 : (toksF b.length (b.length + 1) b).2.2 = 0
  · rw [if_pos h0] at k ⊢
    obtain ⟨u, τ, e, hq⟩ := k
    refine ev_pure (fd := f10) (o := .ret (.tup [u, .int .i64 0, .int .i64 0])) (σ' := τ) (by rw [hT]; rfl) (by simp [f10]) rfl (by rw [hr, e]) hq.gr.H hq.gr.W ?_
    have hne := toks_ne (L := b.length) _ b (by omega) h0
    have hf := hq.frz (by simpa using tkE_pure _) 2
    have hu : u ≠ .nils := by
      rcases hq.sl with ⟨_, h⟩ | ⟨l, rfl, _⟩
      · simp at h; exact absurd h hne
      · simp
    have hf := hq.frz (by simpa using tkE_pure _) 3
    rw [told_is hu] at hf
    have hfA : frzA τ.H (fun l => decide (l < σ.n)) u = .islc 4 ((toksF b.length (b.length + 1) b).1.map tkE) := by
      rcases hq.sl with ⟨h, _⟩ | ⟨l, rfl, _⟩
      · exact absurd h hu
      · simpa using hf
    simp [hfA]
  · rw [if_neg h0] at k ⊢
    obtain ⟨τ, e, hq⟩ := k
    exact ev_pure (fd := f10) (o := .ret (.tup [.nils, .int .i64 (toksF b.length (b.length + 1) b).2.1, .int .i64 (toksF b.length (b.length + 1) b).2.2])) (σ' := τ) (by rw [hT]; rfl) (by simp [f10]) rfl (by rw [hr, e]) hq.H hq.W (by simp)
end Go.Proofs.Ytgmjeklneeljdaa
