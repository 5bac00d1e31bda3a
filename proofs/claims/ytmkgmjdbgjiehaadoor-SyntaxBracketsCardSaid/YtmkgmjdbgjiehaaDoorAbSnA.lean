/-
The walk over the program's texts, told with what its values say: a part of it. No further condition.
-/
import Derived.Test.YtmkgmjdbgjiehaaDoorAbSyU
import Derived.Test.YtmkgmjdbgjiehaaDoorAbPt
namespace Go.Proofs.YtmkgmjdbgjiehaaDoor
open Go.Proofs.YtmkgmjdbgjiehaaDoor.Ab
set_option linter.unusedVariables false
set_option linter.unusedSimpArgs false
variable {E : En Tryd.prog}
theorem small_ev (hT : E.T = T) {σ : St} (c : UInt8) : ev E 45 [.int .u8 c.toNat] σ = some (.ret (.bool (smallB c)), σ) := by
  refine ev_same (fd := f45) (o := .ret (.bool (smallB c))) (by rw [hT]; rfl) (by simp [f45]) rfl ?_ (by simp)
  unfold smallB
  by_cases h : (97 : Int) ≤ c.toNat <;> by_cases h2 : (c.toNat : Int) ≤ 122 <;> simp [f45, d45, h, h2] <;> omega
theorem digit_ev (hT : E.T = T) {σ : St} (c : UInt8) : ev E 46 [.int .u8 c.toNat] σ = some (.ret (.bool (digitB c)), σ) := by
  refine ev_same (fd := f46) (o := .ret (.bool (digitB c))) (by rw [hT]; rfl) (by simp [f46]) rfl ?_ (by simp)
  unfold digitB
  by_cases h : (48 : Int) ≤ c.toNat <;> by_cases h2 : (c.toNat : Int) ≤ 57 <;> simp [f46, d46, h, h2] <;> omega
theorem at_drop {b : List UInt8} {i : Nat} {c : UInt8} {t : List UInt8} (h : b.drop i = c :: t) : i < b.length ∧ b[i]? = some c ∧ b.drop (i + 1) = t := by
  have h1 : i < b.length := by
    rcases Nat.lt_or_ge i b.length with h' | h'
    · exact h'
    · rw [List.drop_eq_nil_of_le h'] at h; simp at h
  have := congrArg (·[0]?) h
  refine ⟨h1, by simpa using this, by rw [← List.drop_drop, h]; rfl⟩
theorem remark_ev (hT : E.T = T) {σ : St} {v : V} {b : List UInt8} (hv : Bs σ v b) (hb : b.length < 2 ^ 40) {i : Nat} {c : UInt8} {t : List UInt8} (h : b.drop i = c :: t) :
    ev E 44 [v, .int .i64 i] σ = some (.ret (.bool (c.toNat == 47 && slashB t)), σ) := by
  obtain ⟨h1, h2, h3⟩ := at_drop h
  refine ev_same (fd := f44) (o := .ret (.bool (c.toNat == 47 && slashB t))) (by rw [hT]; rfl) (by simp [f44]) rfl ?_ (by simp)
  have hw : IntKind.i64.wrap ((i : Int) + 1) = ((i + 1 : Nat) : Int) := by rw [IntWalk.i64_in _ (by omega)]; omega
  obtain ⟨j, hj⟩ : ∃ j, j = i + 1 := ⟨_, rfl⟩
  rw [← hj] at hw h3
  by_cases hc : (c.toNat : Int) = 47
  · have hc' : c.toNat = 47 := by omega
    cases t with
    | nil =>
      have hj2 : ¬ j < b.length := by simp at h3; omega
      simp [f44, d44, hv.len, hv.at h1, hv.ld h2, hc, hw, hj2, slashB]
    | cons d t =>
      obtain ⟨g1, g2, g3⟩ := at_drop h3
      by_cases hd : (d.toNat : Int) = 47
      · have hd' : d.toNat = 47 := by omega
        simp [f44, d44, hv.len, hv.at h1, hv.ld h2, hv.at g1, hv.ld g2, hc, hc', hw, g1, hd, hd', slashB]
      · have hd' : ¬ d.toNat = 47 := by omega
        simp [f44, d44, hv.len, hv.at h1, hv.ld h2, hv.at g1, hv.ld g2, hc, hc', hw, g1, hd, hd', slashB]
  · have hc' : ¬ c.toNat = 47 := by omega
    simp [f44, d44, hv.len, hv.at h1, hv.ld h2, hc, hc', slashB]
theorem skip_loop (hT : E.T = T) {σ : St} {v : V} {b : List UInt8} (hv : Bs σ v b) (hb : b.length < 2 ^ 40) {x : D} (hx : ∀ (f : Fr) (j : Nat), f.ds = [] → f.env 1 = .int .i64 j → run E false [.t 4] [.d x] f σ = some (.ret (.int .i64 j), σ))
    {B0 B1 : D} (h0 : B0 = b25_0) (h1 : B1 = b25_1) :
    ∀ (s : List UInt8) (i : Nat) (f : Fr), b.drop i = s → i ≤ b.length → f.ds = [] → f.env 0 = v → f.env 1 = .int .i64 i →
      run E false [.t 4] (.d (.loop [0, 1] B1) :: .blk 0 :: [.d x]) f σ = some (.ret (.int .i64 (b.length - (skipF false s).length : Nat)), σ) ∧
      run E false [.t 4] (.d (.loop [0, 1] B0) :: .blk 3 :: .blk 2 :: .blk 1 :: .lp [0, 1] B1 :: .blk 0 :: [.d x]) f σ = some (.ret (.int .i64 (b.length - (skipF true s).length : Nat)), σ)
  | [], i, f, h, hi, hd, e0, e1 => by
    have hlen := congrArg List.length h
    simp at hlen
    obtain rfl : i = b.length := by omega
    have A : ∀ f : Fr, f.ds = [] → f.env 0 = v → f.env 1 = .int .i64 b.length → run E false [.t 4] (.d (.loop [0, 1] B1) :: .blk 0 :: [.d x]) f σ = some (.ret (.int .i64 (b.length - (skipF false []).length : Nat)), σ) := fun f hd e0 e1 => by
      rw [r_loopU h1]
      simp [b25_1, e0, e1, hv.len, skipF]
      exact hx _ _ (by simpa using hd) (by simp)
    refine ⟨A f hd e0 e1, ?_⟩
    rw [r_loopU h0]
    simp [b25_0, e0, e1, hv.len]
    exact A _ (by simpa using hd) (by simp) (by simp)
  | c :: t, i, f, h, hi, hd, e0, e1 => by
    obtain ⟨g1, g2, g3⟩ := at_drop h
    have hlen := congrArg List.length h
    simp at hlen
    have hw : IntKind.i64.wrap ((i : Int) + 1) = ((i + 1 : Nat) : Int) := by rw [IntWalk.i64_in _ (by omega)]; omega
    obtain ⟨j, hj⟩ : ∃ j, j = i + 1 := ⟨_, rfl⟩
    rw [← hj] at hw g3
    have ih := fun f => skip_loop hT hv hb hx h0 h1 t j f g3 (by omega)
    have hrm := remark_ev hT hv hb h
    have ld := hv.ld g2
    have A : ∀ f : Fr, f.ds = [] → f.env 0 = v → f.env 1 = .int .i64 i → run E false [.t 4] (.d (.loop [0, 1] B1) :: .blk 0 :: [.d x]) f σ = some (.ret (.int .i64 (b.length - (skipF false (c :: t)).length : Nat)), σ) := fun f hd e0 e1 => by
      rw [r_loopU h1]
      have hbl : blankB c = true → skipF false (c :: t) = skipF false t := fun h => by
        have : c.toNat ≠ 47 := by simp [blankB] at h; omega
        have e : (c.toNat == 47) = false := by simpa using this
        simp [skipF, offB, h, e]
      have ih0 := fun f a b c => (ih f a b c).1
      by_cases c1 : (c.toNat : Int) = 32
      · simp [b25_1, e0, e1, hd, hv.len, g1, hv.at g1, ld, eq_true c1, hw]
        rw [hbl (by simp [blankB]; omega)]
        exact ih0 _ (by simp) (by simp) (by simp)
      by_cases c2 : (c.toNat : Int) = 9
      · simp [b25_1, e0, e1, hd, hv.len, g1, hv.at g1, ld, c1, eq_true c2, hw]
        rw [hbl (by simp [blankB]; omega)]
        exact ih0 _ (by simp) (by simp) (by simp)
      by_cases c3 : (c.toNat : Int) = 10
      · simp [b25_1, e0, e1, hd, hv.len, g1, hv.at g1, ld, c1, c2, eq_true c3, hw]
        rw [hbl (by simp [blankB]; omega)]
        exact ih0 _ (by simp) (by simp) (by simp)
      by_cases c4 : (c.toNat : Int) = 13
      · simp [b25_1, e0, e1, hd, hv.len, g1, hv.at g1, ld, c1, c2, c3, eq_true c4, hw]
        rw [hbl (by simp [blankB]; omega)]
        exact ih0 _ (by simp) (by simp) (by simp)
      have hb' : blankB c = false := by simp [blankB]; omega
      by_cases c5 : c.toNat = 47 ∧ slashB t = true
      · have ih1 := fun f a b c => (ih f a b c).2
        simp [c5] at hrm
        simp [b25_1, e0, e1, hd, hv.len, g1, hv.at g1, ld, c1, c2, c3, c4, hrm]
        rw [← h0, r_loopU h0]
        have hs : skipF false (c :: t) = skipF true t := by simp [skipF, offB, c5]
        rw [hs]
        simp [b25_0, e0, e1, hd, hv.len, g1, hv.at g1, ld, c3, hw]
        exact ih1 _ (by simp) (by simp) (by simp)
      · have hof : (c.toNat == 47 && slashB t) = false := by simpa using c5
        rw [hof] at hrm
        have hs : skipF false (c :: t) = c :: t := by simp [skipF, offB, hb', hof]
        rw [hs]
        simp [b25_1, e0, e1, hd, hv.len, g1, hv.at g1, ld, c1, c2, c3, c4, hrm]
        omega
    refine ⟨A f hd e0 e1, ?_⟩
    rw [r_loopU h0]
    by_cases c3 : (c.toNat : Int) = 10
    · have hs : skipF true (c :: t) = skipF false (c :: t) := by
        have : c.toNat = 10 := by omega
        simp [skipF, offB, this]
      rw [hs]
      simp [b25_0, e0, e1, hd, hv.len, g1, hv.at g1, ld, eq_true c3]
      exact A _ (by simp) (by simp) (by simp)
    · have hs : skipF true (c :: t) = skipF true t := by
        have e : (c.toNat != 10) = true := by simp; omega
        simp [skipF, offB, e]
      rw [hs]
      simp [b25_0, e0, e1, hd, hv.len, g1, hv.at g1, ld, c3, hw]
      exact (ih _ (by simp) (by simp) (by simp)).2
theorem skip_ev (hT : E.T = T) {σ : St} {v : V} {b : List UInt8} (hv : Bs σ v b) (hb : b.length < 2 ^ 40) {i : Nat} (hi : i ≤ b.length) :
    ev E 25 [v, .int .i64 i] σ = some (.ret (.int .i64 (b.length - (skipF false (b.drop i)).length : Nat)), σ) := by
  refine ev_same (fd := f25) (o := .ret (.int .i64 (b.length - (skipF false (b.drop i)).length : Nat))) (by rw [hT]; rfl) (by simp [f25]) rfl ?_ (by simp)
  simp [f25, d25]
  refine (skip_loop hT hv hb ?_ rfl rfl (b.drop i) i _ rfl hi ?_ ?_ ?_).1
  · intro f j hd e1
    simp [hd, e1]
  all_goals simp
end Go.Proofs.YtmkgmjdbgjiehaaDoor
namespace Go.Proofs.YtmkgmjdbgjiehaaDoor
open Go.Proofs.YtmkgmjdbgjiehaaDoor.Ab
set_option linter.unusedVariables false
set_option linter.unusedSimpArgs false
variable {E : En Tryd.prog}
theorem word_ev (hT : E.T = T) {σ : St} (s : List UInt8) : ev E 47 [.str s] σ = some (.ret (.bool (wordB s)), σ) := by
  refine ev_same (fd := f47) (o := .ret (.bool (wordB s))) (by rw [hT]; rfl) (by simp [f47]) rfl ?_ (by simp)
  unfold wordB
  by_cases h : s ∈ wordsL
  · simp only [h, decide_true]
    simp only [wordsL, List.mem_cons, List.not_mem_nil, or_false] at h
    rcases h with rfl | rfl | rfl | rfl | rfl | rfl | rfl | rfl | rfl | rfl | rfl | rfl | rfl | rfl | rfl | rfl | rfl | rfl | rfl | rfl | rfl | rfl <;> simp [f47, d47]
  · simp only [h, decide_false]
    simp only [wordsL, List.mem_cons, List.not_mem_nil, or_false, not_or] at h
    simp [f47, d47, h]
def tlD : D → D
  | .seq _ (.kb _ b) => b
  | d => d
def subD : Nat → D → D → D
  | 0, _, x => x
  | n + 1, .seq a (.kb t b), x => .seq a (.kb t (subD n b x))
  | _, d, _ => d
def Y20 : D := tlD (tlD d48)
theorem sign_half {σ : St} {v : V} {i : Nat} {c : UInt8} (hit : iaV σ 1 v (.int .i64 i) = some (elA v i)) (ld : ldV σ (elA v i) = some (.int .u8 c.toNat)) {f : Fr} (hd : f.ds = []) (e0 : f.env 0 = v) (e1 : f.env 1 = .int .i64 i) :
    run E false [.t 4] [.d Y20] f σ = some (.ret (.int .i64 (if oneL.contains c.toNat then 1 else 0 : Nat)), σ) := by
  by_cases h : c.toNat ∈ oneL
  · have hc : oneL.contains c.toNat = true := by simpa using h
    simp only [hc, if_true]
    simp only [oneL, List.mem_cons, List.not_mem_nil, or_false] at h
    rcases h with h | h | h | h | h | h | h | h | h | h | h | h | h | h | h <;> rw [h] at ld <;> simp [Y20, tlD, d48, hd, e0, e1, hit, ld]
  · have hc : oneL.contains c.toNat = false := by simpa using h
    simp only [hc]
    simp only [oneL, List.mem_cons, List.not_mem_nil, or_false, not_or] at h
    have k : ∀ n : Nat, c.toNat ≠ n → ¬ (c.toNat : Int) = (n : Int) := fun n h e => h (by omega)
    obtain ⟨a40, a41, a123, a125, a44, a58, a61, a59, a43, a45, a42, a47, a37, a60, a62⟩ := h
    have k40 : ¬ (c.toNat : Int) = 40 := by omega
    have k41 : ¬ (c.toNat : Int) = 41 := by omega
    have k123 : ¬ (c.toNat : Int) = 123 := by omega
    have k125 : ¬ (c.toNat : Int) = 125 := by omega
    have k44 : ¬ (c.toNat : Int) = 44 := by omega
    have k58 : ¬ (c.toNat : Int) = 58 := by omega
    have k61 : ¬ (c.toNat : Int) = 61 := by omega
    have k59 : ¬ (c.toNat : Int) = 59 := by omega
    have k43 : ¬ (c.toNat : Int) = 43 := by omega
    have k45 : ¬ (c.toNat : Int) = 45 := by omega
    have k42 : ¬ (c.toNat : Int) = 42 := by omega
    have k47 : ¬ (c.toNat : Int) = 47 := by omega
    have k37 : ¬ (c.toNat : Int) = 37 := by omega
    have k60 : ¬ (c.toNat : Int) = 60 := by omega
    have k62 : ¬ (c.toNat : Int) = 62 := by omega
    simp [Y20, tlD, d48, hd, e0, e1, hit, ld, k40, k41, k123, k125, k44, k58, k61, k59, k43, k45, k42, k47, k37, k60, k62]
theorem sign_ev (hT : E.T = T) {σ : St} {v : V} {b : List UInt8} (hv : Bs σ v b) (hb : b.length < 2 ^ 40) {i : Nat} {c : UInt8} {t : List UInt8} (h : b.drop i = c :: t) :
    ev E 48 [v, .int .i64 i] σ = some (.ret (.int .i64 (signF (c :: t))), σ) := by
  obtain ⟨h1, h2, h3⟩ := at_drop h
  refine ev_same (fd := f48) (o := .ret (.int .i64 (signF (c :: t)))) (by rw [hT]; rfl) (by simp [f48]) rfl ?_ (by simp)
  have hw : IntKind.i64.wrap ((i : Int) + 1) = ((i + 1 : Nat) : Int) := by rw [IntWalk.i64_in _ (by omega)]; omega
  have hw2 : IntKind.i64.wrap ((i : Int) + 2) = ((i + 2 : Nat) : Int) := by rw [IntWalk.i64_in _ (by omega)]; omega
  obtain ⟨j, hj⟩ : ∃ j, j = i + 1 := ⟨_, rfl⟩
  obtain ⟨k, hk⟩ : ∃ k, k = i + 2 := ⟨_, rfl⟩
  rw [← hj] at hw h3
  rw [← hk] at hw2
  have ld := hv.ld h2
  have hit := hv.at h1 (k := .i64)
  have half : ∀ (f : Fr), f.ds = [] → f.env 0 = v → f.env 1 = .int .i64 i → run E false [.t 4] [.d Y20] f σ = some (.ret (.int .i64 (if oneL.contains c.toNat then 1 else 0 : Nat)), σ) := fun f hd e0 e1 => sign_half hit ld hd e0 e1
  have hX : f48.body = subD 2 d48 Y20 := rfl
  rw [hX]
  cases t with
  | nil =>
    have hj2 : ¬ j < b.length := by simp at h3; omega
    simp [f48, d48, subD, hw, hv.len, hj2]
    rw [half _ (by simp) (by simp) (by simp)]
    simp [signF, twoS]
  | cons d u =>
    obtain ⟨g1, g2, g3⟩ := at_drop h3
    have hcut : ∀ env (lo hi : Opd), lo.ev env = .int .i64 i → hi.ev env = .int .i64 k → lslV env σ 1 v (some lo) (some hi) = some (cutV v i k) := fun env lo hi e1 e2 => hv.lslBoth e1 e2 (by omega) (by omega)
    have hst : b2sV σ (cutV v i k) = some (.str [c, d]) := by
      have h := (hv.cut (a := i) (b := k) (by omega) (by omega)).str
      have : (b.take k).drop i = [c, d] := by
        rw [List.drop_take, ‹b.drop i = c :: d :: u›, hk, show i + 2 - i = 2 by omega]; rfl
      rw [this] at h
      exact h
    have t2 : twoS c (d :: u) = twoB c d := rfl
    have hu : ∀ (x : UInt8) (n : Nat), n < 256 → (x = UInt8.ofNat n ↔ x.toNat = n) := fun x n hn => by
      constructor
      · rintro rfl; simp; omega
      · intro h; apply UInt8.toNat.inj; simp; omega
    by_cases c1 : c = 45 ∧ d = 62
    · obtain ⟨rfl, rfl⟩ := c1
      simp [f48, d48, subD, hw, hw2, hv.len, g1, hcut, hst, signF, t2, twoB]
    by_cases c2 : c = 60 ∧ d = 61
    · obtain ⟨rfl, rfl⟩ := c2
      simp [f48, d48, subD, hw, hw2, hv.len, g1, hcut, hst, signF, t2, twoB]
    by_cases c3 : c = 62 ∧ d = 61
    · obtain ⟨rfl, rfl⟩ := c3
      simp [f48, d48, subD, hw, hw2, hv.len, g1, hcut, hst, signF, t2, twoB]
    by_cases c4 : c = 33 ∧ d = 61
    · obtain ⟨rfl, rfl⟩ := c4
      simp [f48, d48, subD, hw, hw2, hv.len, g1, hcut, hst, signF, t2, twoB]
    have ht : twoB c d = false := by
      have e := fun (x : UInt8) (n : Nat) (hn : n < 256) => (hu x n hn)
      simp only [twoB]
      have a1 : ¬ (c.toNat = 45 ∧ d.toNat = 62) := fun h => c1 ⟨(hu c 45 (by omega)).2 h.1, (hu d 62 (by omega)).2 h.2⟩
      have a2 : ¬ (c.toNat = 60 ∧ d.toNat = 61) := fun h => c2 ⟨(hu c 60 (by omega)).2 h.1, (hu d 61 (by omega)).2 h.2⟩
      have a3 : ¬ (c.toNat = 62 ∧ d.toNat = 61) := fun h => c3 ⟨(hu c 62 (by omega)).2 h.1, (hu d 61 (by omega)).2 h.2⟩
      have a4 : ¬ (c.toNat = 33 ∧ d.toNat = 61) := fun h => c4 ⟨(hu c 33 (by omega)).2 h.1, (hu d 61 (by omega)).2 h.2⟩
      simp; omega
    simp [f48, d48, subD, hw, hw2, hv.len, g1, hcut, hst, c1, c2, c3, c4]
    rw [half _ (by simp) (by simp) (by simp)]
    simp [signF, t2, ht]
end Go.Proofs.YtmkgmjdbgjiehaaDoor
namespace Go.Proofs.YtmkgmjdbgjiehaaDoor
open Go.Proofs.YtmkgmjdbgjiehaaDoor.Ab
set_option linter.unusedVariables false
set_option linter.unusedSimpArgs false
variable {E : En Tryd.prog}
attribute [local simp] Gr.refl Gr.new Gr.set Gr.kill Nat.add_assoc r_cks chk wantG
theorem name_loop (hT : E.T = T) {σ : St} {v p : V} {b : List UInt8} (hv : Bs σ v b) (hb : b.length < 2 ^ 40) {x1 : V} {dd : Bool} {rs : List RC} {st : List SE} {B : D} (hB : B = b26_0) :
    ∀ (u : List UInt8) (j : Nat) (f : Fr), b.drop j = u → j ≤ b.length → f.ds = [] → f.env 0 = v → f.env 1 = x1 → f.env 4 = p → f.env 6 = .int .i64 j →
      Lands E dd rs st (fun f' σ' => σ' = σ ∧ f'.ds = [] ∧ f'.env 0 = v ∧ f'.env 1 = x1 ∧ f'.env 4 = p ∧ f'.env 6 = .int .i64 (j + (u.takeWhile goesB).length : Nat)) (run E dd rs (.d (.loop [0, 1, 4, 6] B) :: .blk 1 :: st) f σ)
  | [], j, f, h, hj, hd, e0, e1, e4, e6 => by
    have hlen := congrArg List.length h
    simp at hlen
    obtain rfl : j = b.length := by omega
    rw [r_loopU hB]
    simp [b26_0, hd, e0, e1, e4, e6, hv.len]
    exact .here ⟨rfl, by simp, by simp, by simp, by simp, by simp⟩
  | c :: t, j, f, h, hj, hd, e0, e1, e4, e6 => by
    obtain ⟨g1, g2, g3⟩ := at_drop h
    have hlen := congrArg List.length h
    simp at hlen
    have hw : IntKind.i64.wrap ((j : Int) + 1) = ((j + 1 : Nat) : Int) := by rw [IntWalk.i64_in _ (by omega)]; omega
    obtain ⟨k, hk⟩ : ∃ k, k = j + 1 := ⟨_, rfl⟩
    rw [← hk] at hw g3
    have ih := fun f => name_loop hT hv hb (p := p) (x1 := x1) (dd := dd) (rs := rs) (st := st) hB t k f g3 (by omega)
    have ld := hv.ld g2
    have k1 := fun σ => small_ev hT (σ := σ) c
    have k2 := fun σ => digit_ev hT (σ := σ) c
    have yes : goesB c = true → ∀ f : Fr, f.ds = [] → f.env 0 = v → f.env 1 = x1 → f.env 4 = p → f.env 6 = .int .i64 k →
        Lands E dd rs st (fun f' σ' => σ' = σ ∧ f'.ds = [] ∧ f'.env 0 = v ∧ f'.env 1 = x1 ∧ f'.env 4 = p ∧ f'.env 6 = .int .i64 (j + ((c :: t).takeWhile goesB).length : Nat)) (run E dd rs (.d (.loop [0, 1, 4, 6] B) :: .blk 1 :: st) f σ) := fun hg f q0 q1 q2 q3 q4 => by
      have := ih f q0 q1 q2 q3 q4
      rw [List.takeWhile_cons_of_pos hg, List.length_cons, show j + ((t.takeWhile goesB).length + 1) = k + (t.takeWhile goesB).length by omega]
      exact this
    rw [r_loopU hB]
    cases hs : smallB c with
    | true =>
      rw [hs] at k1
      simp [b26_0, hd, e0, e1, e4, e6, hv.len, g1, hv.at g1, ld, k1, hw]
      exact yes (by simp [goesB, hs]) _ (by simp) (by simp) (by simp) (by simp) (by simp)
    | false =>
      rw [hs] at k1
      cases hg : digitB c with
      | true =>
        rw [hg] at k2
        simp [b26_0, hd, e0, e1, e4, e6, hv.len, g1, hv.at g1, ld, k1, k2, hw]
        exact yes (by simp [goesB, hg]) _ (by simp) (by simp) (by simp) (by simp) (by simp)
      | false =>
        rw [hg] at k2
        by_cases c3 : (c.toNat : Int) = 95
        · simp [b26_0, hd, e0, e1, e4, e6, hv.len, g1, hv.at g1, ld, k1, k2, eq_true c3, hw]
          exact yes (by simp [goesB]; omega) _ (by simp) (by simp) (by simp) (by simp) (by simp)
        · have hn : goesB c = false := by simp [goesB, hs, hg]; omega
          rw [List.takeWhile_cons_of_neg (by simp [hn])]
          simp [b26_0, hd, e0, e1, e4, e6, hv.len, g1, hv.at g1, ld, k1, k2, c3]
          exact .here ⟨rfl, by simp, by simp, by simp, by simp, by simp⟩
theorem dig_loop (hT : E.T = T) {σ : St} {v p : V} {b : List UInt8} (hv : Bs σ v b) (hb : b.length < 2 ^ 40) {x1 : V} {dd : Bool} {rs : List RC} {st : List SE} {B : D} (hB : B = b26_1) :
    ∀ (u : List UInt8) (j : Nat) (f : Fr), b.drop j = u → j ≤ b.length → f.ds = [] → f.env 0 = v → f.env 1 = x1 → f.env 4 = p → f.env 6 = .int .i64 j →
      Lands E dd rs st (fun f' σ' => σ' = σ ∧ f'.ds = [] ∧ f'.env 0 = v ∧ f'.env 1 = x1 ∧ f'.env 4 = p ∧ f'.env 6 = .int .i64 (j + (u.takeWhile digitB).length : Nat)) (run E dd rs (.d (.loop [0, 1, 4, 6] B) :: .blk 3 :: st) f σ)
  | [], j, f, h, hj, hd, e0, e1, e4, e6 => by
    have hlen := congrArg List.length h
    simp at hlen
    obtain rfl : j = b.length := by omega
    rw [r_loopU hB]
    simp [b26_1, hd, e0, e1, e4, e6, hv.len]
    exact .here ⟨rfl, by simp, by simp, by simp, by simp, by simp⟩
  | c :: t, j, f, h, hj, hd, e0, e1, e4, e6 => by
    obtain ⟨g1, g2, g3⟩ := at_drop h
    have hlen := congrArg List.length h
    simp at hlen
    have hw : IntKind.i64.wrap ((j : Int) + 1) = ((j + 1 : Nat) : Int) := by rw [IntWalk.i64_in _ (by omega)]; omega
    obtain ⟨k, hk⟩ : ∃ k, k = j + 1 := ⟨_, rfl⟩
    rw [← hk] at hw g3
    have ih := fun f => dig_loop hT hv hb (p := p) (x1 := x1) (dd := dd) (rs := rs) (st := st) hB t k f g3 (by omega)
    have ld := hv.ld g2
    have k2 := fun σ => digit_ev hT (σ := σ) c
    rw [r_loopU hB]
    cases hg : digitB c with
    | true =>
      rw [hg] at k2
      rw [List.takeWhile_cons_of_pos hg, List.length_cons, show j + ((t.takeWhile digitB).length + 1) = k + (t.takeWhile digitB).length by omega]
      simp [b26_1, hd, e0, e1, e4, e6, hv.len, g1, hv.at g1, ld, k2, hw]
      exact ih _ (by simp) (by simp) (by simp) (by simp) (by simp)
    | false =>
      rw [hg] at k2
      rw [List.takeWhile_cons_of_neg (by simp [hg])]
      simp [b26_1, hd, e0, e1, e4, e6, hv.len, g1, hv.at g1, ld, k2]
      exact .here ⟨rfl, by simp, by simp, by simp, by simp, by simp⟩
def tokV (i : Nat) (q : Nat × List UInt8 × Nat) : V :=
  if q.2.2 = 0 then .tup [.agg [.int .i64 q.1, .str q.2.1, .int .i64 i, .int .i64 (i + q.2.1.length : Nat)], .int .i64 0]
  else .tup [.agg [.int .i64 0, .str [], .int .i64 0, .int .i64 0], .int .i64 q.2.2]
theorem cut_n {b s : List UInt8} {i : Nat} (h : b.drop i = s) (n : Nat) : (b.take (i + n)).drop i = s.take n := by
  rw [List.drop_take, h, show i + n - i = n by omega]
set_option maxRecDepth 100000 in
theorem token_ev (hT : E.T = T) {σ : St} {v : V} {b : List UInt8} (hv : Bs σ v b) (ho : v.old σ) (hb : b.length < 2 ^ 40) {i : Nat} {c : UInt8} {t : List UInt8} (h : b.drop i = c :: t) :
    ev E 26 [v, .int .i64 i] σ = some (.ret (tokV i (tokF (c :: t))), σ) := by
  obtain ⟨h1, h2, h3⟩ := at_drop h
  have hlen := congrArg List.length h
  simp at hlen
  obtain ⟨s1, hs1⟩ : ∃ s1, s1 = σ.new (.row 4 [[.int .i64 0, .str [], .int .i64 0, .int .i64 0]]) := ⟨_, rfl⟩
  have g1 : Gr σ s1 := by rw [hs1]; exact (Gr.refl σ).new _
  have b1 : s1.H σ.n = some (.row 4 [[.int .i64 0, .str [], .int .i64 0, .int .i64 0]]) := by rw [hs1]; simp
  have hv1 := hv.gr g1 ho
  have ld := hv1.ld h2
  have hit := hv1.at h1 (k := .i64)
  have k1 := fun σ => small_ev hT (σ := σ) c
  have k2 := fun σ => digit_ev hT (σ := σ) c
  have hcut : ∀ env (lo hi : Opd) (n : Nat), lo.ev env = .int .i64 i → hi.ev env = .int .i64 (i + n : Nat) → i + n ≤ b.length → lslV env s1 1 v (some lo) (some hi) = some (cutV v i (i + n)) := fun env lo hi n e1 e2 hn => hv1.lslBoth e1 e2 (by omega) hn
  have hst : ∀ n, i + n ≤ b.length → b2sV s1 (cutV v i (i + n)) = some (.str ((c :: t).take n)) := fun n hn => by
    have h' := (hv1.cut (a := i) (b := i + n) (by omega) hn).str
    rwa [cut_n h] at h'
  suffices hr : ∃ τ, run E false f26.res [.d f26.body] ⟨envOf [v, .int .i64 i], []⟩ σ = some (.ret (tokV i (tokF (c :: t))), τ) ∧ Gr σ τ by
    obtain ⟨τ, hr, hg⟩ := hr
    exact ev_pure (fd := f26) (by rw [hT]; rfl) (by simp [f26]) rfl hr hg.H hg.W (by unfold tokV; split <;> simp)
  show ∃ τ, _ ∧ Gr σ τ
  cases hs : smallB c with
  | true =>
    rw [hs] at k1
    have hle := takeWhile_le goesB (c :: t)
    have htk := take_takeWhile goesB (c :: t)
    rw [tokF_name hs]
    simp [f26, d26, ← hs1, hit, ld, k1]
    refine Lands.to (C := fun r => ∃ τ, r = some (CO.ret (tokV i _), τ) ∧ Gr σ τ) (name_loop hT hv1 hb (p := .ptr σ.n 0 0) (x1 := .int .i64 i) rfl (c :: t) i _ h (by omega) (by simp) (by simp) (by simp) (by simp) (by simp)) ?_
    rintro f' σ' ⟨rfl, q0, q1, q2, q3, q4⟩
    obtain ⟨n, hn⟩ : ∃ n, n = ((c :: t).takeWhile goesB).length := ⟨_, rfl⟩
    rw [← hn] at hle htk q4
    have hil : i + n ≤ b.length := by rw [List.length_cons] at hle; omega
    have hc1 := fun env lo hi e1 e2 => hcut env lo hi n e1 e2 hil
    have hc2 := hst n hil
    rw [htk] at hc2
    obtain ⟨m, hm⟩ : ∃ m, m = i + n := ⟨_, rfl⟩
    rw [← hm] at hc1 hc2 q4
    have hw : IntKind.i64.wrap ((m : Int) - i) = (n : Int) := by rw [IntWalk.i64_in _ (by omega)]; omega
    have hwd := fun σ => word_ev hT (σ := σ) ((c :: t).takeWhile goesB)
    obtain ⟨tw, htw⟩ : ∃ tw, tw = (c :: t).takeWhile goesB := ⟨_, rfl⟩
    rw [← htw] at hn hc2 hwd ⊢
    rw [← hn]
    cases hwb : wordB tw with
    | true =>
      rw [hwb] at hwd
      by_cases hl : 24 < n
      · have hl' : (24 : Int) < n := by omega
        rw [if_pos (by omega)]
        exact ⟨_, by simp [q0, q1, q2, q3, q4, hc1, hc2, hwd, hw, hl, hl', b1, tokV]; rfl, by simp (maxDischargeDepth := 12) [g1]⟩
      · have hl' : ¬ (24 : Int) < n := by omega
        rw [if_neg (by omega)]
        have hV : tokV i (2, tw, 0) = .tup [.agg [.int .i64 2, .str tw, .int .i64 i, .int .i64 m], .int .i64 0] := by simp [tokV, hm, hn]
        exact ⟨_, by simp [q0, q1, q2, q3, q4, hc1, hc2, hwd, hw, hl, hl', b1, hV]; rfl, by simp (maxDischargeDepth := 12) [g1]⟩
    | false =>
      rw [hwb] at hwd
      by_cases hl : 24 < n
      · have hl' : (24 : Int) < n := by omega
        rw [if_pos (by omega)]
        exact ⟨_, by simp [q0, q1, q2, q3, q4, hc1, hc2, hwd, hw, hl, hl', b1, tokV]; rfl, by simp (maxDischargeDepth := 12) [g1]⟩
      · have hl' : ¬ (24 : Int) < n := by omega
        rw [if_neg (by omega)]
        have hV : tokV i (1, tw, 0) = .tup [.agg [.int .i64 1, .str tw, .int .i64 i, .int .i64 m], .int .i64 0] := by simp [tokV, hm, hn]
        exact ⟨_, by simp [q0, q1, q2, q3, q4, hc1, hc2, hwd, hw, hl, hl', b1, hV]; rfl, by simp (maxDischargeDepth := 12) [g1]⟩
  | false =>
    rw [hs] at k1
    cases hg : digitB c with
    | true =>
      rw [hg] at k2
      have hle := takeWhile_le digitB (c :: t)
      have htk := take_takeWhile digitB (c :: t)
      rw [tokF_dig hs hg]
      simp [f26, d26, ← hs1, hit, ld, k1, k2]
      refine Lands.to (C := fun r => ∃ τ, r = some (CO.ret (tokV i _), τ) ∧ Gr σ τ) (dig_loop hT hv1 hb (p := .ptr σ.n 0 0) (x1 := .int .i64 i) rfl (c :: t) i _ h (by omega) (by simp) (by simp) (by simp) (by simp) (by simp)) ?_
      rintro f' σ' ⟨rfl, q0, q1, q2, q3, q4⟩
      obtain ⟨n, hn⟩ : ∃ n, n = ((c :: t).takeWhile digitB).length := ⟨_, rfl⟩
      rw [← hn] at hle htk q4
      have hil : i + n ≤ b.length := by rw [List.length_cons] at hle; omega
      have hc1 := fun env lo hi e1 e2 => hcut env lo hi n e1 e2 hil
      have hc2 := hst n hil
      rw [htk] at hc2
      obtain ⟨m, hm⟩ : ∃ m, m = i + n := ⟨_, rfl⟩
      rw [← hm] at hc1 hc2 q4
      have hw : IntKind.i64.wrap ((m : Int) - i) = (n : Int) := by rw [IntWalk.i64_in _ (by omega)]; omega
      obtain ⟨tw, htw⟩ : ∃ tw, tw = (c :: t).takeWhile digitB := ⟨_, rfl⟩
      rw [← htw] at hn hc2 ⊢
      rw [← hn]
      by_cases hl : 40 < n
      · have hl' : (40 : Int) < n := by omega
        rw [if_pos (by omega)]
        exact ⟨_, by simp [q0, q1, q2, q3, q4, hc1, hc2, hw, hl, hl', b1, tokV]; rfl, by simp (maxDischargeDepth := 12) [g1]⟩
      · have hl' : ¬ (40 : Int) < n := by omega
        rw [if_neg (by omega)]
        have hV : tokV i (3, tw, 0) = .tup [.agg [.int .i64 3, .str tw, .int .i64 i, .int .i64 m], .int .i64 0] := by simp [tokV, hm, hn]
        exact ⟨_, by simp [q0, q1, q2, q3, q4, hc1, hc2, hw, hl, hl', b1, hV]; rfl, by simp (maxDischargeDepth := 12) [g1]⟩
    | false =>
      rw [hg] at k2
      have hsg := sign_ev hT hv1 hb h
      have hsl := (sign_le c t).1
      rw [tokF_sign hs hg]
      obtain ⟨n, hn⟩ : ∃ n, n = signF (c :: t) := ⟨_, rfl⟩
      rw [← hn] at hsg hsl ⊢
      have hil : i + n ≤ b.length := by rw [List.length_cons] at hsl; omega
      have hc1 := fun env lo hi e1 e2 => hcut env lo hi n e1 e2 hil
      have hc2 := hst n hil
      have hlt : ((c :: t).take n).length = n := by rw [List.length_take]; omega
      obtain ⟨m, hm⟩ : ∃ m, m = i + n := ⟨_, rfl⟩
      rw [← hm] at hc1 hc2
      have hw : IntKind.i64.wrap ((i : Int) + n) = (m : Int) := by rw [IntWalk.i64_in _ (by omega)]; omega
      obtain ⟨tw, htw⟩ : ∃ tw, tw = (c :: t).take n := ⟨_, rfl⟩
      rw [← htw] at hlt hc2 ⊢
      by_cases hl : n = 0
      · have hl' : (m : Int) = i := by omega
        rw [if_pos hl]
        exact ⟨_, by simp [f26, d26, ← hs1, hit, ld, k1, k2, hsg, hw, eq_true hl', b1, tokV]; rfl, by simp (maxDischargeDepth := 12) [g1]⟩
      · have hl' : ¬ (m : Int) = i := by omega
        rw [if_neg hl]
        have hV : tokV i (4, tw, 0) = .tup [.agg [.int .i64 4, .str tw, .int .i64 i, .int .i64 m], .int .i64 0] := by simp [tokV, hm, hlt]
        exact ⟨_, by simp [f26, d26, ← hs1, hit, ld, k1, k2, hsg, hw, hl', b1, hV, hc1, hc2]; rfl, by simp (maxDischargeDepth := 12) [g1]⟩
end Go.Proofs.YtmkgmjdbgjiehaaDoor
namespace Go.Proofs.YtmkgmjdbgjiehaaDoor
open Go.Proofs.YtmkgmjdbgjiehaaDoor.Ab
set_option linter.unusedVariables false
set_option linter.unusedSimpArgs false
variable {E : En Tryd.prog}
attribute [local simp] Gr.refl Gr.new Gr.set Gr.kill Nat.add_assoc r_cks chk wantG
def tkE (q : TK) : List V := [.int .i64 q.kind, .str q.txt, .int .i64 q.fr, .int .i64 (q.fr + q.txt.length : Nat)]
theorem tkE_pure (l : List TK) : ∀ e ∈ l.map tkE, ∀ u ∈ e, u.pure = true := fun e he u hu => by
  simp at he; obtain ⟨c, _, rfl⟩ := he; simp [tkE] at hu; rcases hu with rfl | rfl | rfl | rfl <;> rfl
def TkR (σ0 : St) (acc : List TK) (q : List TK × Nat × Nat) (r : Option (CO × St)) : Prop :=
  if q.2.2 = 0 then ∃ u τ, r = some (.ret (.tup [u, .int .i64 0, .int .i64 0]), τ) ∧ Own σ0 τ 4 u ((acc ++ q.1).map tkE)
  else ∃ τ, r = some (.ret (.tup [.nils, .int .i64 q.2.1, .int .i64 q.2.2]), τ) ∧ Gr σ0 τ
def X10 : D := tlD (tlD (tlD d16))
theorem toks_loop (hT : E.T = T) {σ0 : St} {v : V} {b : List UInt8} (hv : Bs σ0 v b) (ho : v.old σ0) (hb : b.length < 2 ^ 40) {B : D} (hB : B = b16_0) :
    ∀ (n : Nat) (s : List UInt8) (acc : List TK) (f : Fr) (σ : St), s <:+ b → s.length < n → acc.length + s.length ≤ b.length → f.ds = [] → f.env 0 = v → f.env 6 = .int .i64 (b.length - (skipF false s).length : Nat) → Own σ0 σ 4 (f.env 5) (acc.map tkE) →
      TkR σ0 acc (toksF b.length n s) (run E false [.t 2, .t 3, .t 4] (.d (.loop [0, 5, 6] B) :: .blk 0 :: [.d (.kb [0, 5] X10)]) f σ)
  | 0, s, acc, f, σ, h1, h2, h3, hd, e0, e6, hq => by omega
  | n + 1, s, acc, f, σ, h1, h2, h3, hd, e0, e6, hq => by
    have hv' := hv.gr hq.gr ho
    have hss := skip_suf s false
    have hsl := hss.length_le
    have hsb := hss.trans h1
    have hbl := hsb.length_le
    have hdr := suf_drop hsb
    rw [r_loopU hB]
    unfold toksF
    cases hk : skipF false s with
    | nil =>
      rw [hk] at e6
      simp only [List.length_nil, Nat.sub_zero] at e6
      obtain ⟨u, τ, ap, hq'⟩ := hq.app1 [tkE ⟨0, [], b.length⟩] (by simp) (bytes := 40) (by simp [reach]; omega) (by simp [reach]; omega) (n := 1) rfl
      simp [tkE] at ap
      simp only [TkR, if_true]
      exact ⟨u, τ, by simp [b16_0, X10, tlD, d16, hd, e0, e6, hv'.len, ap], by simpa [tkE] using hq'⟩
    | cons c t =>
      rw [hk] at hss hsl hsb hbl hdr e6
      obtain ⟨i, hi⟩ : ∃ i, i = b.length - (c :: t).length := ⟨_, rfl⟩
      rw [← hi] at hdr e6
      have hil : i < b.length := (at_drop hdr).1
      have htk := token_ev hT hv' (V.old_gr ho hq.gr) hb hdr
      simp only
      by_cases h0 : (tokF (c :: t)).2.2 = 0
      · obtain ⟨l1, l2, l3⟩ := tok_len h0
        obtain ⟨kd, hkd⟩ : ∃ k, k = (tokF (c :: t)).1 := ⟨_, rfl⟩
        obtain ⟨tx, htx⟩ : ∃ k, k = (tokF (c :: t)).2.1 := ⟨_, rfl⟩
        have hV : tokV i (tokF (c :: t)) = .tup [.agg [.int .i64 kd, .str tx, .int .i64 i, .int .i64 (i + tx.length : Nat)], .int .i64 0] := by
          simp [tokV, h0, hkd, htx]
        rw [hV] at htk
        rw [← htx] at l1 l2 l3
        rw [← hkd, ← htx, if_pos h0]
        obtain ⟨m, hm⟩ : ∃ m, m = i + tx.length := ⟨_, rfl⟩
        rw [← hm] at htk
        have hd2 : b.drop m = (c :: t).drop tx.length := by rw [hm, ← List.drop_drop, hdr]
        have hsuf : (c :: t).drop tx.length <:+ b := (List.drop_suffix _ _).trans hsb
        have hlen : ((c :: t).drop tx.length).length = (c :: t).length - tx.length := List.length_drop
        obtain ⟨s1, hs1⟩ : ∃ s1, s1 = (σ.new (.row 4 [[.int .i64 0, .str [], .int .i64 0, .int .i64 0]])).set σ.n (.row 4 [[.int .i64 kd, .str tx, .int .i64 i, .int .i64 m]]) := ⟨_, rfl⟩
        have g1 : Gr σ s1 := by rw [hs1]; exact ((Gr.refl σ).new _).set (Nat.le_refl _) _
        have b1 : s1.H σ.n = some (.row 4 [[.int .i64 kd, .str tx, .int .i64 i, .int .i64 m]]) := by rw [hs1]; simp
        have n1 : σ.n < s1.n := by rw [hs1]; simp
        obtain ⟨u, τ, ap, hq', a1, a2, a3⟩ := (hq.step g1).app1N [tkE ⟨kd, tx, i⟩] (by simp) (bytes := 40) (by simp [reach]; omega) (by simp [reach]; omega) (n := 1) rfl
        simp only [tkE, ← hm] at ap
        have b2 : τ.H σ.n = some (.row 4 [[.int .i64 kd, .str tx, .int .i64 i, .int .i64 m]]) := by
          rw [a3 σ.n n1 (fun h => by have := (hq.lo _ h).2; omega)]; exact b1
        have b3 : (s1.new (.row 4 [[.int .i64 kd, .str tx, .int .i64 i, .int .i64 m]])).H σ.n = some (.row 4 [[.int .i64 kd, .str tx, .int .i64 i, .int .i64 m]]) := by simp [show σ.n ≠ s1.n by omega, b1]
        have hml : m ≤ b.length := by rw [hm]; omega
        have hskp := skip_ev hT (hv.gr hq'.gr ho) hb hml
        rw [hd2] at hskp
        have ih := fun f a b c d => toks_loop hT hv ho hb hB n _ (acc ++ [⟨kd, tx, i⟩]) f τ hsuf (by omega) (by simp; simp at hlen l1 l3 hsl; omega) a b c d
        have hfin : TkR σ0 acc (if (toksF b.length n ((c :: t).drop tx.length)).2.2 = 0 then (⟨kd, tx, b.length - (c :: t).length⟩ :: (toksF b.length n ((c :: t).drop tx.length)).1, 0, 0) else ([], (toksF b.length n ((c :: t).drop tx.length)).2.1, (toksF b.length n ((c :: t).drop tx.length)).2.2)) = TkR σ0 (acc ++ [⟨kd, tx, i⟩]) (toksF b.length n ((c :: t).drop tx.length)) := by
          rw [← hi]
          funext r
          unfold TkR
          by_cases hr : (toksF b.length n ((c :: t).drop tx.length)).2.2 = 0
          · simp [hr]
          · simp [hr]
        rw [hfin]
        simp [b16_0, hd, e0, e6, hv'.len, hil, htk, ← hs1, b1, b3, ap, b2, hskp]
        refine ih _ ?_ ?_ ?_ ?_
        · simp
        · simp
        · simp
        · simpa [tkE, hm] using hq'
      · have hV : tokV i (tokF (c :: t)) = .tup [.agg [.int .i64 0, .str [], .int .i64 0, .int .i64 0], .int .i64 (tokF (c :: t)).2.2] := by
          simp [tokV, h0]
        rw [hV] at htk
        have h0' : ¬ ((tokF (c :: t)).2.2 : Int) = 0 := by omega
        rw [if_neg h0]
        obtain ⟨er, her⟩ : ∃ k, k = (tokF (c :: t)).2.2 := ⟨_, rfl⟩
        rw [← her] at htk h0 h0' ⊢
        rw [← hi]
        simp only [TkR, if_neg h0]
        show ∃ τ, _ ∧ Gr σ0 τ
        exact ⟨_, by simp [b16_0, hd, e0, e6, hv'.len, hil, htk, h0, h0']; rfl, (hq.gr.new _).set hq.gr.n _⟩
def tokensV (b : List UInt8) : V :=
  if (toksF b.length (b.length + 1) b).2.2 = 0 then .tup [.islc 4 ((toksF b.length (b.length + 1) b).1.map tkE), .int .i64 0, .int .i64 0]
  else .tup [.nils, .int .i64 (toksF b.length (b.length + 1) b).2.1, .int .i64 (toksF b.length (b.length + 1) b).2.2]
theorem toks_ne {L : Nat} : ∀ (n : Nat) (s : List UInt8), s.length < n → (toksF L n s).2.2 = 0 → (toksF L n s).1 ≠ []
  | 0, s, h, _ => by omega
  | n + 1, s, h, h0 => by
    unfold toksF at h0 ⊢
    split
    · simp
    · rename_i hk
      rw [hk] at h0
      simp only at h0
      split
      · rename_i h1
        rw [if_pos h1] at h0
        split
        · simp
        · rename_i h2
          rw [if_neg h2] at h0
          exact absurd h0 h2
      · rename_i h1
        rw [if_neg h1] at h0
        exact absurd h0 h1
theorem tokens_ev (hT : E.T = T) {σ : St} {v : V} {b : List UInt8} (hv : Bs σ v b) (ho : v.old σ) (hb : b.length < 2 ^ 40) :
    ev E 16 [v] σ = some (.ret (tokensV b), σ) := by
  have hs : ev E 25 [v, .int .i64 0] σ = some (.ret (.int .i64 (b.length - (skipF false b).length : Nat)), σ) := skip_ev hT hv hb (i := 0) (by omega)
  have key := fun f a b' c d => toks_loop hT hv ho hb (B := b16_0) rfl (b.length + 1) b [] f σ (List.suffix_refl _) (by omega) (by simp) a b' c d
  have hr : run E false f16.res [.d f16.body] ⟨envOf [v], []⟩ σ = run E false [.t 2, .t 3, .t 4] (.d (.loop [0, 5, 6] b16_0) :: .blk 0 :: [.d (.kb [0, 5] X10)]) ⟨lk [0, 5, 6] [v, .nils, .int .i64 (b.length - (skipF false b).length : Nat)], []⟩ σ := by
    have hX : f16.body = subD 3 d16 X10 := rfl
    rw [hX]
    simp [f16, d16, subD, hs]
  have k := key ⟨lk [0, 5, 6] [v, .nils, .int .i64 (b.length - (skipF false b).length : Nat)], []⟩ rfl (by simp) (by simp) (by simpa using Own.nils σ 4)
  unfold TkR at k
  unfold tokensV
  by_cases h0 : (toksF b.length (b.length + 1) b).2.2 = 0
  · rw [if_pos h0] at k ⊢
    obtain ⟨u, τ, e, hq⟩ := k
    refine ev_pure (fd := f16) (o := .ret (.tup [u, .int .i64 0, .int .i64 0])) (σ' := τ) (by rw [hT]; rfl) (by simp [f16]) rfl (by rw [hr, e]) hq.gr.H hq.gr.W ?_
    have hne := toks_ne (L := b.length) _ b (by omega) h0
    have hf := hq.frz (by simpa using tkE_pure _) 2
    have hu : u ≠ .nils := by
      rcases hq.sl with ⟨_, h⟩ | ⟨l, rfl, _⟩
      · simp at h; exact absurd h hne
      · simp
    have hf := hq.frz (by simpa using tkE_pure _) 1099511627775
    rw [told_is hu] at hf
    have hfA : frzA τ.H (fun l => decide (l < σ.n)) u = .islc 4 ((toksF b.length (b.length + 1) b).1.map tkE) := by
      rcases hq.sl with ⟨h, _⟩ | ⟨l, rfl, _⟩
      · exact absurd h hu
      · simpa using hf
    simp [hfA]
  · rw [if_neg h0] at k ⊢
    obtain ⟨τ, e, hq⟩ := k
    exact ev_pure (fd := f16) (o := .ret (.tup [.nils, .int .i64 (toksF b.length (b.length + 1) b).2.1, .int .i64 (toksF b.length (b.length + 1) b).2.2])) (σ' := τ) (by rw [hT]; rfl) (by simp [f16]) rfl (by rw [hr, e]) hq.H hq.W (by simp)
end Go.Proofs.YtmkgmjdbgjiehaaDoor
namespace Go.Proofs.YtmkgmjdbgjiehaaDoor
open Go.Proofs.YtmkgmjdbgjiehaaDoor.Ab
set_option linter.unusedVariables false
set_option linter.unusedSimpArgs false
def rd (l : List Int) (i : Int) : Int := l.getD i.toNat 0
theorem wrap_u64 (n : Int) : IntKind.u64.wrap n = n % 18446744073709551616 := by simp [IntKind.wrap, IntKind.signed, IntKind.bits]
theorem wrap_u32 (n : Int) : IntKind.u32.wrap n = n % 4294967296 := by simp [IntKind.wrap, IntKind.signed, IntKind.bits]
def vl (B : Int) : List Int → Int
  | [] => 0
  | x :: t => x + B * vl B t
def Dg (B : Int) (l : List Int) : Prop := ∀ x ∈ l, 0 ≤ x ∧ x < B
def tr : List Int → List Int
  | [] => []
  | x :: t => if tr t = [] ∧ x = 0 then [] else x :: tr t
def can (B n : Nat) : List Int := if h : n = 0 ∨ B < 2 then [] else ((n % B : Nat) : Int) :: can B (n / B)
termination_by n
decreasing_by exact Nat.div_lt_self (by omega) (by omega)
def cn (B v : Int) : List Int := can B.toNat v.toNat
section Num
variable {B : Int} {l : List Int}
theorem vl_cons (x : Int) (t : List Int) : vl B (x :: t) = x + B * vl B t := rfl
theorem cn_zero {v : Int} (h : v ≤ 0) : cn B v = [] := by
  unfold cn; rw [can, dif_pos (Or.inl (by omega))]
theorem cn_cons {v : Int} (hB : 2 ≤ B) (h : 0 < v) : cn B v = (v % B) :: cn B (v / B) := by
  unfold cn; rw [can, dif_neg (by omega)]
  obtain ⟨b, rfl⟩ := Int.eq_ofNat_of_zero_le (show 0 ≤ B by omega)
  obtain ⟨n, rfl⟩ := Int.eq_ofNat_of_zero_le (show 0 ≤ v by omega)
  rfl
theorem Dg.cons {x : Int} (h : Dg B (x :: l)) : (0 ≤ x ∧ x < B) ∧ Dg B l := ⟨h x (by simp), fun y hy => h y (by simp [hy])⟩
theorem Dg.nil : Dg B [] := fun _ h => by cases h
theorem Dg.app {l' : List Int} (h : Dg B l) (h' : Dg B l') : Dg B (l ++ l') := fun x hx => (List.mem_append.1 hx).elim (h x) (h' x)
theorem Dg.one {x : Int} (h : 0 ≤ x) (h' : x < B) : Dg B [x] := fun y hy => by rw [List.mem_singleton.1 hy]; exact ⟨h, h'⟩
theorem Dg.snoc {x : Int} (hl : Dg B l) (h : 0 ≤ x) (h' : x < B) : Dg B (l ++ [x]) := hl.app (.one h h')
theorem Dg.zeros (hB : 0 < B) (n : Nat) : Dg B (List.replicate n 0) := fun x hx => by rw [List.eq_of_mem_replicate hx]; exact ⟨Int.le_refl _, hB⟩
theorem Dg.take (h : Dg B l) (n : Nat) : Dg B (l.take n) := fun x hx => h x (List.mem_of_mem_take hx)
theorem Dg.drop (h : Dg B l) (n : Nat) : Dg B (l.drop n) := fun x hx => h x (List.mem_of_mem_drop hx)
theorem Dg.place (h : Dg B l) (hB : 0 < B) (i : Int) : 0 ≤ rd l i ∧ rd l i < B := by
  unfold rd
  rcases Nat.lt_or_ge i.toNat l.length with hi | hi
  · rw [List.getD_eq_getElem?_getD, List.getElem?_eq_getElem hi]; exact h _ (List.getElem_mem _)
  · rw [List.getD_eq_getElem?_getD, List.getElem?_eq_none hi]; exact ⟨Int.le_refl _, hB⟩
theorem rd_nat {i : Nat} : rd l (i : Int) = l[i]?.getD 0 := by
  unfold rd; rw [Int.toNat_natCast, List.getD_eq_getElem?_getD]
theorem rd_out {i : Nat} (h : l.length ≤ i) : rd l (i : Int) = 0 := by
  rw [rd_nat, List.getElem?_eq_none h]; rfl
theorem Dg.set (h : Dg B l) {i : Nat} {y : Int} (h0 : 0 ≤ y) (h1 : y < B) : Dg B (l.set i y) := fun x hx => by
  rcases List.mem_or_eq_of_mem_set hx with h2 | rfl
  · exact h x h2
  · exact ⟨h0, h1⟩
theorem vl_nonneg (hB : 0 ≤ B) : ∀ {l : List Int}, Dg B l → 0 ≤ vl B l
  | [], _ => Int.le_refl _
  | x :: t, h => by
    have h1 := h.cons
    have h2 := Int.mul_nonneg hB (vl_nonneg hB h1.2)
    rw [vl_cons]; omega
theorem pow_pos' (hB : 0 < B) (n : Nat) : 0 < B ^ n := Int.pow_pos hB
theorem vl_lt (hB : 0 < B) : ∀ {l : List Int}, Dg B l → vl B l < B ^ l.length
  | [], _ => by simp [vl]
  | x :: t, h => by
    have h1 := h.cons
    have h2 : vl B t + 1 ≤ B ^ t.length := vl_lt hB h1.2
    have h3 := Int.mul_le_mul_of_nonneg_left h2 (show 0 ≤ B by omega)
    rw [vl_cons, List.length_cons, Int.pow_succ]
    grind
theorem vl_app (a b : List Int) : vl B (a ++ b) = vl B a + B ^ a.length * vl B b := by
  induction a with
  | nil => simp [vl]
  | cons x t ih =>
    rw [List.cons_append, vl_cons, vl_cons, ih, List.length_cons, Int.pow_succ]; grind
theorem vl_one (x : Int) : vl B [x] = x := by simp [vl]
theorem vl_snoc (a : List Int) (x : Int) : vl B (a ++ [x]) = vl B a + B ^ a.length * x := by rw [vl_app, vl_one]
theorem vl_zeros (n : Nat) : vl B (List.replicate n 0) = 0 := by
  induction n with
  | zero => rfl
  | succ n ih => rw [List.replicate_succ, vl_cons, ih]; simp
theorem vl_take_succ (l : List Int) : ∀ (i : Nat), vl B (l.take (i + 1)) = vl B (l.take i) + B ^ i * rd l i := by
  induction l with
  | nil => intro i; simp [vl, rd]
  | cons x t ih =>
    intro i
    cases i with
    | zero => simp [vl, rd]
    | succ i =>
      rw [List.take_succ_cons, List.take_succ_cons, vl_cons, vl_cons, ih i, Int.pow_succ]
      have : rd (x :: t) ((i + 1 : Nat) : Int) = rd t i := by rw [rd_nat, rd_nat]; simp
      rw [this]; grind
theorem vl_set : ∀ (l : List Int) (i : Nat) (y : Int), i < l.length → vl B (l.set i y) = vl B l + B ^ i * (y - rd l i) := by
  intro l
  induction l with
  | nil => intro i y h; simp at h
  | cons x t ih =>
    intro i y h
    cases i with
    | zero => rw [List.set_cons_zero, vl_cons, vl_cons]; have : rd (x :: t) ((0 : Nat) : Int) = x := rfl
              rw [this]; simp; omega
    | succ i =>
      rw [List.set_cons_succ, vl_cons, vl_cons, ih i y (by simpa using h), Int.pow_succ]
      have : rd (x :: t) ((i + 1 : Nat) : Int) = rd t i := by rw [rd_nat, rd_nat]; simp
      rw [this]; grind
theorem vl_split (i : Nat) (l : List Int) : vl B l = vl B (l.take i) + B ^ i * vl B (l.drop i) := by
  rcases Nat.lt_or_ge i l.length with h | h
  · have := vl_app (B := B) (l.take i) (l.drop i)
    rw [List.take_append_drop, List.length_take, Nat.min_eq_left (by omega)] at this
    exact this
  · rw [List.take_of_length_le h, List.drop_eq_nil_of_le h]; simp [vl]
theorem vl_drop {B : Int} {l : List Int} {i : Nat} (h : i < l.length) : vl B (l.drop i) = rd l i + B * vl B (l.drop (i + 1)) := by
  rw [List.drop_eq_getElem_cons h, vl_cons, rd_nat, List.getElem?_eq_getElem h]; rfl
theorem tdiv10 {x y : Int} (h : 0 ≤ x) : Int.tdiv x y = x / y := Int.tdiv_eq_ediv_of_nonneg h
theorem tmod10 {x y : Int} (h : 0 ≤ x) : Int.tmod x y = x % y := Int.tmod_eq_emod_of_nonneg h
theorem tr_vl : ∀ (l : List Int), vl B (tr l) = vl B l
  | [] => rfl
  | x :: t => by
    have ih := tr_vl t
    unfold tr
    split
    · next h => rw [h.1] at ih; rw [vl_cons, ← ih, h.2]; simp [vl]
    · rw [vl_cons, vl_cons, ih]
theorem tr_Dg : ∀ {l : List Int}, Dg B l → Dg B (tr l)
  | [], h => h
  | x :: t, h => by
    have h1 := h.cons
    unfold tr
    split
    · exact .nil
    · intro y hy
      rcases List.mem_cons.1 hy with rfl | hy
      · exact h1.1
      · exact tr_Dg h1.2 y hy
theorem tr_tr : ∀ (l : List Int), tr (tr l) = tr l
  | [] => rfl
  | x :: t => by
    have ih := tr_tr t
    rw [tr]
    split
    · rfl
    · next h => rw [tr, ih, if_neg h]
theorem tr_length : ∀ (l : List Int), (tr l).length ≤ l.length
  | [] => Nat.le_refl _
  | x :: t => by
    have ih := tr_length t
    rw [tr]
    split <;> simp <;> omega
theorem tr_snoc0 : ∀ (l : List Int), tr (l ++ [0]) = tr l
  | [] => by simp [tr]
  | x :: t => by rw [List.cons_append, tr, tr_snoc0 t, ← tr]
theorem tr_snoc {x : Int} (hx : x ≠ 0) : ∀ (l : List Int), tr (l ++ [x]) = l ++ [x]
  | [] => by simp [tr, hx]
  | y :: t => by
    rw [List.cons_append, tr, tr_snoc hx t, if_neg]
    intro h; have := congrArg List.length h.1; simp at this
theorem tr_tail {x : Int} {t : List Int} (h : tr (x :: t) = x :: t) : tr t = t := by
  rw [tr] at h
  split at h
  · cases h
  · injection h
theorem cn_self (hB : 2 ≤ B) : ∀ {l : List Int}, Dg B l → tr l = l → cn B (vl B l) = l
  | [], _, _ => cn_zero (by simp [vl])
  | x :: t, h, ht => by
    have h1 := h.cons
    have h2 := vl_nonneg (by omega) h1.2
    have ht2 := tr_tail ht
    have ih := cn_self hB h1.2 ht2
    have h3 := Int.mul_nonneg (show 0 ≤ B by omega) h2
    have hv : vl B (x :: t) = x + B * vl B t := rfl
    by_cases h0 : vl B (x :: t) = 0
    · exfalso
      have hx : x = 0 := by omega
      have hm : B * vl B t = 0 := by omega
      have hz : vl B t = 0 := by
        rcases Int.mul_eq_zero.1 hm with h | h
        · omega
        · exact h
      rw [hz, cn_zero (Int.le_refl _)] at ih
      rw [← ih, tr, hx] at ht
      simp [tr] at ht
    · rw [cn_cons hB (by omega)]
      have e1 : (x + B * vl B t) % B = x := by rw [Int.add_mul_emod_self_left, Int.emod_eq_of_lt h1.1.1 h1.1.2]
      have e2 : (x + B * vl B t) / B = vl B t := by
        rw [Int.add_mul_ediv_left _ _ (by omega), Int.ediv_eq_zero_of_lt h1.1.1 h1.1.2]; omega
      rw [hv, e1, e2, ih]
theorem tr_cn (hB : 2 ≤ B) (h : Dg B l) : tr l = cn B (vl B l) := by
  rw [← cn_self hB (tr_Dg h) (tr_tr l), tr_vl]
theorem cn_all (hB : 2 ≤ B) : ∀ (n : Nat) (v : Int), v.toNat ≤ n → Dg B (cn B v) ∧ tr (cn B v) = cn B v ∧ (0 ≤ v → vl B (cn B v) = v)
  | 0, v, h => by
    rw [cn_zero (by omega)]
    exact ⟨.nil, rfl, fun _ => by simp [vl]; omega⟩
  | n + 1, v, h => by
    by_cases h0 : v ≤ 0
    · rw [cn_zero h0]
      exact ⟨.nil, rfl, fun _ => by simp [vl]; omega⟩
    · rw [cn_cons hB (by omega)]
      have hq : v / B < v := Int.ediv_lt_of_lt_mul (by omega) (by
        have := Int.mul_lt_mul_of_pos_left (show (1 : Int) < B by omega) (show 0 < v by omega); omega)
      have hq0 : 0 ≤ v / B := Int.ediv_nonneg (by omega) (by omega)
      obtain ⟨i1, i2, i3⟩ := cn_all hB n (v / B) (by omega)
      have hm := Int.emod_add_mul_ediv v B
      have hm0 := Int.emod_nonneg v (show B ≠ 0 by omega)
      have hm1 := Int.emod_lt_of_pos v (show 0 < B by omega)
      refine ⟨fun y hy => ?_, ?_, fun _ => ?_⟩
      · rcases List.mem_cons.1 hy with rfl | hy
        · exact ⟨hm0, hm1⟩
        · exact i1 y hy
      · rw [tr, i2, if_neg]
        intro ⟨h1, h2⟩
        have i3 := i3 hq0
        rw [h1] at i3
        have : vl B [] = 0 := rfl
        rw [this] at i3
        rw [← i3, h2] at hm
        simp at hm
        omega
      · rw [vl_cons, i3 hq0]; exact hm
theorem cn_Dg (hB : 2 ≤ B) (v : Int) : Dg B (cn B v) := (cn_all hB _ v (Nat.le_refl _)).1
theorem cn_tr (hB : 2 ≤ B) (v : Int) : tr (cn B v) = cn B v := (cn_all hB _ v (Nat.le_refl _)).2.1
theorem vl_cn (hB : 2 ≤ B) {v : Int} (h : 0 ≤ v) : vl B (cn B v) = v := (cn_all hB _ v (Nat.le_refl _)).2.2 h
theorem cn_nil (hB : 2 ≤ B) {v : Int} (h : 0 < v) : cn B v ≠ [] := by rw [cn_cons hB h]; simp
theorem cn_length (hB : 2 ≤ B) : ∀ {k : Nat} {v : Int}, v < B ^ k → (cn B v).length ≤ k
  | 0, v, h => by rw [cn_zero (by simp at h; omega)]; simp
  | k + 1, v, h => by
    by_cases h0 : v ≤ 0
    · rw [cn_zero h0]; simp
    · rw [cn_cons hB (by omega), List.length_cons]
      have := cn_length hB (k := k) (v := v / B) (Int.ediv_lt_of_lt_mul (by omega) (by rw [← Int.pow_succ]; exact h))
      omega
theorem rep_set (p : List Int) (m : Nat) (y : Int) : (p ++ List.replicate (m + 1) 0).set p.length y = (p ++ [y]) ++ List.replicate m 0 := by
  rw [List.replicate_succ, List.set_append_right _ _ (Nat.le_refl _)]
  simp
end Num

section Limbs
variable {B : Int}
theorem takeS {l : List Int} {n : Nat} (h : n < l.length) : l.take (n + 1) = l.take n ++ [rd l (n : Int)] := by
  rw [rd_nat, List.getElem?_eq_getElem h, List.take_succ_eq_append_getElem h]; rfl
theorem trS {l : List Int} {n : Nat} (h : n < l.length) (h0 : rd l (n : Int) = 0) : tr (l.take n) = tr (l.take (n + 1)) := by
  rw [takeS h, h0, tr_snoc0]
theorem trN {l : List Int} {n : Nat} (h : n < l.length) (h0 : ¬ rd l (n : Int) = 0) : l.take (n + 1) = tr (l.take (n + 1)) := by
  rw [takeS h, tr_snoc h0]
theorem add_step {P V A b x y c : Int} (h : V + P * c = A + b) : V + P * ((x + y + c) % B) + P * B * ((x + y + c) / B) = (A + P * x) + (b + P * y) := by
  have := Int.emod_add_mul_ediv (x + y + c) B
  grind
theorem u64id {x : Int} (h : 0 ≤ x) (h' : x < 18446744073709551616) : IntKind.u64.wrap x = x := by rw [wrap_u64]; omega
theorem pow_le {i j : Nat} (hB : 1 ≤ B) (h : i ≤ j) : B ^ i ≤ B ^ j := by
  obtain ⟨d, rfl⟩ := Nat.le.dest h
  rw [Int.pow_add]
  have h1 := pow_pos' (show 0 < B by omega) i
  have h2 := pow_pos' (show 0 < B by omega) d
  have := Int.mul_le_mul_of_nonneg_left (show 1 ≤ B ^ d by omega) (show 0 ≤ B ^ i by omega)
  omega
end Limbs

def Sm (B : Int) (n : Nat) (v : Int) : Prop := 0 ≤ v ∧ v < B ^ n
section Sizes
variable {B : Int}
theorem Sm.of (hB : 2 ≤ B) {l : List Int} {n : Nat} (h : Dg B l) (hl : l.length ≤ n) : Sm B n (vl B l) :=
  ⟨vl_nonneg (by omega) h, by have := vl_lt (show 0 < B by omega) h; have := pow_le (show 1 ≤ B by omega) hl; omega⟩
theorem Sm.add (hB : 2 ≤ B) {n m : Nat} {a b : Int} (ha : Sm B n a) (hb : Sm B m b) : Sm B (n + m + 1) (a + b) := by
  refine ⟨Int.add_nonneg ha.1 hb.1, ?_⟩
  have h1 := pow_le (show 1 ≤ B by omega) (show n ≤ n + m by omega)
  have h2 := pow_le (show 1 ≤ B by omega) (show m ≤ n + m by omega)
  have h3 := pow_pos' (show 0 < B by omega) (n + m)
  have h4 := Int.mul_le_mul_of_nonneg_left hB (show 0 ≤ B ^ (n + m) by omega)
  have := ha.2; have := hb.2
  rw [Int.pow_succ]; omega
theorem Sm.mul (hB : 2 ≤ B) {n m : Nat} {a b : Int} (ha : Sm B n a) (hb : Sm B m b) : Sm B (n + m) (a * b) := by
  refine ⟨Int.mul_nonneg ha.1 hb.1, ?_⟩
  have h1 := Int.mul_le_mul_of_nonneg_right (show a ≤ B ^ n by have := ha.2; omega) hb.1
  have h2 := Int.mul_lt_mul_of_pos_left hb.2 (pow_pos' (show 0 < B by omega) n)
  rw [Int.pow_add]; omega
theorem Sm.len (hB : 2 ≤ B) {n : Nat} {v : Int} (h : Sm B n v) : (cn B v).length ≤ n := cn_length hB h.2
theorem Sm.le (hB : 2 ≤ B) {n m : Nat} {v : Int} (h : Sm B n v) (hm : n ≤ m) : Sm B m v := ⟨h.1, by have := pow_le (show 1 ≤ B by omega) hm; have := h.2; omega⟩
theorem Sm.vl (hB : 2 ≤ B) {n : Nat} {v : Int} (h : Sm B n v) : vl B (cn B v) = v := vl_cn hB h.1
end Sizes
section LimbsMul
variable {B : Int}
theorem carry_step {V P T r t c : Int} (h : V + P * c = T) (ht : t = r + c) : V + P * (t % B - r) + P * B * (t / B) = T := by
  have := Int.emod_add_mul_ediv t B
  grind
theorem mul_fits {x y r c : Int} (hx : 0 ≤ x ∧ x < 4294967296) (hy : 0 ≤ y ∧ y < 4294967296) (hr : 0 ≤ r ∧ r < 4294967296) (hc : 0 ≤ c ∧ c < 4294967296) : 0 ≤ x * y ∧ x * y + r + c < 18446744073709551616 := by
  have h1 := Int.mul_nonneg hx.1 hy.1
  have h2 := Int.mul_le_mul_of_nonneg_left (show y ≤ 4294967295 by omega) hx.1
  omega
theorem vl_empty {a : List Int} (h : a.length = 0) : vl B a = 0 := by rw [List.length_eq_zero_iff.1 h]; rfl
end LimbsMul

section Bits32
end Bits32

section Bits32b
end Bits32b

section NatLeft
end NatLeft

section NatRight
end NatRight

section NatShort
end NatShort

section NatGuess
variable {B : Int}
end NatGuess

section NatLong
variable {B : Int}
structure Hid (p : Prop) : Prop where
  out : p
end NatLong

section NatDivMod
variable {B : Int}
end NatDivMod

-- dropped: Dg_of add32 and32 and64 borrow32 counted_ev div_round guess_ev guess_idx guess_l0 join64 join64' low32 lower_ev lower_l0 nat_Add.ev nat_Add.j0_ev nat_Add.l0_ev nat_Mul.ev nat_Mul.l0_ev nat_Norm.ev nat_Norm.l0_ev nat_addTo.ev nat_addTo.l0_ev nat_addTo.l1_ev nat_left.ev nat_left.l0_ev nat_right.ev nat_right.l0_ev nat_short.ev nat_trim.ev nat_trim.l0_ev or32 or32_disj or64 pred raise_ev raise_l0 short_run shr_id suc words_ev words_l0 xor32
end Go.Proofs.YtmkgmjdbgjiehaaDoor
