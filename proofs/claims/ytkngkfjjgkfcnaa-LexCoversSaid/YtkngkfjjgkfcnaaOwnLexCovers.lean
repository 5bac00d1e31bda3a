/-
The plain law of LexCovers: Tokens stand one behind the other, with nothing but blanks and remarks between; each has the bytes that it tells. No further condition.
-/
import Derived.Test.YtkngkfjjgkfcnaaQLexCoversx7
set_option maxRecDepth 100000
set_option linter.unusedVariables false
set_option linter.unusedSimpArgs false
namespace Go.Proofs.Ytkngkfjjgkfcnaa.Pure
open Go.RowKit Go.Proofs.Ytkngkfjjgkfcnaa.QLexCovers Go.Proofs.YtkngkfjjgkfcnaaW.PrintWords Go.Proofs.YtkngkfjjgkfcnaaW.PrintLast

/-! ### plain lemmas: rounds -/
section Base
variable {α β : Type}
theorem ev_pos {c : Prop} [Decidable c] {g f : Nat → Option α} {r : α} (hc : c) (h : Ev g r) : Ev (fun k => if c then g k else f k) r := by
  simpa only [if_pos hc] using h
theorem ev_neg {c : Prop} [Decidable c] {g f : Nat → Option α} {r : α} (hc : ¬ c) (h : Ev f r) : Ev (fun k => if c then g k else f k) r := by
  simpa only [if_neg hc] using h
theorem ev_ite {c : Prop} [Decidable c] {g f : Nat → Option α} {r : α} (h1 : c → Ev g r) (h2 : ¬ c → Ev f r) : Ev (fun k => if c then g k else f k) r := by
  by_cases hc : c
  · exact ev_pos hc (h1 hc)
  · exact ev_neg hc (h2 hc)
theorem ev_bind {g : Nat → Option α} {f : Nat → α → Option β} {a : α} {r : β} (h : Ev g a) (k : Ev (fun n => f n a) r) : Ev (fun n => (g n).bind (f n)) r := Ev.bind h k
theorem ev_some {o : Option α} {f : Nat → α → Option β} {a : α} {r : β} (h : o = some a) (k : Ev (fun n => f n a) r) : Ev (fun n => o.bind (f n)) r := by
  subst h; exact k
theorem ev_ret {a r : α} (h : a = r) : Ev (fun _ => some a) r := h ▸ Ev.now a
theorem ev_cast {g : Nat → Option α} {a r : α} (h : Ev g a) (e : a = r) : Ev g r := e ▸ h
theorem ev_ex {g : Nat → Option α} {r : α} (h : Ev g r) : ∃ k, g k = some r := h.rounds
theorem wr {n : Int} (h : -9223372036854775808 ≤ n) (h' : n ≤ 9223372036854775807) : wrap64 n = n := by unfold wrap64; omega
theorem drc {b : List α} {i : Nat} {c : α} {t : List α} (h : b.drop i = c :: t) : i < b.length ∧ b.drop (i + 1) = t ∧ b[i]? = some c := by
  have h1 : i < b.length := by
    rcases Nat.lt_or_ge i b.length with h1 | h1
    · exact h1
    · rw [List.drop_eq_nil_of_le h1] at h; cases h
  rw [List.drop_eq_getElem_cons h1] at h
  injection h with h2 h3
  exact ⟨h1, h3, by rw [List.getElem?_eq_getElem h1, h2]⟩
theorem drn {b : List α} {i : Nat} (h : b.drop i = []) : b.length ≤ i := by
  rcases Nat.lt_or_ge i b.length with h1 | h1
  · rw [List.drop_eq_getElem_cons h1] at h; cases h
  · exact h1
theorem rd_at {b : List Int} {i : Nat} {c : Int} (h : b[i]? = some c) : rd b (i : Int) = c := by
  unfold rd; rw [Int.toNat_natCast, List.getD_eq_getElem?_getD, h]; rfl
end Base

/-! ### lex: what the program's functions are, over lists -/
def smallB (c : Int) : Bool := decide (97 ≤ c ∧ c ≤ 122)
def digitB (c : Int) : Bool := decide (48 ≤ c ∧ c ≤ 57)
def goesB (c : Int) : Bool := smallB c || digitB c || c == 95
def blankB (c : Int) : Bool := c == 32 || c == 9 || c == 10 || c == 13
def slashB : List Int → Bool
  | [] => false
  | c :: _ => c == 47
def skipF : Bool → List Int → List Int
  | _, [] => []
  | r, c :: t => if (r && c != 10 || (c == 47 && slashB t)) || blankB c then skipF (r && c != 10 || (c == 47 && slashB t)) t else c :: t
theorem small_eq (c : Int) : lex_small.f c = some (smallB c) := by
  unfold lex_small.f smallB
  split <;> simp <;> omega
theorem digit_eq (c : Int) : lex_digit.f c = some (digitB c) := by
  unfold lex_digit.f digitB
  split <;> simp <;> omega
theorem remark_eq {b : List Int} (hb : b.length ≤ 1000000000000) {i : Nat} {c : Int} {t : List Int} (h : b.drop i = c :: t) : lex_remark.f b i = some (c == 47 && slashB t) := by
  obtain ⟨h1, h2, h3⟩ := drc h
  unfold lex_remark.f
  rw [if_pos (by omega), if_pos (by omega), rd_at h3, wr (by omega) (by omega)]
  by_cases hc : c = 47
  · subst hc
    rw [if_pos rfl]
    cases t with
    | nil => have := drn h2; rw [if_neg (by omega)]; rfl
    | cons d t =>
      obtain ⟨h4, h5, h6⟩ := drc h2
      rw [if_pos (by omega), if_pos (by omega), show (i : Int) + 1 = ((i + 1 : Nat) : Int) from rfl, rd_at h6]
      rfl
  · rw [if_neg hc]; simp [hc]
theorem skip_both {b : List Int} (hb : b.length ≤ 1000000000000) : ∀ (s : List Int) (i : Nat), b.drop i = s → i ≤ b.length →
    Ev (fun k => lex_skip.l0 k b i) ((b.length : Int) - (skipF false s).length) ∧ Ev (fun k => lex_skip.l1 k b i) ((b.length : Int) - (skipF true s).length) := by
  intro s
  induction s with
  | nil =>
    intro i h hi
    have hl := drn h
    have h0 : Ev (fun k => lex_skip.l0 k b i) ((b.length : Int) - (skipF false []).length) := by
      refine Ev.step (fun k => lex_skip.l0.eq_2 _ _ _) ?_
      refine ev_neg (by omega) (ev_ret ?_)
      simp [skipF]; omega
    refine ⟨h0, ?_⟩
    refine Ev.step (fun k => lex_skip.l1.eq_2 _ _ _) ?_
    exact ev_neg (by omega) h0
  | cons c t ih =>
    intro i h hi
    obtain ⟨h1, h2, h3⟩ := drc h
    obtain ⟨ih0, ih1⟩ := ih (i + 1) h2 (by omega)
    have hw : wrap64 ((i : Int) + 1) = ((i + 1 : Nat) : Int) := by rw [wr (by omega) (by omega)]; rfl
    have hb0 : ∀ q : Bool, q = blankB c → Ev (fun k => lex_skip.j1 k b i q) ((b.length : Int) - (skipF false (c :: t)).length) → True := fun _ _ _ => trivial
    have hbl : blankB c = true → Ev (fun k => lex_skip.j1 k b i true) ((b.length : Int) - (skipF false (c :: t)).length) := by
      intro hbl
      refine Ev.step (fun k => lex_skip.j1.eq_2 _ _ _ _) ?_
      refine ev_pos rfl ?_
      rw [hw]
      have : (c == 47) = false := by
        simp [blankB] at hbl
        simp; omega
      simp only [skipF, hbl, Bool.or_true, if_true, Bool.false_and, Bool.false_or, this]
      exact ih0
    have h0 : Ev (fun k => lex_skip.l0 k b i) ((b.length : Int) - (skipF false (c :: t)).length) := by
      refine Ev.step (fun k => lex_skip.l0.eq_2 _ _ _) ?_
      refine ev_pos (by omega) (ev_pos (by omega) ?_)
      rw [rd_at h3]
      refine ev_ite (fun hc => hbl (by simp [blankB, hc])) (fun n1 => ?_)
      refine ev_ite (fun hc => hbl (by simp [blankB, hc])) (fun n2 => ?_)
      refine ev_ite (fun hc => hbl (by simp [blankB, hc])) (fun n3 => ?_)
      by_cases n4 : c = 13
      · have := hbl (by simp [blankB, n4])
        simpa [n4] using this
      · have e4 : (c == 13) = false := by simpa using n4
        have eb : blankB c = false := by simp [blankB, n1, n2, n3, n4]
        rw [e4]
        refine Ev.step (fun k => lex_skip.j1.eq_2 _ _ _ _) ?_
        refine ev_neg (by simp) ?_
        refine ev_some (remark_eq hb h) ?_
        refine ev_ite (fun hr => ?_) (fun hr => ?_)
        · have hc : c = 47 := by simp at hr; exact hr.1
          refine Ev.step (fun k => lex_skip.l1.eq_2 _ _ _) ?_
          refine ev_pos (by omega) (ev_pos (by omega) ?_)
          rw [rd_at h3]
          refine ev_neg n3 ?_
          rw [hw]
          simp only [skipF, hr, eb, Bool.false_and, Bool.false_or, Bool.or_false, if_true]
          exact ih1
        · have hr' : (c == 47 && slashB t) = false := by simpa using hr
          refine ev_ret ?_
          simp only [skipF, hr', eb, Bool.false_and, Bool.false_or, Bool.or_false]
          have : (b.drop i).length = b.length - i := List.length_drop
          rw [h] at this
          simp at this ⊢
          omega
    refine ⟨h0, ?_⟩
    refine Ev.step (fun k => lex_skip.l1.eq_2 _ _ _) ?_
    refine ev_pos (by omega) (ev_pos (by omega) ?_)
    rw [rd_at h3]
    refine ev_ite (fun hc => ?_) (fun hc => ?_)
    · refine ev_cast h0 ?_
      simp [skipF, hc]
    · rw [hw]
      have e : (c != 10) = true := by simpa using hc
      simp only [skipF, e, Bool.true_and, Bool.true_or, if_true]
      exact ih1
theorem skip_eq {b : List Int} (hb : b.length ≤ 1000000000000) {s : List Int} {i : Nat} (h : b.drop i = s) (hi : i ≤ b.length) :
    Ev (fun k => lex_skip.f k b i) ((b.length : Int) - (skipF false s).length) := by
  unfold lex_skip.f
  exact (skip_both hb s i h hi).1
/-! words -/
def wordsL : List (List UInt8) := [[102, 110], [112, 117, 98], [113, 117, 97, 108], [108, 101, 116], [105, 110], [105, 102], [116, 104, 101, 110], [101, 108, 115, 101], [97, 115, 115, 101, 114, 116], [116, 114, 117, 101], [102, 97, 108, 115, 101], [105, 110, 116], [98, 111, 111, 108], [97, 114, 114], [103, 101, 116], [115, 101, 116], [108, 101, 110], [102, 105, 108, 108], [110, 111, 116], [97, 110, 100], [111, 114], [118]]
def wordB (s : ByteArray) : Bool := decide (s.toList ∈ wordsL)
theorem word_eq (s : ByteArray) : lex_IsWord.f s = some (wordB s) := by
  unfold lex_IsWord.f wordB
  generalize s.toList = l
  have hite : ∀ (w : List UInt8) (ws : List (List UInt8)) (o : Option Bool), o = some (decide (l ∈ ws)) → (if l = w then some true else o) = some (decide (l ∈ w :: ws)) := by
    intro w ws o ho
    by_cases h : l = w
    · rw [if_pos h]; simp [h]
    · rw [if_neg h, ho]; simp [h]
  unfold wordsL
  repeat (refine hite _ _ _ ?_)
  simp
/-! ### signs -/
def twoB (c d : Int) : Bool := (c == 45 && d == 62) || (c == 60 && d == 61) || (c == 62 && d == 61) || (c == 33 && d == 61)
def oneL : List Int := [40, 41, 123, 125, 44, 58, 61, 59, 43, 45, 42, 47, 37, 60, 62]
def twoS : Int → List Int → Bool
  | _, [] => false
  | c, d :: _ => twoB c d
def signF : List Int → Nat
  | [] => 0
  | c :: t => if twoS c t then 2 else if oneL.contains c then 1 else 0
def byteL (b : List Int) : Prop := ∀ x ∈ b, 0 ≤ x ∧ x ≤ 255
theorem toList_mk (l : List UInt8) : (⟨l.toArray⟩ : ByteArray).toList = l := by
  rw [ByteArray.toList_eq]
theorem str_toList (l : List Int) : (strOfNums l).toList = l.map fun n => UInt8.ofNat n.toNat := by
  unfold strOfNums; exact toList_mk _
theorem u8_eq {c : Int} {m : Nat} (h : 0 ≤ c ∧ c ≤ 255) (hm : m < 256) : (UInt8.ofNat c.toNat = UInt8.ofNat m) ↔ c = (m : Int) := by
  constructor
  · intro e
    have := congrArg UInt8.toNat e
    simp at this
    omega
  · rintro rfl; simp
theorem cut_two {b : List Int} {i : Nat} {c d : Int} {t : List Int} (h : b.drop i = c :: d :: t) : (b.take (i + 2)).drop i = [c, d] := by
  rw [List.drop_take, h, show i + 2 - i = 2 by omega]; rfl
theorem cut_n {b s : List Int} {i : Nat} (h : b.drop i = s) (n : Nat) : (b.take (i + n)).drop i = s.take n := by
  rw [List.drop_take, h, show i + n - i = n by omega]
theorem sign_j {b : List Int} (hb : b.length ≤ 1000000000000) {i : Nat} {c : Int} {t : List Int} (h : b.drop i = c :: t) :
    Ev (fun k => lex_sign.j0 k b i) (if oneL.contains c then 1 else 0) := by
  obtain ⟨h1, h2, h3⟩ := drc h
  refine Ev.step (fun k => lex_sign.j0.eq_2 _ _ _) ?_
  refine ev_pos (by omega) (ev_pos (by omega) ?_)
  rw [rd_at h3]
  have hite : ∀ (w : Int) (ws : List Int) (o : Nat → Option Int), Ev o (if ws.contains c then 1 else 0) → Ev (fun k => if c = w then some 1 else o k) (if (w :: ws).contains c then 1 else 0) := by
    intro w ws o ho
    refine ev_ite (fun e => ev_ret (by simp [e])) (fun e => ev_cast ho ?_)
    simp [List.contains_cons, e]
  unfold oneL
  repeat (refine hite _ _ _ ?_)
  exact ev_ret (by simp)
theorem sign_eq {b : List Int} (hb : b.length ≤ 1000000000000) (hB : byteL b) {i : Nat} {c : Int} {t : List Int} (h : b.drop i = c :: t) :
    Ev (fun k => lex_sign.f k b i) (signF (c :: t)) := by
  obtain ⟨h1, h2, h3⟩ := drc h
  have hc := hB c (by have := List.mem_of_getElem? h3; exact this)
  have hj := sign_j hb h
  unfold lex_sign.f
  rw [wr (by omega) (by omega), wr (by omega) (by omega)]
  cases t with
  | nil =>
    have := drn h2
    refine ev_neg (by omega) (ev_cast hj ?_)
    simp only [signF, twoS]; split <;> simp_all
  | cons d t =>
    obtain ⟨h4, h5, h6⟩ := drc h2
    have hd := hB d (by have := List.mem_of_getElem? h6; exact this)
    refine ev_pos (by omega) (ev_pos (by omega) (ev_pos (by omega) (ev_pos (by omega) ?_)))
    have e0 : ((i : Int) + 2).toNat = i + 2 := by omega
    rw [e0, Int.toNat_natCast, cut_two h, str_toList]
    have u1 := fun m hm => u8_eq (m := m) hc hm
    have u2 := fun m hm => u8_eq (m := m) hd hm
    have key : ∀ m n : Nat, m < 256 → n < 256 → (([c, d].map fun n => UInt8.ofNat n.toNat) = [UInt8.ofNat m, UInt8.ofNat n] ↔ (c = (m : Int) ∧ d = (n : Int))) := by
      intro m n hm hn
      simp only [List.map_cons, List.map_nil, List.cons.injEq, and_true]
      rw [u1 m hm, u2 n hn]
    refine ev_ite (fun e => ev_ret ?_) (fun n1 => ?_)
    · have := (key 45 62 (by omega) (by omega)).1 e
      obtain ⟨rfl, rfl⟩ := this
      simp [signF, twoS, twoB]
    refine ev_ite (fun e => ev_ret ?_) (fun n2 => ?_)
    · have := (key 60 61 (by omega) (by omega)).1 e
      obtain ⟨rfl, rfl⟩ := this
      simp [signF, twoS, twoB]
    refine ev_ite (fun e => ev_ret ?_) (fun n3 => ?_)
    · have := (key 62 61 (by omega) (by omega)).1 e
      obtain ⟨rfl, rfl⟩ := this
      simp [signF, twoS, twoB]
    refine ev_ite (fun e => ev_ret ?_) (fun n4 => ?_)
    · have := (key 33 61 (by omega) (by omega)).1 e
      obtain ⟨rfl, rfl⟩ := this
      simp [signF, twoS, twoB]
    have m1 : ¬ (c = 45 ∧ d = 62) := fun e => n1 ((key 45 62 (by omega) (by omega)).2 e)
    have m2 : ¬ (c = 60 ∧ d = 61) := fun e => n2 ((key 60 61 (by omega) (by omega)).2 e)
    have m3 : ¬ (c = 62 ∧ d = 61) := fun e => n3 ((key 62 61 (by omega) (by omega)).2 e)
    have m4 : ¬ (c = 33 ∧ d = 61) := fun e => n4 ((key 33 61 (by omega) (by omega)).2 e)
    refine ev_cast hj ?_
    have e2 : twoB c d = false := by simp [twoB]; omega
    simp only [signF, twoS, e2]; split <;> simp_all
/-! ### a token -/
structure TK where
  kind : Int
  txt : List Int
  fr : Nat
/-- The token that begins a text: its kind, its bytes; or the error. -/
def tokF (s : List Int) : Int × List Int × Int :=
  match s with
  | [] => (0, [], 20)
  | c :: _ =>
    if smallB c then
      (if (s.takeWhile goesB).length > 24 then (0, [], 3) else (if wordB (strOfNums (s.takeWhile goesB)) then 2 else 1, s.takeWhile goesB, 0))
    else if digitB c then
      (if (s.takeWhile digitB).length > 40 then (0, [], 3) else (3, s.takeWhile digitB, 0))
    else if signF s = 0 then (0, [], 20) else (4, s.take (signF s), 0)
theorem tokF_name {c : Int} {t : List Int} (h : smallB c = true) : tokF (c :: t) = (if ((c :: t).takeWhile goesB).length > 24 then (0, [], 3) else (if wordB (strOfNums ((c :: t).takeWhile goesB)) then 2 else 1, (c :: t).takeWhile goesB, 0)) := by
  simp only [tokF, h, if_true]
theorem tokF_dig {c : Int} {t : List Int} (h : smallB c = false) (h2 : digitB c = true) : tokF (c :: t) = (if ((c :: t).takeWhile digitB).length > 40 then (0, [], 3) else (3, (c :: t).takeWhile digitB, 0)) := by
  unfold tokF
  simp only [h, h2, if_true]
  rfl
theorem tokF_sign {c : Int} {t : List Int} (h : smallB c = false) (h2 : digitB c = false) : tokF (c :: t) = (if signF (c :: t) = 0 then (0, [], 20) else (4, (c :: t).take (signF (c :: t)), 0)) := by
  unfold tokF
  simp only [h, h2]
  rfl
theorem sign_cons (c : Int) (t : List Int) : signF (c :: t) = if twoS c t = true then 2 else if oneL.contains c = true then 1 else 0 := rfl
theorem sign_le (c : Int) (t : List Int) : signF (c :: t) ≤ (c :: t).length ∧ signF (c :: t) ≤ 2 := by
  unfold signF
  cases t with
  | nil => simp [twoS]; split <;> omega
  | cons d t => simp only [List.length_cons]; split <;> (try split) <;> omega
/-- What 'token' tells of it. -/
def tokR (i : Nat) (q : Int × List Int × Int) : Int × ByteArray × Int × Int × Int :=
  if q.2.2 = 0 then (q.1, strOfNums q.2.1, (i : Int), ((i + q.2.1.length : Nat) : Int), 0) else (0, (⟨#[]⟩ : ByteArray), 0, 0, q.2.2)
theorem take_takeWhile {α : Type} (p : α → Bool) : ∀ l : List α, l.take (l.takeWhile p).length = l.takeWhile p
  | [] => rfl
  | c :: t => by
    by_cases h : p c = true
    · rw [List.takeWhile_cons_of_pos h]; simp only [List.length_cons, List.take_succ_cons, take_takeWhile p t]
    · rw [List.takeWhile_cons_of_neg h]; rfl
theorem takeWhile_le {α : Type} (p : α → Bool) (l : List α) : (l.takeWhile p).length ≤ l.length := (List.takeWhile_prefix p).length_le
theorem name_loop {b : List Int} (hb : b.length ≤ 1000000000000) {i : Nat} {r : Int × ByteArray × Int × Int × Int} : ∀ (u : List Int) (j : Nat), b.drop j = u →
    Ev (fun k => lex_token.j1 k b i ((j + (u.takeWhile goesB).length : Nat) : Int)) r → Ev (fun k => lex_token.l0 k b i (j : Int)) r := by
  intro u
  induction u with
  | nil =>
    intro j h he
    have := drn h
    refine Ev.step (fun k => lex_token.l0.eq_2 _ _ _ _) ?_
    exact ev_neg (by omega) he
  | cons c t ih =>
    intro j h he
    obtain ⟨h1, h2, h3⟩ := drc h
    have hw : wrap64 ((j : Int) + 1) = ((j + 1 : Nat) : Int) := by rw [wr (by omega) (by omega)]; rfl
    have hgo : goesB c = true → Ev (fun k => lex_token.l0 k b i ((j + 1 : Nat) : Int)) r := by
      intro hg
      refine ih (j + 1) h2 ?_
      rw [List.takeWhile_cons_of_pos hg, List.length_cons] at he
      rw [show j + 1 + (t.takeWhile goesB).length = j + ((t.takeWhile goesB).length + 1) by omega]
      exact he
    refine Ev.step (fun k => lex_token.l0.eq_2 _ _ _ _) ?_
    refine ev_pos (by omega) (ev_pos (by omega) ?_)
    rw [rd_at h3, hw]
    refine ev_some (small_eq c) ?_
    refine ev_ite (fun g => hgo (by simp [goesB, g])) (fun n1 => ?_)
    refine ev_some (digit_eq c) ?_
    refine ev_ite (fun g => hgo (by simp [goesB, g])) (fun n2 => ?_)
    refine ev_ite (fun g => hgo (by simp [goesB, g])) (fun n3 => ?_)
    have hn : goesB c = false := by simp [goesB, n3]; simp at n1 n2; exact ⟨n1, n2⟩
    rw [List.takeWhile_cons_of_neg (by simp [hn])] at he
    exact he
def digE (b : List Int) (i e : Int) : Option (Int × ByteArray × Int × Int × Int) := (if (wrap64 (e - i)) > 40 then (some (0, (⟨#[]⟩ : ByteArray), 0, 0, 3)) else (if 0 ≤ i then (if i ≤ e then (if e ≤ (b.length : Int) then (some (3, strOfNums ((b.take (e : Int).toNat).drop (i : Int).toNat), i, e, 0)) else (none)) else (none)) else (none)))
theorem dig_loop {b : List Int} (hb : b.length ≤ 1000000000000) {i : Nat} {r : Int × ByteArray × Int × Int × Int} : ∀ (u : List Int) (j : Nat), b.drop j = u →
    digE b i ((j + (u.takeWhile digitB).length : Nat) : Int) = some r → Ev (fun k => lex_token.l1 k b i (j : Int)) r := by
  intro u
  induction u with
  | nil =>
    intro j h he
    have := drn h
    refine Ev.step (fun k => lex_token.l1.eq_2 _ _ _ _) ?_
    refine ev_neg (by omega) ?_
    exact ⟨0, fun _ _ => he⟩
  | cons c t ih =>
    intro j h he
    obtain ⟨h1, h2, h3⟩ := drc h
    have hw : wrap64 ((j : Int) + 1) = ((j + 1 : Nat) : Int) := by rw [wr (by omega) (by omega)]; rfl
    refine Ev.step (fun k => lex_token.l1.eq_2 _ _ _ _) ?_
    refine ev_pos (by omega) (ev_pos (by omega) ?_)
    rw [rd_at h3, hw]
    refine ev_some (digit_eq c) ?_
    refine ev_ite (fun hg => ?_) (fun n1 => ?_)
    · refine ih (j + 1) h2 ?_
      rw [List.takeWhile_cons_of_pos hg, List.length_cons] at he
      rw [show j + 1 + (t.takeWhile digitB).length = j + ((t.takeWhile digitB).length + 1) by omega]
      exact he
    · rw [List.takeWhile_cons_of_neg (by simpa using n1)] at he
      exact ⟨0, fun _ _ => he⟩
theorem token_eq {b : List Int} (hb : b.length ≤ 1000000000000) (hB : byteL b) {i : Nat} {c : Int} {t : List Int} (h : b.drop i = c :: t) :
    Ev (fun k => lex_token.f k b i) (tokR i (tokF (c :: t))) := by
  obtain ⟨h1, h2, h3⟩ := drc h
  have hlen : (c :: t).length = b.length - i := by rw [← h, List.length_drop]
  unfold lex_token.f
  refine ev_pos (by omega) (ev_pos (by omega) ?_)
  rw [rd_at h3]
  refine ev_some (small_eq c) ?_
  refine ev_ite (fun g => ?_) (fun n1 => ?_)
  · refine name_loop hb (c :: t) i h ?_
    have hle := takeWhile_le goesB (c :: t)
    refine Ev.step (fun k => lex_token.j1.eq_2 _ _ _ _) ?_
    refine ev_pos (by omega) (ev_pos (by omega) (ev_pos (by omega) ?_))
    rw [Int.toNat_natCast, Int.toNat_natCast, cut_n h, take_takeWhile, wr (by omega) (by omega)]
    refine ev_some (word_eq _) ?_
    have e : ((i + ((c :: t).takeWhile goesB).length : Nat) : Int) - (i : Int) = (((c :: t).takeWhile goesB).length : Int) := by omega
    rw [e]
    rw [tokF_name g]
    refine ev_ite (fun w => ?_) (fun w => ?_)
    · refine ev_ite (fun l => ev_ret ?_) (fun l => ev_ret ?_)
      · rw [if_pos (by omega)]; rfl
      · rw [if_neg (by omega), if_pos w]; rfl
    · refine ev_ite (fun l => ev_ret ?_) (fun l => ev_ret ?_)
      · rw [if_pos (by omega)]; rfl
      · rw [if_neg (by omega), if_neg w]; rfl
  have n1' : smallB c = false := by simpa using n1
  refine ev_some (digit_eq c) ?_
  refine ev_ite (fun g => ?_) (fun n2 => ?_)
  · refine dig_loop hb (c :: t) i h ?_
    have hle := takeWhile_le digitB (c :: t)
    unfold digE
    have e : ((i + ((c :: t).takeWhile digitB).length : Nat) : Int) - (i : Int) = (((c :: t).takeWhile digitB).length : Int) := by omega
    rw [Int.toNat_natCast, Int.toNat_natCast, cut_n h, take_takeWhile, wr (by omega) (by omega), e]
    by_cases l : ((c :: t).takeWhile digitB).length > 40
    · rw [if_pos (by omega), tokF_dig n1' g, if_pos l]; rfl
    · rw [if_neg (by omega), if_pos (by omega), if_pos (by omega), if_pos (by omega), tokF_dig n1' g, if_neg l]; rfl
  have n2' : digitB c = false := by simpa using n2
  refine ev_bind (sign_eq hb hB h) ?_
  have hs := (sign_le c t).1
  rw [wr (by omega) (by omega)]
  refine ev_ite (fun l => ev_ret ?_) (fun l => ?_)
  · rw [tokF_sign n1' n2', if_pos (by omega)]; rfl
  · have l' : ¬ signF (c :: t) = 0 := by omega
    refine ev_pos (by omega) (ev_pos (by omega) (ev_ret ?_))
    have e : ((i : Int) + (signF (c :: t) : Int)).toNat = i + signF (c :: t) := by omega
    rw [e, Int.toNat_natCast, cut_n h]
    have e2 : ((c :: t).take (signF (c :: t))).length = signF (c :: t) := by rw [List.length_take]; omega
    rw [tokF_sign n1' n2', if_neg l']
    unfold tokR
    rw [if_pos rfl]
    simp only [e2]
    rw [show ((i + signF (c :: t) : Nat) : Int) = (i : Int) + (signF (c :: t) : Int) from rfl]
/-! ### all tokens -/
theorem skip_suf : ∀ (s : List Int) (r : Bool), skipF r s <:+ s
  | [], r => by simp [skipF]
  | c :: t, r => by
    unfold skipF
    split
    · exact (skip_suf t _).trans (List.suffix_cons c t)
    · exact List.suffix_refl _
theorem suf_drop {b s : List Int} (h : s <:+ b) : b.drop (b.length - s.length) = s := (List.suffix_iff_eq_drop.1 h).symm
theorem drop_suf {b s : List Int} {i : Nat} (h : b.drop i = s) : s <:+ b := h ▸ List.drop_suffix i b
theorem tok_len {c : Int} {t : List Int} (h : (tokF (c :: t)).2.2 = 0) : 1 ≤ (tokF (c :: t)).2.1.length ∧ (tokF (c :: t)).2.1 = (c :: t).take (tokF (c :: t)).2.1.length ∧ (tokF (c :: t)).2.1.length ≤ (c :: t).length := by
  cases g : smallB c with
  | true =>
    rw [tokF_name g] at h ⊢
    have hg : goesB c = true := by simp [goesB, g]
    split at h
    · simp at h
    · rename_i l
      rw [if_neg l]
      refine ⟨?_, (take_takeWhile _ _).symm, takeWhile_le _ _⟩
      rw [List.takeWhile_cons_of_pos hg]; simp
  | false =>
    cases g2 : digitB c with
    | true =>
      rw [tokF_dig g g2] at h ⊢
      split at h
      · simp at h
      · rename_i l
        rw [if_neg l]
        refine ⟨?_, (take_takeWhile _ _).symm, takeWhile_le _ _⟩
        rw [List.takeWhile_cons_of_pos g2]; simp
    | false =>
      rw [tokF_sign g g2] at h ⊢
      split at h
      · simp at h
      · rename_i l
        rw [if_neg l]
        have hs := (sign_le c t).1
        have e2 : ((c :: t).take (signF (c :: t))).length = signF (c :: t) := by rw [List.length_take]; omega
        simp only [e2]
        exact ⟨by omega, trivial, hs⟩
/-- The tokens of a rest of a text of L bytes, by rounds; behind them where it goes wrong, and how. -/
def toksF (L : Nat) : Nat → List Int → List TK × Int × Int
  | 0, _ => ([], 0, 0)
  | n + 1, s => match skipF false s with
    | [] => ([⟨0, [], L⟩], 0, 0)
    | c :: t =>
      if (tokF (c :: t)).2.2 = 0 then
        (if (toksF L n ((c :: t).drop (tokF (c :: t)).2.1.length)).2.2 = 0 then (⟨(tokF (c :: t)).1, (tokF (c :: t)).2.1, L - (c :: t).length⟩ :: (toksF L n ((c :: t).drop (tokF (c :: t)).2.1.length)).1, 0, 0)
        else ([], (toksF L n ((c :: t).drop (tokF (c :: t)).2.1.length)).2.1, (toksF L n ((c :: t).drop (tokF (c :: t)).2.1.length)).2.2))
      else ([], ((L - (c :: t).length : Nat) : Int), (tokF (c :: t)).2.2)
def to34 (q : TK) : S34 := ⟨q.kind, strOfNums q.txt, ⟨(q.fr : Int), ((q.fr + q.txt.length : Nat) : Int)⟩⟩
def toksR (acc : List S34) (q : List TK × Int × Int) : List S34 × Int × Int := if q.2.2 = 0 then (acc ++ q.1.map to34, 0, 0) else ([], q.2.1, q.2.2)
theorem toks_loop {b : List Int} (hb : b.length ≤ 1000000000) (hB : byteL b) : ∀ (n : Nat) (s : List Int) (acc : List S34), s <:+ b → s.length < n → acc.length + s.length ≤ b.length →
    Ev (fun k => lex_Tokens.l0 k b acc ((b.length : Int) - (skipF false s).length)) (toksR acc (toksF b.length n s)) := by
  intro n
  induction n with
  | zero => intro s acc h1 h2; omega
  | succ n ih =>
    intro s acc h1 h2 h3
    have hss := skip_suf s false
    have hsl := hss.length_le
    have hsb := hss.trans h1
    have hbl := hsb.length_le
    have hd := suf_drop hsb
    refine Ev.step (fun k => lex_Tokens.l0.eq_2 _ _ _ _) ?_
    unfold toksF
    cases hk : skipF false s with
    | nil =>
      refine ev_neg (by simp) (ev_pos (by omega) (ev_ret ?_))
      simp [toksR, to34, strOfNums]
    | cons c t =>
      rw [hk] at hss hsl hsb hbl hd
      refine ev_pos (by simp only [List.length_cons]; omega) ?_
      have e : (b.length : Int) - ((c :: t).length : Nat) = ((b.length - (c :: t).length : Nat) : Int) := by omega
      rw [e]
      refine ev_bind (token_eq (by omega) hB hd) ?_
      simp only
      by_cases h0 : (tokF (c :: t)).2.2 = 0
      · obtain ⟨l1, l2, l3⟩ := tok_len h0
        have hR : tokR (b.length - (c :: t).length) (tokF (c :: t)) = ((tokF (c :: t)).1, strOfNums (tokF (c :: t)).2.1, ((b.length - (c :: t).length : Nat) : Int), ((b.length - (c :: t).length + (tokF (c :: t)).2.1.length : Nat) : Int), 0) := by
          unfold tokR; rw [if_pos h0]
        rw [hR]
        refine ev_pos rfl (ev_pos (by simp only [List.length_cons] at hsl; omega) ?_)
        have hd2 : b.drop (b.length - (c :: t).length + (tokF (c :: t)).2.1.length) = (c :: t).drop (tokF (c :: t)).2.1.length := by
          rw [← List.drop_drop, hd]
        refine ev_bind (skip_eq (by omega) hd2 (by omega)) ?_
        have hsuf : (c :: t).drop (tokF (c :: t)).2.1.length <:+ b := (List.drop_suffix _ _).trans hsb
        have hlen : ((c :: t).drop (tokF (c :: t)).2.1.length).length = (c :: t).length - (tokF (c :: t)).2.1.length := List.length_drop
        refine ev_cast (ih _ _ hsuf (by omega) (by rw [List.length_append]; simp only [List.length_cons, List.length_nil] at *; omega)) ?_
        simp only [h0, if_true]
        by_cases hr : (toksF b.length n ((c :: t).drop (tokF (c :: t)).2.1.length)).2.2 = 0
        · simp [toksR, hr, to34]
        · simp [toksR, hr]
      · have hR : tokR (b.length - (c :: t).length) (tokF (c :: t)) = (0, (⟨#[]⟩ : ByteArray), 0, 0, (tokF (c :: t)).2.2) := by
          unfold tokR; rw [if_neg h0]
        rw [hR]
        refine ev_neg h0 (ev_ret ?_)
        simp [toksR, h0]
theorem tokens_eq {b : List Int} (hb : b.length ≤ 1000000000) (hB : byteL b) : Ev (fun k => lex_Tokens.f k b) (toksR [] (toksF b.length (b.length + 1) b)) := by
  unfold lex_Tokens.f
  refine ev_bind (skip_eq (by omega) (i := 0) rfl (by omega)) ?_
  exact toks_loop hb hB (b.length + 1) b [] (List.suffix_refl _) (by omega) (by simp)
theorem parted_ok : whetstonelaw08_parted.f 100 = some true := by decide +kernel
theorem parted_ev : Ev (fun k => whetstonelaw08_parted.f k) true := Ev.of whetstonelaw08_parted.mono parted_ok

def marksF : Bool → List Int → List Int
  | _, [] => []
  | r, c :: t => (if (r && c != 10 || (c == 47 && slashB t)) || blankB c then 1 else 0) :: marksF (r && c != 10 || (c == 47 && slashB t)) t
theorem marks_len : ∀ (s : List Int) (r : Bool), (marksF r s).length = s.length
  | [], _ => rfl
  | c :: t, r => by simp [marksF, marks_len t]
theorem set_mid {α : Type} (d : List α) (x y : α) (t : List α) (i : Nat) (h : d.length = i) : (d ++ x :: t).set i y = (d ++ [y]) ++ t := by
  subst h; simp
theorem marks_loop {b : List Int} (hb : b.length ≤ 1000000000) : ∀ (s : List Int) (i : Nat) (r : Bool) (d : List Int), b.drop i = s → d.length = i → i ≤ b.length →
    Ev (fun k => whetstoneref08_Marks.l0 k b (d ++ List.replicate s.length 0) r i) (d ++ marksF r s) := by
  intro s
  induction s with
  | nil =>
    intro i r d h hd hi
    have := drn h
    refine Ev.step (fun k => whetstoneref08_Marks.l0.eq_2 _ _ _ _ _) ?_
    exact ev_neg (by omega) (ev_ret (by simp [marksF]))
  | cons c t ih =>
    intro i r d h hd hi
    obtain ⟨h1, h2, h3⟩ := drc h
    have hx : ∀ m : List Int, (d ++ m).length = d.length + m.length := fun m => List.length_append
    have hw : wrap64 ((i : Int) + 1) = ((i + 1 : Nat) : Int) := by rw [wr (by omega) (by omega)]; rfl
    -- the round's end
    have one : ∀ r2 : Bool, Ev (fun k => whetstoneref08_Marks.l0 k b ((d ++ List.replicate (c :: t).length 0).set i 1) r2 ((i + 1 : Nat) : Int)) ((d ++ [1]) ++ marksF r2 t) := by
      intro r2
      rw [List.length_cons, List.replicate_succ, set_mid d 0 1 _ i hd]
      exact ih (i + 1) r2 (d ++ [1]) h2 (by simp [hd]) (by omega)
    have zero : ∀ r2 : Bool, Ev (fun k => whetstoneref08_Marks.l0 k b (d ++ List.replicate (c :: t).length 0) r2 ((i + 1 : Nat) : Int)) ((d ++ [0]) ++ marksF r2 t) := by
      intro r2
      have := ih (i + 1) r2 (d ++ [0]) h2 (by simp [hd]) (by omega)
      rw [List.append_assoc] at this
      exact this
    have hl : ((d ++ List.replicate (c :: t).length 0).length : Int) = b.length := by
      have : (b.drop i).length = b.length - i := List.length_drop
      rw [h] at this
      rw [List.length_append, List.length_replicate]; omega
    have j3 : ∀ (r1 x : Bool), (r1 = true → x = false) → Ev (fun k => whetstoneref08_Marks.j3 k b (d ++ List.replicate (c :: t).length 0) r1 i x) (d ++ (if (r1 || x) || blankB c then 1 else 0) :: marksF (r1 || x) t) := by
      intro r1 x hx1
      refine Ev.step (fun k => whetstoneref08_Marks.j3.eq_2 _ _ _ _ _ _) ?_
      rw [hl, rd_at h3, hw, Int.toNat_natCast]
      refine ev_ite (fun e => ?_) (fun e => ?_)
      · refine ev_pos (by omega) (ev_pos (by omega) (ev_cast (one true) ?_))
        simp [e]
      · have e' : x = false := by simpa using e
        subst e'
        refine ev_ite (fun g => ?_) (fun g => ?_)
        · refine ev_pos (by omega) (ev_pos (by omega) (ev_cast (one r1) ?_))
          simp [g]
        · have g' : r1 = false := by simpa using g
          subst g'
          refine ev_pos (by omega) (ev_pos (by omega) ?_)
          refine ev_ite (fun q => ev_pos (by omega) (ev_cast (one false) (by simp [blankB, q]))) (fun q1 => ?_)
          refine ev_ite (fun q => ev_pos (by omega) (ev_cast (one false) (by simp [blankB, q]))) (fun q2 => ?_)
          refine ev_ite (fun q => ev_pos (by omega) (ev_cast (one false) (by simp [blankB, q]))) (fun q3 => ?_)
          refine ev_ite (fun q => ev_pos (by omega) (ev_cast (one false) (by simp [blankB, q]))) (fun q4 => ?_)
          refine ev_cast (zero false) ?_
          simp [blankB, q1, q2, q3, q4]
    have j2 : ∀ r1 : Bool, Ev (fun k => whetstoneref08_Marks.j2 k b (d ++ List.replicate (c :: t).length 0) r1 i) (d ++ (if (r1 || (c == 47 && slashB t)) || blankB c then 1 else 0) :: marksF (r1 || (c == 47 && slashB t)) t) := by
      intro r1
      refine Ev.step (fun k => whetstoneref08_Marks.j2.eq_2 _ _ _ _ _) ?_
      refine ev_ite (fun e => ?_) (fun e => ?_)
      · refine ev_cast (j3 r1 false (fun _ => rfl)) ?_
        simp [e]
      · have e' : r1 = false := by simpa using e
        subst e'
        refine ev_pos (by omega) (ev_pos (by omega) ?_)
        rw [rd_at h3, hw]
        refine ev_ite (fun q => ?_) (fun q => ?_)
        · subst q
          cases t with
          | nil =>
            have := drn h2
            refine ev_neg (by omega) (ev_cast (j3 false false (fun _ => rfl)) ?_)
            simp [slashB]
          | cons f t =>
            obtain ⟨h4, h5, h6⟩ := drc h2
            refine ev_pos (by omega) (ev_pos (by omega) ?_)
            rw [rd_at h6]
            refine ev_cast (j3 false (f == 47) (fun q => by cases q)) ?_
            simp [slashB]
        · refine ev_cast (j3 false false (fun _ => rfl)) ?_
          have q' : (c == 47) = false := by simpa using q
          simp only [q', Bool.false_and]
    refine Ev.step (fun k => whetstoneref08_Marks.l0.eq_2 _ _ _ _ _) ?_
    refine ev_pos (by omega) ?_
    have j1 : ∀ x : Bool, x = (r && c == 10) → Ev (fun k => whetstoneref08_Marks.j1 k b (d ++ List.replicate (c :: t).length 0) r i x) (d ++ marksF r (c :: t)) := by
      intro x hx1
      refine Ev.step (fun k => whetstoneref08_Marks.j1.eq_2 _ _ _ _ _ _) ?_
      refine ev_ite (fun e => ?_) (fun e => ?_)
      · refine ev_cast (j2 false) ?_
        have : r = true ∧ c = 10 := by rw [hx1] at e; simpa using e
        simp [marksF, this]
      · refine ev_cast (j2 r) ?_
        have : (r && c != 10) = r := by
          rw [hx1] at e
          cases r <;> simp_all
        simp only [marksF, this]
    refine ev_ite (fun e => ?_) (fun e => ?_)
    · refine ev_pos (by omega) ?_
      rw [rd_at h3]
      exact j1 _ (by rw [e]; simp)
    · exact j1 _ (by simp at e; simp [e])
theorem marks_eq {b : List Int} (hb : b.length ≤ 1000000000) : Ev (fun k => whetstoneref08_Marks.f k b) (marksF false b) := by
  unfold whetstoneref08_Marks.f
  refine ev_pos (by omega) (ev_pos (by omega) ?_)
  rw [Int.toNat_natCast]
  exact marks_loop hb b 0 false [] rfl rfl (by omega)
theorem marks_goes {c : Int} {t : List Int} (hg : goesB c = true) : marksF false (c :: t) = 0 :: marksF false t := by
  have h47 : (c == 47) = false := by
    simp [goesB, smallB, digitB] at hg; simp; omega
  have hb : blankB c = false := by
    simp [goesB, smallB, digitB] at hg; simp [blankB]; omega
  simp [marksF, h47, hb]
theorem skip_stop : ∀ (s : List Int) (r : Bool) {c : Int} {t : List Int}, skipF r s = c :: t → ((c == 47 && slashB t) || blankB c) = false
  | [], r, c, t, h => by simp [skipF] at h
  | d :: u, r, c, t, h => by
    unfold skipF at h
    split at h
    · exact skip_stop u _ h
    · rename_i hn
      injection h with h1 h2
      subst h1; subst h2
      simp only [Bool.not_eq_true, Bool.or_eq_false_iff] at hn ⊢
      exact ⟨hn.1.2, hn.2⟩
theorem marks_sign {c : Int} {t : List Int} (h : ((c == 47 && slashB t) || blankB c) = false) {m : List Int} {j : Nat} (hm : m.drop j = marksF false (c :: t)) : m.drop (j + signF (c :: t)) = marksF false ((c :: t).drop (signF (c :: t))) := by
  have hr : (c == 47 && slashB t) = false := by
    simp only [Bool.or_eq_false_iff] at h; exact h.1
  rw [← List.drop_drop, hm]
  have e1 : marksF false (c :: t) = (if (false || false) || blankB c then 1 else 0) :: marksF false t := by
    simp only [marksF, Bool.false_and, hr, Bool.or_self]
  by_cases h2 : twoS c t = true
  · cases t with
    | nil => simp [twoS] at h2
    | cons d t =>
      simp only [twoS] at h2
      have hd : (d == 47) = false := by simp [twoB] at h2; simp; omega
      have : signF (c :: d :: t) = 2 := by simp [signF, twoS, h2]
      rw [this, e1]
      simp [marksF, hd]
  · have e2 : signF (c :: t) = 0 ∨ signF (c :: t) = 1 := by
      have h2' : twoS c t = false := by simpa using h2
      rw [sign_cons, h2', if_neg (by simp)]
      by_cases h3 : oneL.contains c = true
      · rw [if_pos h3]; exact .inr rfl
      · rw [if_neg h3]; exact .inl rfl
    rcases e2 with e2 | e2
    · rw [e2]; rfl
    · rw [e2, e1]; rfl

theorem rd34_at {l : List S34} {i : Nat} {c : S34} (h : l[i]? = some c) : rd_T34 l (i : Int) = c := by
  unfold rd_T34; rw [Int.toNat_natCast, List.getD_eq_getElem?_getD, h]; rfl
/-- What is skipped is marked. -/
theorem skip_marks {b m : List Int} : ∀ (s : List Int) (r : Bool) (i : Nat), b.drop i = s → m.drop i = marksF r s → i ≤ b.length →
    (∀ k, i ≤ k → k < b.length - (skipF r s).length → rd m (k : Int) ≠ 0) ∧ m.drop (b.length - (skipF r s).length) = marksF false (skipF r s) ∧ i ≤ b.length - (skipF r s).length := by
  intro s
  induction s with
  | nil =>
    intro r i h hm hi
    have := drn h
    have e : i = b.length := by omega
    subst e
    simp only [skipF, List.length_nil, Nat.sub_zero]
    exact ⟨fun k h1 h2 => by omega, by rw [hm]; cases r <;> rfl, Nat.le_refl _⟩
  | cons c t ih =>
    intro r i h hm hi
    obtain ⟨h1, h2, h3⟩ := drc h
    by_cases hk : ((r && c != 10 || (c == 47 && slashB t)) || blankB c) = true
    · simp only [marksF, hk, if_true] at hm
      obtain ⟨m1, m2, m3⟩ := drc hm
      have hs : skipF r (c :: t) = skipF (r && c != 10 || (c == 47 && slashB t)) t := by simp only [skipF, hk, if_true]
      rw [hs]
      obtain ⟨a1, a2, a3⟩ := ih _ (i + 1) h2 m2 (by omega)
      refine ⟨fun k hk1 hk2 => ?_, a2, by omega⟩
      rcases Nat.eq_or_lt_of_le hk1 with e | e
      · subst e; rw [rd_at m3]; decide
      · exact a1 k e hk2
    · have hr : (r && c != 10) = false := by
        simp at hk; cases r <;> simp_all
      have hs : skipF r (c :: t) = c :: t := by simp only [skipF]; rw [if_neg hk]
      have hl : (c :: t).length = b.length - i := by rw [← h, List.length_drop]
      have e : b.length - (c :: t).length = i := by omega
      rw [hs, e]
      refine ⟨fun k h1 h2 => by omega, ?_, Nat.le_refl _⟩
      rw [hm]
      simp only [marksF, hr, Bool.false_and]
theorem marks_all : ∀ (w v : List Int), (∀ x ∈ w, goesB x = true) → marksF false (w ++ v) = List.replicate w.length 0 ++ marksF false v
  | [], v, _ => rfl
  | c :: w, v, h => by
    rw [List.cons_append, marks_goes (h c (by simp)), marks_all w v (fun x hx => h x (by simp [hx]))]
    rfl
theorem takeWhile_all {α : Type} (p : α → Bool) : ∀ (l : List α), ∀ x ∈ l.takeWhile p, p x = true
  | [], x, hx => by simp at hx
  | c :: t, x, hx => by
    by_cases h : p c = true
    · rw [List.takeWhile_cons_of_pos h] at hx
      rcases List.mem_cons.1 hx with e | e
      · rw [e]; exact h
      · exact takeWhile_all p t x e
    · rw [List.takeWhile_cons_of_neg h] at hx; simp at hx
theorem marks_while {m : List Int} {j : Nat} {s : List Int} (p : Int → Bool) (hp : ∀ x, p x = true → goesB x = true) (hm : m.drop j = marksF false s) : m.drop (j + (s.takeWhile p).length) = marksF false (s.drop (s.takeWhile p).length) := by
  rw [← List.drop_drop, hm]
  have e : s = s.takeWhile p ++ s.drop (s.takeWhile p).length := by
    conv => lhs; rw [← List.take_append_drop (s.takeWhile p).length s]
    rw [take_takeWhile]
  have e2 := marks_all (s.takeWhile p) (s.drop (s.takeWhile p).length) (fun x hx => hp x (takeWhile_all p s x hx))
  rw [← e] at e2
  rw [e2]
  rw [List.drop_append_of_le_length (by simp)]
  simp
theorem tok_marks {m : List Int} {j : Nat} {c : Int} {t : List Int} (hst : ((c == 47 && slashB t) || blankB c) = false) (hm : m.drop j = marksF false (c :: t)) (h0 : (tokF (c :: t)).2.2 = 0) :
    m.drop (j + (tokF (c :: t)).2.1.length) = marksF false ((c :: t).drop (tokF (c :: t)).2.1.length) := by
  cases g : smallB c with
  | true =>
    rw [tokF_name g] at h0 ⊢
    split at h0
    · simp at h0
    · rename_i l
      rw [if_neg l]
      exact marks_while goesB (fun _ h => h) hm
  | false =>
    cases g2 : digitB c with
    | true =>
      rw [tokF_dig g g2] at h0 ⊢
      split at h0
      · simp at h0
      · rename_i l
        rw [if_neg l]
        exact marks_while digitB (fun x h => by simp [goesB, h]) hm
    | false =>
      rw [tokF_sign g g2] at h0 ⊢
      split at h0
      · simp at h0
      · rename_i l
        rw [if_neg l]
        have hs := (sign_le c t).1
        have e2 : ((c :: t).take (signF (c :: t))).length = signF (c :: t) := by rw [List.length_take]; omega
        simp only [e2]
        exact marks_sign hst hm
def Cov (b m : List Int) : Nat → List TK → Prop
  | _, [] => False
  | e, [q] => q = ⟨0, [], b.length⟩ ∧ e ≤ b.length ∧ ∀ k : Nat, e ≤ k → k < b.length → rd m (k : Int) ≠ 0
  | e, q :: q2 :: t => e ≤ q.fr ∧ q.fr + q.txt.length ≤ b.length ∧ 1 ≤ q.txt.length ∧ (b.take (q.fr + q.txt.length)).drop q.fr = q.txt ∧ (∀ k : Nat, e ≤ k → k < q.fr → rd m (k : Int) ≠ 0) ∧ Cov b m (q.fr + q.txt.length) (q2 :: t)
theorem toks_cov {b m : List Int} (hml : m.length = b.length) : ∀ (n : Nat) (s : List Int) (i : Nat), b.drop i = s → m.drop i = marksF false s → i ≤ b.length → s.length < n → (toksF b.length n s).2.2 = 0 →
    Cov b m i (toksF b.length n s).1 := by
  intro n
  induction n with
  | zero => intro s i h1 h2 h3 h4; omega
  | succ n ih =>
    intro s i h hm hi hsn h0
    obtain ⟨a1, a2, a3⟩ := skip_marks s false i h hm hi
    have hsl : (skipF false s).length ≤ s.length := (skip_suf s false).length_le
    have hsf : skipF false s <:+ b := (skip_suf s false).trans (drop_suf h)
    have hd := suf_drop hsf
    have hst := fun c t => skip_stop s false (c := c) (t := t)
    unfold toksF at h0 ⊢
    cases hk : skipF false s with
    | nil =>
      rw [hk] at a1 a2 a3
      simp only [List.length_nil, Nat.sub_zero] at a1 a2 a3
      exact ⟨rfl, hi, a1⟩
    | cons c t =>
      have hst := hst c t hk
      rw [hk] at a1 a2 a3 hsl hsf hd
      simp only [hk] at h0 ⊢
      have hbl := hsf.length_le
      by_cases hq : (tokF (c :: t)).2.2 = 0
      · rw [if_pos hq] at h0 ⊢
        by_cases hr : (toksF b.length n ((c :: t).drop (tokF (c :: t)).2.1.length)).2.2 = 0
        · rw [if_pos hr] at h0 ⊢
          obtain ⟨l1, l2, l3⟩ := tok_len hq
          have hd2 : b.drop (b.length - (c :: t).length + (tokF (c :: t)).2.1.length) = (c :: t).drop (tokF (c :: t)).2.1.length := by
            rw [← List.drop_drop, hd]
          have hdl : ((c :: t).drop (tokF (c :: t)).2.1.length).length = (c :: t).length - (tokF (c :: t)).2.1.length := List.length_drop
          have hc := ih _ _ hd2 (tok_marks hst a2 hq) (by omega) (by omega) hr
          have hcut : (b.take (b.length - (c :: t).length + (tokF (c :: t)).2.1.length)).drop (b.length - (c :: t).length) = (tokF (c :: t)).2.1 := by
            rw [cut_n hd]; exact l2.symm
          generalize htl : (toksF b.length n ((c :: t).drop (tokF (c :: t)).2.1.length)).1 = tl at hc ⊢
          cases tl with
          | nil => exact hc.elim
          | cons q2 tl => exact ⟨a3, by simp only; omega, l1, hcut, a1, hc⟩
        · rw [if_neg hr] at h0; exact absurd h0 hr
      · rw [if_neg hq] at h0; exact absurd h0 hq
theorem gap_loop {b m : List Int} {l : List TK} (hb : b.length ≤ 2000) (hml : m.length = b.length) {x8 : Nat} {fr tu : Nat} (hfr : fr ≤ b.length) {R : Bool} (h8 : x8 ≤ 1000000) (hR : Ev (fun k => whetstonelaw08_LexCovers.l0 k b (l.map to34) m (tu : Int) ((x8 + 1 : Nat) : Int)) R) : ∀ (n e : Nat), fr - e = n → (∀ k : Nat, e ≤ k → k < fr → rd m (k : Int) ≠ 0) →
    Ev (fun k => whetstonelaw08_LexCovers.l1 k b (l.map to34) m (x8 : Int) (e : Int) (fr : Int) (tu : Int)) R := by
  intro n
  induction n with
  | zero =>
    intro e h1 h2
    refine Ev.step (fun k => whetstonelaw08_LexCovers.l1.eq_2 _ _ _ _ _ _ _ _) ?_
    refine ev_neg (by omega) ?_
    rw [wr (by omega) (by omega)]
    exact hR
  | succ n ih =>
    intro e h1 h2
    refine Ev.step (fun k => whetstonelaw08_LexCovers.l1.eq_2 _ _ _ _ _ _ _ _) ?_
    refine ev_pos (by omega) (ev_pos (by omega) (ev_pos (by omega) (ev_neg (h2 e (Nat.le_refl _) (by omega)) ?_)))
    rw [wr (by omega) (by omega)]
    exact ih (e + 1) (by omega) (fun k g1 g2 => h2 k (by omega) g2)
theorem cov_loop {b m : List Int} {l : List TK} (hb : b.length ≤ 2000) (hml : m.length = b.length) (hl : l.length ≤ 10000) (hlast : l.getLast? = some ⟨0, [], b.length⟩) : ∀ (u : List TK) (i e : Nat), l.drop i = u → Cov b m e u →
    Ev (fun k => whetstonelaw08_LexCovers.l0 k b (l.map to34) m (e : Int) (i : Int)) true := by
  intro u
  induction u with
  | nil => intro i e h hc; exact hc.elim
  | cons q t ih =>
    intro i e h hc
    obtain ⟨h1, h2, h3⟩ := drc h
    have e1 : (l.map to34)[i]? = some (to34 q) := by rw [List.getElem?_map, h3]; rfl
    refine Ev.step (fun k => whetstonelaw08_LexCovers.l0.eq_2 _ _ _ _ _ _) ?_
    rw [List.length_map, rd34_at e1]
    refine ev_pos (by omega) (ev_pos (by omega) ?_)
    have fr : (to34 q).f2.f0 = (q.fr : Int) := rfl
    have tt : (to34 q).f2.f1 = ((q.fr + q.txt.length : Nat) : Int) := rfl
    have tx : (to34 q).f1 = strOfNums q.txt := rfl
    rw [fr, tt, tx]
    rw [wr (n := (l.length : Int) - 1) (by omega) (by omega), Int.toNat_natCast, Int.toNat_natCast]
    cases t with
    | nil =>
      obtain ⟨rfl, he, hg⟩ := hc
      have hi : i + 1 = l.length := by have := drn h2; omega
      refine ev_neg (by simp only; omega) (ev_neg (by simp) (ev_neg (by simp) ?_))
      refine ev_pos (by omega) (ev_pos (by simp) (ev_pos (by simp) ?_))
      refine ev_pos (by simp) ?_
      refine Ev.step (fun k => whetstonelaw08_LexCovers.j2.eq_2 _ _ _ _ _ _ _ _ _) ?_
      refine ev_neg ?_ ?_
      · have : ((i : Int) == (l.length : Int) - 1) = true := by rw [beq_iff_eq]; omega
        rw [this]; simp
      refine gap_loop hb hml (Nat.le_refl _) (by omega) ?_ _ e rfl hg
      refine Ev.step (fun k => whetstonelaw08_LexCovers.l0.eq_2 _ _ _ _ _ _) ?_
      rw [List.length_map]
      refine ev_neg (by omega) (ev_pos (by simp) (ev_pos (by omega) ?_))
      rw [wr (by omega) (by omega)]
      refine ev_pos (by omega) (ev_pos (by omega) (ev_ret ?_))
      have e2 : ((l.length : Int) - 1) = ((i : Nat) : Int) := by omega
      rw [e2, rd34_at e1]; rfl
    | cons q2 t =>
      obtain ⟨c1, c2, c3, c4, c5, c6⟩ := hc
      obtain ⟨g1, g2, g3⟩ := drc h2
      refine ev_neg (by omega) (ev_neg (by omega) (ev_neg (by omega) ?_))
      refine ev_pos (by omega) (ev_pos (by omega) (ev_pos (by omega) ?_))
      refine ev_pos (by rw [c4]) ?_
      refine Ev.step (fun k => whetstonelaw08_LexCovers.j2.eq_2 _ _ _ _ _ _ _ _ _) ?_
      refine ev_neg ?_ ?_
      · have x1 : ((q.fr : Int) == ((q.fr + q.txt.length : Nat) : Int)) = false := by rw [beq_eq_false_iff_ne]; omega
        have x2 : ((i : Int) == (l.length : Int) - 1) = false := by rw [beq_eq_false_iff_ne]; omega
        rw [x1, x2]; simp
      exact gap_loop hb hml (by omega) (by omega) (ih (i + 1) _ h2 c6) _ e rfl c5
theorem cov_last {b m : List Int} : ∀ (u : List TK) (e : Nat), Cov b m e u → u.getLast? = some ⟨0, [], b.length⟩
  | [], _, h => h.elim
  | [q], _, h => by obtain ⟨rfl, _⟩ := h; rfl
  | q :: q2 :: t, _, h => by
    have := cov_last (q2 :: t) _ h.2.2.2.2.2
    rw [List.getLast?_cons_cons]; exact this
theorem toks_len {L : Nat} : ∀ (n : Nat) (s : List Int), (toksF L n s).1.length ≤ n
  | 0, s => by simp [toksF]
  | n + 1, s => by
    unfold toksF
    split
    · simp
    · split
      · split
        · simp only [List.length_cons]
          exact Nat.succ_le_succ (toks_len n _)
        · simp
      · simp
theorem toks_at {L : Nat} : ∀ (n : Nat) (s : List Int), s.length ≤ L → (toksF L n s).2.2 ≠ 0 → 0 ≤ (toksF L n s).2.1 ∧ (toksF L n s).2.1 < L
  | 0, s, _, h => by simp [toksF] at h
  | n + 1, s, hs, h => by
    have hsl : (skipF false s).length ≤ s.length := (skip_suf s false).length_le
    unfold toksF at h ⊢
    split at h
    · simp at h
    · rename_i c t hk
      rw [hk] at hsl
      simp only [List.length_cons] at hsl
      split at h
      · rename_i hq
        rw [if_pos hq]
        split at h
        · simp at h
        · rename_i hr
          rw [if_neg hr]
          exact toks_at n _ (by rw [List.length_drop, List.length_cons]; omega) hr
      · rename_i hq
        rw [if_neg hq]
        simp only [List.length_cons]
        omega
theorem byteL_of {l : List Int} (h : ∀ x ∈ l, (Lit.int .u8 x).wf = true) : byteL l := by
  intro x hx
  have := h x hx
  have e1 : IntKind.u8.min = 0 := by decide
  have e2 : IntKind.u8.max = 255 := by decide
  simp [Lit.wf, e1, e2] at this
  omega
/-- Tokens stand one behind the other, with nothing but blanks and remarks between; each has the bytes that it tells. -/
theorem LexCovers : whetstonelaw08_LexCovers.Pure := by
  intro b h1 h2 h3
  have hB := byteL_of h3
  refine ev_ex (g := fun k => whetstonelaw08_LexCovers.f k b) ?_
  unfold whetstonelaw08_LexCovers.f
  refine ev_bind parted_ev (ev_pos rfl ?_)
  refine Ev.step (fun k => whetstonelaw08_LexCovers.j0.eq_2 _ _ _) ?_
  refine ev_ite (fun g => ev_bind parted_ev (ev_ret rfl)) (fun g => ?_)
  have hb : b.length ≤ 2000 := by simp at g; omega
  refine ev_bind (tokens_eq (by omega) hB) ?_
  have hlen := toks_len (L := b.length) (b.length + 1) b
  have hat := toks_at (L := b.length) (b.length + 1) b (Nat.le_refl _)
  have hcov := toks_cov (b := b) (m := marksF false b) (marks_len b false) (b.length + 1) b 0 rfl rfl (by omega) (by omega)
  generalize toksF b.length (b.length + 1) b = q at hlen hat hcov
  by_cases hq : q.2.2 = 0
  · have hc := hcov hq
    simp only [toksR, hq, if_true, List.nil_append]
    refine ev_bind (marks_eq (by omega)) ?_
    exact cov_loop hb (marks_len b false) (by omega) (cov_last _ _ hc) _ 0 0 rfl hc
  · obtain ⟨p1, p2⟩ := hat hq
    simp only [toksR, hq, if_false]
    exact ev_pos p1 (ev_pos p2 (ev_ret rfl))

end Go.Proofs.Ytkngkfjjgkfcnaa.Pure
