/-
The plain law of LexBlanks: Blanks and remarks between two texts change no token but its place. No further condition.
-/
import Derived.Test.YtkngkfjjgkfcnaaQLexBlanksx7
set_option maxRecDepth 100000
set_option linter.unusedVariables false
set_option linter.unusedSimpArgs false
namespace Go.Proofs.Ytkngkfjjgkfcnaa.Pure
open Go.RowKit Go.Proofs.Ytkngkfjjgkfcnaa.QLexBlanks Go.Proofs.YtkngkfjjgkfcnaaW.PrintWords Go.Proofs.YtkngkfjjgkfcnaaW.PrintLast

/-! ### plain lemmas: rounds -/
section Base
variable {α β : Type}
theorem ev_pos {c : Prop} [Decidable c] {g f : Nat → Option α} {r : α} (hc : c) (h : Ev g r) : Ev (fun k => if c then g k else f k) r := by
  simpa only [if_pos hc] using h
theorem ev_neg {c : Prop} [Decidable c] {g f : Nat → Option α} {r : α} (hc : ¬ c) (h : Ev f r) : Ev (fun k => if c then g k else f k) r := by
  simpa only [if_neg hc] using h
theorem ev_ite {c : Prop} [Decidable c] {g f : Nat → Option α} {r : α} (h1 : c → Ev g r) (h2 : ¬ c → Ev f r) : Ev (fun k => if c then g k else f k) r := by
  by_cases hc : c
  · exact ev_pos hc (h1 hc)
  · exact ev_neg hc (h2 hc)
theorem ev_bind {g : Nat → Option α} {f : Nat → α → Option β} {a : α} {r : β} (h : Ev g a) (k : Ev (fun n => f n a) r) : Ev (fun n => (g n).bind (f n)) r := Ev.bind h k
theorem ev_some {o : Option α} {f : Nat → α → Option β} {a : α} {r : β} (h : o = some a) (k : Ev (fun n => f n a) r) : Ev (fun n => o.bind (f n)) r := by
  subst h; exact k
theorem ev_ret {a r : α} (h : a = r) : Ev (fun _ => some a) r := h ▸ Ev.now a
theorem ev_cast {g : Nat → Option α} {a r : α} (h : Ev g a) (e : a = r) : Ev g r := e ▸ h
theorem ev_ex {g : Nat → Option α} {r : α} (h : Ev g r) : ∃ k, g k = some r := h.rounds
theorem wr {n : Int} (h : -9223372036854775808 ≤ n) (h' : n ≤ 9223372036854775807) : wrap64 n = n := by unfold wrap64; omega
theorem drc {b : List α} {i : Nat} {c : α} {t : List α} (h : b.drop i = c :: t) : i < b.length ∧ b.drop (i + 1) = t ∧ b[i]? = some c := by
  have h1 : i < b.length := by
    rcases Nat.lt_or_ge i b.length with h1 | h1
    · exact h1
    · rw [List.drop_eq_nil_of_le h1] at h; cases h
  rw [List.drop_eq_getElem_cons h1] at h
  injection h with h2 h3
  exact ⟨h1, h3, by rw [List.getElem?_eq_getElem h1, h2]⟩
theorem drn {b : List α} {i : Nat} (h : b.drop i = []) : b.length ≤ i := by
  rcases Nat.lt_or_ge i b.length with h1 | h1
  · rw [List.drop_eq_getElem_cons h1] at h; cases h
  · exact h1
theorem rd_at {b : List Int} {i : Nat} {c : Int} (h : b[i]? = some c) : rd b (i : Int) = c := by
  unfold rd; rw [Int.toNat_natCast, List.getD_eq_getElem?_getD, h]; rfl
end Base

/-! ### lex: what the program's functions are, over lists -/
def smallB (c : Int) : Bool := decide (97 ≤ c ∧ c ≤ 122)
def digitB (c : Int) : Bool := decide (48 ≤ c ∧ c ≤ 57)
def goesB (c : Int) : Bool := smallB c || digitB c || c == 95
def blankB (c : Int) : Bool := c == 32 || c == 9 || c == 10 || c == 13
def slashB : List Int → Bool
  | [] => false
  | c :: _ => c == 47
def skipF : Bool → List Int → List Int
  | _, [] => []
  | r, c :: t => if (r && c != 10 || (c == 47 && slashB t)) || blankB c then skipF (r && c != 10 || (c == 47 && slashB t)) t else c :: t
theorem small_eq (c : Int) : lex_small.f c = some (smallB c) := by
  unfold lex_small.f smallB
  split <;> simp <;> omega
theorem digit_eq (c : Int) : lex_digit.f c = some (digitB c) := by
  unfold lex_digit.f digitB
  split <;> simp <;> omega
theorem remark_eq {b : List Int} (hb : b.length ≤ 1000000000000) {i : Nat} {c : Int} {t : List Int} (h : b.drop i = c :: t) : lex_remark.f b i = some (c == 47 && slashB t) := by
  obtain ⟨h1, h2, h3⟩ := drc h
  unfold lex_remark.f
  rw [if_pos (by omega), if_pos (by omega), rd_at h3, wr (by omega) (by omega)]
  by_cases hc : c = 47
  · subst hc
    rw [if_pos rfl]
    cases t with
    | nil => have := drn h2; rw [if_neg (by omega)]; rfl
    | cons d t =>
      obtain ⟨h4, h5, h6⟩ := drc h2
      rw [if_pos (by omega), if_pos (by omega), show (i : Int) + 1 = ((i + 1 : Nat) : Int) from rfl, rd_at h6]
      rfl
  · rw [if_neg hc]; simp [hc]
theorem skip_both {b : List Int} (hb : b.length ≤ 1000000000000) : ∀ (s : List Int) (i : Nat), b.drop i = s → i ≤ b.length →
    Ev (fun k => lex_skip.l0 k b i) ((b.length : Int) - (skipF false s).length) ∧ Ev (fun k => lex_skip.l1 k b i) ((b.length : Int) - (skipF true s).length) := by
  intro s
  induction s with
  | nil =>
    intro i h hi
    have hl := drn h
    have h0 : Ev (fun k => lex_skip.l0 k b i) ((b.length : Int) - (skipF false []).length) := by
      refine Ev.step (fun k => lex_skip.l0.eq_2 _ _ _) ?_
      refine ev_neg (by omega) (ev_ret ?_)
      simp [skipF]; omega
    refine ⟨h0, ?_⟩
    refine Ev.step (fun k => lex_skip.l1.eq_2 _ _ _) ?_
    exact ev_neg (by omega) h0
  | cons c t ih =>
    intro i h hi
    obtain ⟨h1, h2, h3⟩ := drc h
    obtain ⟨ih0, ih1⟩ := ih (i + 1) h2 (by omega)
    have hw : wrap64 ((i : Int) + 1) = ((i + 1 : Nat) : Int) := by rw [wr (by omega) (by omega)]; rfl
    have hb0 : ∀ q : Bool, q = blankB c → Ev (fun k => lex_skip.j1 k b i q) ((b.length : Int) - (skipF false (c :: t)).length) → True := fun _ _ _ => trivial
    have hbl : blankB c = true → Ev (fun k => lex_skip.j1 k b i true) ((b.length : Int) - (skipF false (c :: t)).length) := by
      intro hbl
      refine Ev.step (fun k => lex_skip.j1.eq_2 _ _ _ _) ?_
      refine ev_pos rfl ?_
      rw [hw]
      have : (c == 47) = false := by
        simp [blankB] at hbl
        simp; omega
      simp only [skipF, hbl, Bool.or_true, if_true, Bool.false_and, Bool.false_or, this]
      exact ih0
    have h0 : Ev (fun k => lex_skip.l0 k b i) ((b.length : Int) - (skipF false (c :: t)).length) := by
      refine Ev.step (fun k => lex_skip.l0.eq_2 _ _ _) ?_
      refine ev_pos (by omega) (ev_pos (by omega) ?_)
      rw [rd_at h3]
      refine ev_ite (fun hc => hbl (by simp [blankB, hc])) (fun n1 => ?_)
      refine ev_ite (fun hc => hbl (by simp [blankB, hc])) (fun n2 => ?_)
      refine ev_ite (fun hc => hbl (by simp [blankB, hc])) (fun n3 => ?_)
      by_cases n4 : c = 13
      · have := hbl (by simp [blankB, n4])
        simpa [n4] using this
      · have e4 : (c == 13) = false := by simpa using n4
        have eb : blankB c = false := by simp [blankB, n1, n2, n3, n4]
        rw [e4]
        refine Ev.step (fun k => lex_skip.j1.eq_2 _ _ _ _) ?_
        refine ev_neg (by simp) ?_
        refine ev_some (remark_eq hb h) ?_
        refine ev_ite (fun hr => ?_) (fun hr => ?_)
        · have hc : c = 47 := by simp at hr; exact hr.1
          refine Ev.step (fun k => lex_skip.l1.eq_2 _ _ _) ?_
          refine ev_pos (by omega) (ev_pos (by omega) ?_)
          rw [rd_at h3]
          refine ev_neg n3 ?_
          rw [hw]
          simp only [skipF, hr, eb, Bool.false_and, Bool.false_or, Bool.or_false, if_true]
          exact ih1
        · have hr' : (c == 47 && slashB t) = false := by simpa using hr
          refine ev_ret ?_
          simp only [skipF, hr', eb, Bool.false_and, Bool.false_or, Bool.or_false]
          have : (b.drop i).length = b.length - i := List.length_drop
          rw [h] at this
          simp at this ⊢
          omega
    refine ⟨h0, ?_⟩
    refine Ev.step (fun k => lex_skip.l1.eq_2 _ _ _) ?_
    refine ev_pos (by omega) (ev_pos (by omega) ?_)
    rw [rd_at h3]
    refine ev_ite (fun hc => ?_) (fun hc => ?_)
    · refine ev_cast h0 ?_
      simp [skipF, hc]
    · rw [hw]
      have e : (c != 10) = true := by simpa using hc
      simp only [skipF, e, Bool.true_and, Bool.true_or, if_true]
      exact ih1
theorem skip_eq {b : List Int} (hb : b.length ≤ 1000000000000) {s : List Int} {i : Nat} (h : b.drop i = s) (hi : i ≤ b.length) :
    Ev (fun k => lex_skip.f k b i) ((b.length : Int) - (skipF false s).length) := by
  unfold lex_skip.f
  exact (skip_both hb s i h hi).1
/-! words -/
def wordsL : List (List UInt8) := [[102, 110], [112, 117, 98], [113, 117, 97, 108], [108, 101, 116], [105, 110], [105, 102], [116, 104, 101, 110], [101, 108, 115, 101], [97, 115, 115, 101, 114, 116], [116, 114, 117, 101], [102, 97, 108, 115, 101], [105, 110, 116], [98, 111, 111, 108], [97, 114, 114], [103, 101, 116], [115, 101, 116], [108, 101, 110], [102, 105, 108, 108], [110, 111, 116], [97, 110, 100], [111, 114], [118]]
def wordB (s : ByteArray) : Bool := decide (s.toList ∈ wordsL)
theorem word_eq (s : ByteArray) : lex_IsWord.f s = some (wordB s) := by
  unfold lex_IsWord.f wordB
  generalize s.toList = l
  have hite : ∀ (w : List UInt8) (ws : List (List UInt8)) (o : Option Bool), o = some (decide (l ∈ ws)) → (if l = w then some true else o) = some (decide (l ∈ w :: ws)) := by
    intro w ws o ho
    by_cases h : l = w
    · rw [if_pos h]; simp [h]
    · rw [if_neg h, ho]; simp [h]
  unfold wordsL
  repeat (refine hite _ _ _ ?_)
  simp
/-! ### signs -/
def twoB (c d : Int) : Bool := (c == 45 && d == 62) || (c == 60 && d == 61) || (c == 62 && d == 61) || (c == 33 && d == 61)
def oneL : List Int := [40, 41, 123, 125, 44, 58, 61, 59, 43, 45, 42, 47, 37, 60, 62]
def twoS : Int → List Int → Bool
  | _, [] => false
  | c, d :: _ => twoB c d
def signF : List Int → Nat
  | [] => 0
  | c :: t => if twoS c t then 2 else if oneL.contains c then 1 else 0
def byteL (b : List Int) : Prop := ∀ x ∈ b, 0 ≤ x ∧ x ≤ 255
theorem toList_mk (l : List UInt8) : (⟨l.toArray⟩ : ByteArray).toList = l := by
  rw [ByteArray.toList_eq]
theorem str_toList (l : List Int) : (strOfNums l).toList = l.map fun n => UInt8.ofNat n.toNat := by
  unfold strOfNums; exact toList_mk _
theorem u8_eq {c : Int} {m : Nat} (h : 0 ≤ c ∧ c ≤ 255) (hm : m < 256) : (UInt8.ofNat c.toNat = UInt8.ofNat m) ↔ c = (m : Int) := by
  constructor
  · intro e
    have := congrArg UInt8.toNat e
    simp at this
    omega
  · rintro rfl; simp
theorem cut_two {b : List Int} {i : Nat} {c d : Int} {t : List Int} (h : b.drop i = c :: d :: t) : (b.take (i + 2)).drop i = [c, d] := by
  rw [List.drop_take, h, show i + 2 - i = 2 by omega]; rfl
theorem cut_n {b s : List Int} {i : Nat} (h : b.drop i = s) (n : Nat) : (b.take (i + n)).drop i = s.take n := by
  rw [List.drop_take, h, show i + n - i = n by omega]
theorem sign_j {b : List Int} (hb : b.length ≤ 1000000000000) {i : Nat} {c : Int} {t : List Int} (h : b.drop i = c :: t) :
    Ev (fun k => lex_sign.j0 k b i) (if oneL.contains c then 1 else 0) := by
  obtain ⟨h1, h2, h3⟩ := drc h
  refine Ev.step (fun k => lex_sign.j0.eq_2 _ _ _) ?_
  refine ev_pos (by omega) (ev_pos (by omega) ?_)
  rw [rd_at h3]
  have hite : ∀ (w : Int) (ws : List Int) (o : Nat → Option Int), Ev o (if ws.contains c then 1 else 0) → Ev (fun k => if c = w then some 1 else o k) (if (w :: ws).contains c then 1 else 0) := by
    intro w ws o ho
    refine ev_ite (fun e => ev_ret (by simp [e])) (fun e => ev_cast ho ?_)
    simp [List.contains_cons, e]
  unfold oneL
  repeat (refine hite _ _ _ ?_)
  exact ev_ret (by simp)
theorem sign_eq {b : List Int} (hb : b.length ≤ 1000000000000) (hB : byteL b) {i : Nat} {c : Int} {t : List Int} (h : b.drop i = c :: t) :
    Ev (fun k => lex_sign.f k b i) (signF (c :: t)) := by
  obtain ⟨h1, h2, h3⟩ := drc h
  have hc := hB c (by have := List.mem_of_getElem? h3; exact this)
  have hj := sign_j hb h
  unfold lex_sign.f
  rw [wr (by omega) (by omega), wr (by omega) (by omega)]
  cases t with
  | nil =>
    have := drn h2
    refine ev_neg (by omega) (ev_cast hj ?_)
    simp only [signF, twoS]; split <;> simp_all
  | cons d t =>
    obtain ⟨h4, h5, h6⟩ := drc h2
    have hd := hB d (by have := List.mem_of_getElem? h6; exact this)
    refine ev_pos (by omega) (ev_pos (by omega) (ev_pos (by omega) (ev_pos (by omega) ?_)))
    have e0 : ((i : Int) + 2).toNat = i + 2 := by omega
    rw [e0, Int.toNat_natCast, cut_two h, str_toList]
    have u1 := fun m hm => u8_eq (m := m) hc hm
    have u2 := fun m hm => u8_eq (m := m) hd hm
    have key : ∀ m n : Nat, m < 256 → n < 256 → (([c, d].map fun n => UInt8.ofNat n.toNat) = [UInt8.ofNat m, UInt8.ofNat n] ↔ (c = (m : Int) ∧ d = (n : Int))) := by
      intro m n hm hn
      simp only [List.map_cons, List.map_nil, List.cons.injEq, and_true]
      rw [u1 m hm, u2 n hn]
    refine ev_ite (fun e => ev_ret ?_) (fun n1 => ?_)
    · have := (key 45 62 (by omega) (by omega)).1 e
      obtain ⟨rfl, rfl⟩ := this
      simp [signF, twoS, twoB]
    refine ev_ite (fun e => ev_ret ?_) (fun n2 => ?_)
    · have := (key 60 61 (by omega) (by omega)).1 e
      obtain ⟨rfl, rfl⟩ := this
      simp [signF, twoS, twoB]
    refine ev_ite (fun e => ev_ret ?_) (fun n3 => ?_)
    · have := (key 62 61 (by omega) (by omega)).1 e
      obtain ⟨rfl, rfl⟩ := this
      simp [signF, twoS, twoB]
    refine ev_ite (fun e => ev_ret ?_) (fun n4 => ?_)
    · have := (key 33 61 (by omega) (by omega)).1 e
      obtain ⟨rfl, rfl⟩ := this
      simp [signF, twoS, twoB]
    have m1 : ¬ (c = 45 ∧ d = 62) := fun e => n1 ((key 45 62 (by omega) (by omega)).2 e)
    have m2 : ¬ (c = 60 ∧ d = 61) := fun e => n2 ((key 60 61 (by omega) (by omega)).2 e)
    have m3 : ¬ (c = 62 ∧ d = 61) := fun e => n3 ((key 62 61 (by omega) (by omega)).2 e)
    have m4 : ¬ (c = 33 ∧ d = 61) := fun e => n4 ((key 33 61 (by omega) (by omega)).2 e)
    refine ev_cast hj ?_
    have e2 : twoB c d = false := by simp [twoB]; omega
    simp only [signF, twoS, e2]; split <;> simp_all
/-! ### a token -/
structure TK where
  kind : Int
  txt : List Int
  fr : Nat
/-- The token that begins a text: its kind, its bytes; or the error. -/
def tokF (s : List Int) : Int × List Int × Int :=
  match s with
  | [] => (0, [], 20)
  | c :: _ =>
    if smallB c then
      (if (s.takeWhile goesB).length > 24 then (0, [], 3) else (if wordB (strOfNums (s.takeWhile goesB)) then 2 else 1, s.takeWhile goesB, 0))
    else if digitB c then
      (if (s.takeWhile digitB).length > 40 then (0, [], 3) else (3, s.takeWhile digitB, 0))
    else if signF s = 0 then (0, [], 20) else (4, s.take (signF s), 0)
theorem tokF_name {c : Int} {t : List Int} (h : smallB c = true) : tokF (c :: t) = (if ((c :: t).takeWhile goesB).length > 24 then (0, [], 3) else (if wordB (strOfNums ((c :: t).takeWhile goesB)) then 2 else 1, (c :: t).takeWhile goesB, 0)) := by
  simp only [tokF, h, if_true]
theorem tokF_dig {c : Int} {t : List Int} (h : smallB c = false) (h2 : digitB c = true) : tokF (c :: t) = (if ((c :: t).takeWhile digitB).length > 40 then (0, [], 3) else (3, (c :: t).takeWhile digitB, 0)) := by
  unfold tokF
  simp only [h, h2, if_true]
  rfl
theorem tokF_sign {c : Int} {t : List Int} (h : smallB c = false) (h2 : digitB c = false) : tokF (c :: t) = (if signF (c :: t) = 0 then (0, [], 20) else (4, (c :: t).take (signF (c :: t)), 0)) := by
  unfold tokF
  simp only [h, h2]
  rfl
theorem sign_cons (c : Int) (t : List Int) : signF (c :: t) = if twoS c t = true then 2 else if oneL.contains c = true then 1 else 0 := rfl
theorem sign_le (c : Int) (t : List Int) : signF (c :: t) ≤ (c :: t).length ∧ signF (c :: t) ≤ 2 := by
  unfold signF
  cases t with
  | nil => simp [twoS]; split <;> omega
  | cons d t => simp only [List.length_cons]; split <;> (try split) <;> omega
/-- What 'token' tells of it. -/
def tokR (i : Nat) (q : Int × List Int × Int) : Int × ByteArray × Int × Int × Int :=
  if q.2.2 = 0 then (q.1, strOfNums q.2.1, (i : Int), ((i + q.2.1.length : Nat) : Int), 0) else (0, (⟨#[]⟩ : ByteArray), 0, 0, q.2.2)
theorem take_takeWhile {α : Type} (p : α → Bool) : ∀ l : List α, l.take (l.takeWhile p).length = l.takeWhile p
  | [] => rfl
  | c :: t => by
    by_cases h : p c = true
    · rw [List.takeWhile_cons_of_pos h]; simp only [List.length_cons, List.take_succ_cons, take_takeWhile p t]
    · rw [List.takeWhile_cons_of_neg h]; rfl
theorem takeWhile_le {α : Type} (p : α → Bool) (l : List α) : (l.takeWhile p).length ≤ l.length := (List.takeWhile_prefix p).length_le
theorem name_loop {b : List Int} (hb : b.length ≤ 1000000000000) {i : Nat} {r : Int × ByteArray × Int × Int × Int} : ∀ (u : List Int) (j : Nat), b.drop j = u →
    Ev (fun k => lex_token.j1 k b i ((j + (u.takeWhile goesB).length : Nat) : Int)) r → Ev (fun k => lex_token.l0 k b i (j : Int)) r := by
  intro u
  induction u with
  | nil =>
    intro j h he
    have := drn h
    refine Ev.step (fun k => lex_token.l0.eq_2 _ _ _ _) ?_
    exact ev_neg (by omega) he
  | cons c t ih =>
    intro j h he
    obtain ⟨h1, h2, h3⟩ := drc h
    have hw : wrap64 ((j : Int) + 1) = ((j + 1 : Nat) : Int) := by rw [wr (by omega) (by omega)]; rfl
    have hgo : goesB c = true → Ev (fun k => lex_token.l0 k b i ((j + 1 : Nat) : Int)) r := by
      intro hg
      refine ih (j + 1) h2 ?_
      rw [List.takeWhile_cons_of_pos hg, List.length_cons] at he
      rw [show j + 1 + (t.takeWhile goesB).length = j + ((t.takeWhile goesB).length + 1) by omega]
      exact he
    refine Ev.step (fun k => lex_token.l0.eq_2 _ _ _ _) ?_
    refine ev_pos (by omega) (ev_pos (by omega) ?_)
    rw [rd_at h3, hw]
    refine ev_some (small_eq c) ?_
    refine ev_ite (fun g => hgo (by simp [goesB, g])) (fun n1 => ?_)
    refine ev_some (digit_eq c) ?_
    refine ev_ite (fun g => hgo (by simp [goesB, g])) (fun n2 => ?_)
    refine ev_ite (fun g => hgo (by simp [goesB, g])) (fun n3 => ?_)
    have hn : goesB c = false := by simp [goesB, n3]; simp at n1 n2; exact ⟨n1, n2⟩
    rw [List.takeWhile_cons_of_neg (by simp [hn])] at he
    exact he
def digE (b : List Int) (i e : Int) : Option (Int × ByteArray × Int × Int × Int) := (if (wrap64 (e - i)) > 40 then (some (0, (⟨#[]⟩ : ByteArray), 0, 0, 3)) else (if 0 ≤ i then (if i ≤ e then (if e ≤ (b.length : Int) then (some (3, strOfNums ((b.take (e : Int).toNat).drop (i : Int).toNat), i, e, 0)) else (none)) else (none)) else (none)))
theorem dig_loop {b : List Int} (hb : b.length ≤ 1000000000000) {i : Nat} {r : Int × ByteArray × Int × Int × Int} : ∀ (u : List Int) (j : Nat), b.drop j = u →
    digE b i ((j + (u.takeWhile digitB).length : Nat) : Int) = some r → Ev (fun k => lex_token.l1 k b i (j : Int)) r := by
  intro u
  induction u with
  | nil =>
    intro j h he
    have := drn h
    refine Ev.step (fun k => lex_token.l1.eq_2 _ _ _ _) ?_
    refine ev_neg (by omega) ?_
    exact ⟨0, fun _ _ => he⟩
  | cons c t ih =>
    intro j h he
    obtain ⟨h1, h2, h3⟩ := drc h
    have hw : wrap64 ((j : Int) + 1) = ((j + 1 : Nat) : Int) := by rw [wr (by omega) (by omega)]; rfl
    refine Ev.step (fun k => lex_token.l1.eq_2 _ _ _ _) ?_
    refine ev_pos (by omega) (ev_pos (by omega) ?_)
    rw [rd_at h3, hw]
    refine ev_some (digit_eq c) ?_
    refine ev_ite (fun hg => ?_) (fun n1 => ?_)
    · refine ih (j + 1) h2 ?_
      rw [List.takeWhile_cons_of_pos hg, List.length_cons] at he
      rw [show j + 1 + (t.takeWhile digitB).length = j + ((t.takeWhile digitB).length + 1) by omega]
      exact he
    · rw [List.takeWhile_cons_of_neg (by simpa using n1)] at he
      exact ⟨0, fun _ _ => he⟩
theorem token_eq {b : List Int} (hb : b.length ≤ 1000000000000) (hB : byteL b) {i : Nat} {c : Int} {t : List Int} (h : b.drop i = c :: t) :
    Ev (fun k => lex_token.f k b i) (tokR i (tokF (c :: t))) := by
  obtain ⟨h1, h2, h3⟩ := drc h
  have hlen : (c :: t).length = b.length - i := by rw [← h, List.length_drop]
  unfold lex_token.f
  refine ev_pos (by omega) (ev_pos (by omega) ?_)
  rw [rd_at h3]
  refine ev_some (small_eq c) ?_
  refine ev_ite (fun g => ?_) (fun n1 => ?_)
  · refine name_loop hb (c :: t) i h ?_
    have hle := takeWhile_le goesB (c :: t)
    refine Ev.step (fun k => lex_token.j1.eq_2 _ _ _ _) ?_
    refine ev_pos (by omega) (ev_pos (by omega) (ev_pos (by omega) ?_))
    rw [Int.toNat_natCast, Int.toNat_natCast, cut_n h, take_takeWhile, wr (by omega) (by omega)]
    refine ev_some (word_eq _) ?_
    have e : ((i + ((c :: t).takeWhile goesB).length : Nat) : Int) - (i : Int) = (((c :: t).takeWhile goesB).length : Int) := by omega
    rw [e]
    rw [tokF_name g]
    refine ev_ite (fun w => ?_) (fun w => ?_)
    · refine ev_ite (fun l => ev_ret ?_) (fun l => ev_ret ?_)
      · rw [if_pos (by omega)]; rfl
      · rw [if_neg (by omega), if_pos w]; rfl
    · refine ev_ite (fun l => ev_ret ?_) (fun l => ev_ret ?_)
      · rw [if_pos (by omega)]; rfl
      · rw [if_neg (by omega), if_neg w]; rfl
  have n1' : smallB c = false := by simpa using n1
  refine ev_some (digit_eq c) ?_
  refine ev_ite (fun g => ?_) (fun n2 => ?_)
  · refine dig_loop hb (c :: t) i h ?_
    have hle := takeWhile_le digitB (c :: t)
    unfold digE
    have e : ((i + ((c :: t).takeWhile digitB).length : Nat) : Int) - (i : Int) = (((c :: t).takeWhile digitB).length : Int) := by omega
    rw [Int.toNat_natCast, Int.toNat_natCast, cut_n h, take_takeWhile, wr (by omega) (by omega), e]
    by_cases l : ((c :: t).takeWhile digitB).length > 40
    · rw [if_pos (by omega), tokF_dig n1' g, if_pos l]; rfl
    · rw [if_neg (by omega), if_pos (by omega), if_pos (by omega), if_pos (by omega), tokF_dig n1' g, if_neg l]; rfl
  have n2' : digitB c = false := by simpa using n2
  refine ev_bind (sign_eq hb hB h) ?_
  have hs := (sign_le c t).1
  rw [wr (by omega) (by omega)]
  refine ev_ite (fun l => ev_ret ?_) (fun l => ?_)
  · rw [tokF_sign n1' n2', if_pos (by omega)]; rfl
  · have l' : ¬ signF (c :: t) = 0 := by omega
    refine ev_pos (by omega) (ev_pos (by omega) (ev_ret ?_))
    have e : ((i : Int) + (signF (c :: t) : Int)).toNat = i + signF (c :: t) := by omega
    rw [e, Int.toNat_natCast, cut_n h]
    have e2 : ((c :: t).take (signF (c :: t))).length = signF (c :: t) := by rw [List.length_take]; omega
    rw [tokF_sign n1' n2', if_neg l']
    unfold tokR
    rw [if_pos rfl]
    simp only [e2]
    rw [show ((i + signF (c :: t) : Nat) : Int) = (i : Int) + (signF (c :: t) : Int) from rfl]
/-! ### all tokens -/
theorem skip_suf : ∀ (s : List Int) (r : Bool), skipF r s <:+ s
  | [], r => by simp [skipF]
  | c :: t, r => by
    unfold skipF
    split
    · exact (skip_suf t _).trans (List.suffix_cons c t)
    · exact List.suffix_refl _
theorem suf_drop {b s : List Int} (h : s <:+ b) : b.drop (b.length - s.length) = s := (List.suffix_iff_eq_drop.1 h).symm
theorem drop_suf {b s : List Int} {i : Nat} (h : b.drop i = s) : s <:+ b := h ▸ List.drop_suffix i b
theorem tok_len {c : Int} {t : List Int} (h : (tokF (c :: t)).2.2 = 0) : 1 ≤ (tokF (c :: t)).2.1.length ∧ (tokF (c :: t)).2.1 = (c :: t).take (tokF (c :: t)).2.1.length ∧ (tokF (c :: t)).2.1.length ≤ (c :: t).length := by
  cases g : smallB c with
  | true =>
    rw [tokF_name g] at h ⊢
    have hg : goesB c = true := by simp [goesB, g]
    split at h
    · simp at h
    · rename_i l
      rw [if_neg l]
      refine ⟨?_, (take_takeWhile _ _).symm, takeWhile_le _ _⟩
      rw [List.takeWhile_cons_of_pos hg]; simp
  | false =>
    cases g2 : digitB c with
    | true =>
      rw [tokF_dig g g2] at h ⊢
      split at h
      · simp at h
      · rename_i l
        rw [if_neg l]
        refine ⟨?_, (take_takeWhile _ _).symm, takeWhile_le _ _⟩
        rw [List.takeWhile_cons_of_pos g2]; simp
    | false =>
      rw [tokF_sign g g2] at h ⊢
      split at h
      · simp at h
      · rename_i l
        rw [if_neg l]
        have hs := (sign_le c t).1
        have e2 : ((c :: t).take (signF (c :: t))).length = signF (c :: t) := by rw [List.length_take]; omega
        simp only [e2]
        exact ⟨by omega, trivial, hs⟩
/-- The tokens of a rest of a text of L bytes, by rounds; behind them where it goes wrong, and how. -/
def toksF (L : Nat) : Nat → List Int → List TK × Int × Int
  | 0, _ => ([], 0, 0)
  | n + 1, s => match skipF false s with
    | [] => ([⟨0, [], L⟩], 0, 0)
    | c :: t =>
      if (tokF (c :: t)).2.2 = 0 then
        (if (toksF L n ((c :: t).drop (tokF (c :: t)).2.1.length)).2.2 = 0 then (⟨(tokF (c :: t)).1, (tokF (c :: t)).2.1, L - (c :: t).length⟩ :: (toksF L n ((c :: t).drop (tokF (c :: t)).2.1.length)).1, 0, 0)
        else ([], (toksF L n ((c :: t).drop (tokF (c :: t)).2.1.length)).2.1, (toksF L n ((c :: t).drop (tokF (c :: t)).2.1.length)).2.2))
      else ([], ((L - (c :: t).length : Nat) : Int), (tokF (c :: t)).2.2)
def to34 (q : TK) : S34 := ⟨q.kind, strOfNums q.txt, ⟨(q.fr : Int), ((q.fr + q.txt.length : Nat) : Int)⟩⟩
def toksR (acc : List S34) (q : List TK × Int × Int) : List S34 × Int × Int := if q.2.2 = 0 then (acc ++ q.1.map to34, 0, 0) else ([], q.2.1, q.2.2)
theorem toks_loop {b : List Int} (hb : b.length ≤ 1000000000) (hB : byteL b) : ∀ (n : Nat) (s : List Int) (acc : List S34), s <:+ b → s.length < n → acc.length + s.length ≤ b.length →
    Ev (fun k => lex_Tokens.l0 k b acc ((b.length : Int) - (skipF false s).length)) (toksR acc (toksF b.length n s)) := by
  intro n
  induction n with
  | zero => intro s acc h1 h2; omega
  | succ n ih =>
    intro s acc h1 h2 h3
    have hss := skip_suf s false
    have hsl := hss.length_le
    have hsb := hss.trans h1
    have hbl := hsb.length_le
    have hd := suf_drop hsb
    refine Ev.step (fun k => lex_Tokens.l0.eq_2 _ _ _ _) ?_
    unfold toksF
    cases hk : skipF false s with
    | nil =>
      refine ev_neg (by simp) (ev_pos (by omega) (ev_ret ?_))
      simp [toksR, to34, strOfNums]
    | cons c t =>
      rw [hk] at hss hsl hsb hbl hd
      refine ev_pos (by simp only [List.length_cons]; omega) ?_
      have e : (b.length : Int) - ((c :: t).length : Nat) = ((b.length - (c :: t).length : Nat) : Int) := by omega
      rw [e]
      refine ev_bind (token_eq (by omega) hB hd) ?_
      simp only
      by_cases h0 : (tokF (c :: t)).2.2 = 0
      · obtain ⟨l1, l2, l3⟩ := tok_len h0
        have hR : tokR (b.length - (c :: t).length) (tokF (c :: t)) = ((tokF (c :: t)).1, strOfNums (tokF (c :: t)).2.1, ((b.length - (c :: t).length : Nat) : Int), ((b.length - (c :: t).length + (tokF (c :: t)).2.1.length : Nat) : Int), 0) := by
          unfold tokR; rw [if_pos h0]
        rw [hR]
        refine ev_pos rfl (ev_pos (by simp only [List.length_cons] at hsl; omega) ?_)
        have hd2 : b.drop (b.length - (c :: t).length + (tokF (c :: t)).2.1.length) = (c :: t).drop (tokF (c :: t)).2.1.length := by
          rw [← List.drop_drop, hd]
        refine ev_bind (skip_eq (by omega) hd2 (by omega)) ?_
        have hsuf : (c :: t).drop (tokF (c :: t)).2.1.length <:+ b := (List.drop_suffix _ _).trans hsb
        have hlen : ((c :: t).drop (tokF (c :: t)).2.1.length).length = (c :: t).length - (tokF (c :: t)).2.1.length := List.length_drop
        refine ev_cast (ih _ _ hsuf (by omega) (by rw [List.length_append]; simp only [List.length_cons, List.length_nil] at *; omega)) ?_
        simp only [h0, if_true]
        by_cases hr : (toksF b.length n ((c :: t).drop (tokF (c :: t)).2.1.length)).2.2 = 0
        · simp [toksR, hr, to34]
        · simp [toksR, hr]
      · have hR : tokR (b.length - (c :: t).length) (tokF (c :: t)) = (0, (⟨#[]⟩ : ByteArray), 0, 0, (tokF (c :: t)).2.2) := by
          unfold tokR; rw [if_neg h0]
        rw [hR]
        refine ev_neg h0 (ev_ret ?_)
        simp [toksR, h0]
theorem tokens_eq {b : List Int} (hb : b.length ≤ 1000000000) (hB : byteL b) : Ev (fun k => lex_Tokens.f k b) (toksR [] (toksF b.length (b.length + 1) b)) := by
  unfold lex_Tokens.f
  refine ev_bind (skip_eq (by omega) (i := 0) rfl (by omega)) ?_
  exact toks_loop hb hB (b.length + 1) b [] (List.suffix_refl _) (by omega) (by simp)
theorem parted_ok : whetstonelaw08_parted.f 100 = some true := by decide +kernel
theorem parted_ev : Ev (fun k => whetstonelaw08_parted.f k) true := Ev.of whetstonelaw08_parted.mono parted_ok

theorem rd34_at {l : List S34} {i : Nat} {c : S34} (h : l[i]? = some c) : rd_T34 l (i : Int) = c := by
  unfold rd_T34; rw [Int.toNat_natCast, List.getD_eq_getElem?_getD, h]; rfl
theorem slash_app (t R : List Int) (hR : slashB R = false) : slashB (t ++ R) = slashB t := by
  cases t with
  | nil => exact hR
  | cons c t => rfl
/-- Behind a text comes a line's end: what is skipped. -/
theorem skip_app (R : List Int) : ∀ (s : List Int) (r : Bool), skipF r (s ++ 10 :: R) = (match skipF r s with | [] => skipF false R | c :: t => (c :: t) ++ 10 :: R)
  | [], r => by
    simp only [List.nil_append, skipF]
    cases r <;> simp [blankB]
  | c :: t, r => by
    simp only [List.cons_append, skipF]
    rw [slash_app t (10 :: R) rfl]
    by_cases h : ((r && c != 10 || (c == 47 && slashB t)) || blankB c) = true
    · rw [if_pos h, if_pos h]
      exact skip_app R t _
    · rw [if_neg h, if_neg h]
theorem takeWhile_app {p : Int → Bool} (hp : p 10 = false) (R : List Int) : ∀ s : List Int, (s ++ 10 :: R).takeWhile p = s.takeWhile p
  | [] => by rw [List.nil_append, List.takeWhile_cons_of_neg (by simp [hp])]; rfl
  | c :: t => by
    rw [List.cons_append]
    by_cases h : p c = true
    · rw [List.takeWhile_cons_of_pos h, List.takeWhile_cons_of_pos h, takeWhile_app hp R t]
    · rw [List.takeWhile_cons_of_neg h, List.takeWhile_cons_of_neg h]
theorem twoS_app (c : Int) (t R : List Int) : twoS c (t ++ 10 :: R) = twoS c t := by
  cases t with
  | nil => simp [twoS, twoB]
  | cons d t => rfl
theorem tok_app (c : Int) (t R : List Int) : tokF ((c :: t) ++ 10 :: R) = tokF (c :: t) := by
  have e1 := takeWhile_app (p := goesB) (by decide) R (c :: t)
  have e2 := takeWhile_app (p := digitB) (by decide) R (c :: t)
  have e3 : signF ((c :: t) ++ 10 :: R) = signF (c :: t) := by
    rw [List.cons_append, sign_cons, sign_cons, twoS_app]
  have e4 : ((c :: t) ++ 10 :: R).take (signF (c :: t)) = (c :: t).take (signF (c :: t)) := List.take_append_of_le_length (sign_le c t).1
  cases g : smallB c with
  | true =>
    rw [List.cons_append] at e1 ⊢
    rw [tokF_name g, tokF_name g, e1]
  | false =>
    cases g2 : digitB c with
    | true =>
      rw [List.cons_append] at e2 ⊢
      rw [tokF_dig g g2, tokF_dig g g2, e2]
    | false =>
      rw [List.cons_append] at e3 e4 ⊢
      rw [tokF_sign g g2, tokF_sign g g2, e3, e4]
/-- How many rounds doesn't matter. -/
theorem toks_fuel (L : Nat) : ∀ (n m : Nat) (s : List Int), s.length < n → s.length < m → toksF L n s = toksF L m s
  | 0, _, s, h, _ => by omega
  | _, 0, s, _, h => by omega
  | n + 1, m + 1, s, h1, h2 => by
    have hsl := (skip_suf s false).length_le
    unfold toksF
    cases hk : skipF false s with
    | nil => rfl
    | cons c t =>
      rw [hk] at hsl
      simp only
      by_cases hq : (tokF (c :: t)).2.2 = 0
      · obtain ⟨l1, _, l3⟩ := tok_len hq
        have hdl : ((c :: t).drop (tokF (c :: t)).2.1.length).length = (c :: t).length - (tokF (c :: t)).2.1.length := List.length_drop
        rw [if_pos hq, if_pos hq, toks_fuel L n m _ (by omega) (by omega)]
      · rw [if_neg hq, if_neg hq]
def movT (d : Nat) (q : TK) : TK := ⟨q.kind, q.txt, q.fr + d⟩
theorem toks_move (L d : Nat) : ∀ (n : Nat) (s : List Int), s.length ≤ L → s.length < n → (toksF L n s).2.2 = 0 → toksF (L + d) n s = ((toksF L n s).1.map (movT d), 0, 0)
  | 0, s, _, h, _ => by omega
  | n + 1, s, hs, hn, h0 => by
    have hsl := (skip_suf s false).length_le
    unfold toksF at h0 ⊢
    cases hk : skipF false s with
    | nil => simp [movT]
    | cons c t =>
      rw [hk] at hsl h0
      simp only at h0 ⊢
      by_cases hq : (tokF (c :: t)).2.2 = 0
      · obtain ⟨l1, _, l3⟩ := tok_len hq
        have hdl : ((c :: t).drop (tokF (c :: t)).2.1.length).length = (c :: t).length - (tokF (c :: t)).2.1.length := List.length_drop
        rw [if_pos hq] at h0 ⊢
        rw [if_pos hq]
        by_cases hr : (toksF L n ((c :: t).drop (tokF (c :: t)).2.1.length)).2.2 = 0
        · have ih := toks_move L d n _ (by omega) (by omega) hr
          rw [if_pos hr, ih]
          simp only [if_true, List.map_cons, movT]
          have e : L + d - (c :: t).length = L - (c :: t).length + d := by omega
          rw [e]
        · rw [if_neg hr] at h0; exact absurd h0 hr
      · rw [if_neg hq] at h0; exact absurd h0 hq
theorem skip_remark (X : List Int) : ∀ s : List Int, (∀ x ∈ s, x ≠ 10) → skipF true (s ++ 10 :: X) = skipF false X
  | [], _ => by simp [skipF, blankB]
  | c :: t, h => by
    have hc : (c != 10) = true := by simpa using h c (by simp)
    simp only [List.cons_append, skipF, hc, Bool.true_and, Bool.true_or, if_true]
    exact skip_remark X t (fun x hx => h x (by simp [hx]))
def midL (m : List Int) : List Int := [10, 9, 32, 47, 47] ++ m ++ [10, 32]
theorem mid_len (m : List Int) : (midL m).length = m.length + 7 := by simp [midL]
theorem skip_mid (m b : List Int) (hm : ∀ x ∈ m, x ≠ 10) : skipF false ([9, 32, 47, 47] ++ m ++ [10, 32] ++ b) = skipF false b := by
  have h1 := skip_remark (32 :: b) m hm
  have e : [9, 32, 47, 47] ++ m ++ [10, 32] ++ b = 9 :: 32 :: 47 :: 47 :: (m ++ 10 :: 32 :: b) := by simp
  rw [e]
  have a1 : skipF false (9 :: 32 :: 47 :: 47 :: (m ++ 10 :: 32 :: b)) = skipF true (47 :: (m ++ 10 :: 32 :: b)) := by simp [skipF, blankB, slashB]
  have a2 : skipF true (47 :: (m ++ 10 :: 32 :: b)) = skipF true (m ++ 10 :: 32 :: b) := by simp [skipF]
  rw [a1, a2, h1]
  simp [skipF, blankB]
/-- The tokens of a text, blanks and a remark, and a text. -/
theorem toks_two {La Lb : Nat} {m b : List Int} (hm : ∀ x ∈ m, x ≠ 10) (hLb : Lb = b.length) : ∀ (n : Nat) (s : List Int) (k : Nat), s.length ≤ La → s.length < n → (s ++ midL m ++ b).length < k → (toksF La n s).2.2 = 0 → (toksF Lb (b.length + 1) b).2.2 = 0 →
    ∃ la, (toksF La n s).1 = la ++ [⟨0, [], La⟩] ∧ toksF (La + (midL m).length + Lb) k (s ++ midL m ++ b) = (la ++ (toksF Lb (b.length + 1) b).1.map (movT (La + (midL m).length)), 0, 0)
  | 0, s, _, _, h, _, _, _ => by omega
  | n + 1, s, 0, _, _, h, _, _ => by omega
  | n + 1, s, k + 1, hs, hn, hk, h0, hb => by
    have hsl := (skip_suf s false).length_le
    have hT : s ++ midL m ++ b = s ++ 10 :: ([9, 32, 47, 47] ++ m ++ [10, 32] ++ b) := by simp [midL]
    have hsk := skip_app ([9, 32, 47, 47] ++ m ++ [10, 32] ++ b) s false
    rw [← hT, skip_mid m b hm] at hsk
    have hml := mid_len m
    have hLen : (s ++ midL m ++ b).length = s.length + (midL m).length + b.length := by simp; omega
    cases hks : skipF false s with
    | nil =>
      rw [hks] at hsk
      simp only at hsk
      refine ⟨[], by unfold toksF; rw [hks]; rfl, ?_⟩
      have h1 : toksF (La + (midL m).length + Lb) (k + 1) (s ++ midL m ++ b) = toksF (La + (midL m).length + Lb) (k + 1) b := by
        rw [toksF.eq_2, toksF.eq_2, hsk]
      rw [h1, List.nil_append]
      have h2 := toks_move Lb (La + (midL m).length) (b.length + 1) b (by omega) (by omega) hb
      rw [toks_fuel _ (k + 1) (b.length + 1) b (by omega) (by omega), show La + (midL m).length + Lb = Lb + (La + (midL m).length) by omega]
      exact h2
    | cons c t =>
      rw [hks] at hsk hsl
      simp only at hsk
      have ht := tok_app c t ([9, 32, 47, 47] ++ m ++ [10, 32] ++ b)
      have happ : (c :: t) ++ 10 :: ([9, 32, 47, 47] ++ m ++ [10, 32] ++ b) = (c :: t) ++ midL m ++ b := by simp [midL]
      rw [happ] at hsk ht
      have h0' := h0
      unfold toksF at h0'
      rw [hks] at h0'
      simp only at h0'
      have hq : (tokF (c :: t)).2.2 = 0 := by
        by_cases hq : (tokF (c :: t)).2.2 = 0
        · exact hq
        · rw [if_neg hq] at h0'; exact h0'
      rw [if_pos hq] at h0'
      have hr : (toksF La n ((c :: t).drop (tokF (c :: t)).2.1.length)).2.2 = 0 := by
        by_cases hr : (toksF La n ((c :: t).drop (tokF (c :: t)).2.1.length)).2.2 = 0
        · exact hr
        · rw [if_neg hr] at h0'; exact h0'
      obtain ⟨l1, _, l3⟩ := tok_len hq
      have hdl : ((c :: t).drop (tokF (c :: t)).2.1.length).length = (c :: t).length - (tokF (c :: t)).2.1.length := List.length_drop
      have hLen2 : ((c :: t).drop (tokF (c :: t)).2.1.length ++ midL m ++ b).length = ((c :: t).drop (tokF (c :: t)).2.1.length).length + (midL m).length + b.length := by simp; omega
      obtain ⟨la, e1, e2⟩ := toks_two hm hLb n ((c :: t).drop (tokF (c :: t)).2.1.length) k (by omega) (by omega) (by omega) hr hb
      have hdrop : ((c :: t) ++ midL m ++ b).drop (tokF (c :: t)).2.1.length = (c :: t).drop (tokF (c :: t)).2.1.length ++ midL m ++ b := by
        rw [List.append_assoc, List.drop_append_of_le_length l3, List.append_assoc]
      have hcl : ((c :: t) ++ midL m ++ b).length = (c :: t).length + (midL m).length + b.length := by simp; omega
      refine ⟨⟨(tokF (c :: t)).1, (tokF (c :: t)).2.1, La - (c :: t).length⟩ :: la, ?_, ?_⟩
      · rw [toksF.eq_2, hks]
        simp only
        rw [if_pos hq, if_pos hr, e1]; rfl
      · rw [toksF.eq_2, hsk]
        have hc2 : (c :: t) ++ midL m ++ b = c :: (t ++ midL m ++ b) := by simp
        rw [hc2]
        simp only
        rw [← hc2, ht, if_pos hq, hdrop, e2, if_pos rfl, hcl]
        have e : La + (midL m).length + Lb - ((c :: t).length + (midL m).length + b.length) = La - (c :: t).length := by omega
        rw [e]; rfl
theorem byteL_of {l : List Int} (h : ∀ x ∈ l, (Lit.int .u8 x).wf = true) : byteL l := by
  intro x hx
  have := h x hx
  have e1 : IntKind.u8.min = 0 := by decide
  have e2 : IntKind.u8.max = 255 := by decide
  simp [Lit.wf, e1, e2] at this
  omega
theorem toks_len {L : Nat} : ∀ (n : Nat) (s : List Int), (toksF L n s).1.length ≤ n
  | 0, s => by simp [toksF]
  | n + 1, s => by
    unfold toksF
    split
    · simp
    · split
      · split
        · simp only [List.length_cons]
          exact Nat.succ_le_succ (toks_len n _)
        · simp
      · simp
theorem str_size (l : List Int) : (strOfNums l).size = l.length := by simp [strOfNums, ByteArray.size]
theorem bytes_str {l : List Int} (h : byteL l) : bytesOf (strOfNums l) = l := by
  unfold bytesOf strOfNums
  simp only [List.map_map]
  conv => rhs; rw [← List.map_id l]
  refine List.map_congr_left (fun x hx => ?_)
  have := h x hx
  simp
  omega
theorem bytes_app (a b : ByteArray) : bytesOf (a ++ b) = bytesOf a ++ bytesOf b := by
  simp [bytesOf, ByteArray.data_append]
theorem blanks_text {a b m : List Int} (ha : byteL a) (hb : byteL b) (hm : byteL m) :
    bytesOf (((strOfNums a) ++ (((⟨#[10, 9, 32, 47, 47]⟩ : ByteArray) ++ (strOfNums m)) ++ (⟨#[10, 32]⟩ : ByteArray))) ++ (strOfNums b)) = a ++ midL m ++ b := by
  rw [bytes_app, bytes_app, bytes_app, bytes_app, bytes_str ha, bytes_str hb, bytes_str hm]
  have e1 : bytesOf (⟨#[10, 9, 32, 47, 47]⟩ : ByteArray) = [10, 9, 32, 47, 47] := by decide
  have e2 : bytesOf (⟨#[10, 32]⟩ : ByteArray) = [10, 32] := by decide
  rw [e1, e2]; rfl
theorem size_app (a b : ByteArray) : (a ++ b).size = a.size + b.size := ByteArray.size_append
/-- The second text's tokens come back, moved. -/
theorem back2 {x0 : List Int} {la lb : List TK} {mid : ByteArray} {La d : Nat} (hla : la.length ≤ 1000000) (hlb : lb.length ≤ 1000000) (hd : d = x0.length + mid.size) (hd2 : d ≤ 1000000) (hfr : ∀ q ∈ lb, q.fr ≤ 1000000) : ∀ (u : List TK) (i : Nat), lb.drop i = u →
    Ev (fun k => whetstonelaw08_LexBlanks.l2 k x0 ((la ++ [(⟨0, [], La⟩ : TK)]).map to34) (lb.map to34) mid ((la ++ lb.map (movT d)).map to34) i) true := by
  intro u
  induction u with
  | nil =>
    intro i h
    have := drn h
    refine Ev.step (fun k => whetstonelaw08_LexBlanks.l2.eq_2 _ _ _ _ _ _ _) ?_
    rw [List.length_map]
    exact ev_neg (by omega) (ev_ret rfl)
  | cons q t ih =>
    intro i h
    obtain ⟨h1, h2, h3⟩ := drc h
    have hf := hfr q (List.mem_of_getElem? h3)
    refine Ev.step (fun k => whetstonelaw08_LexBlanks.l2.eq_2 _ _ _ _ _ _ _) ?_
    have e1 : (lb.map to34)[i]? = some (to34 q) := by rw [List.getElem?_map, h3]; rfl
    have e2 : ((la ++ lb.map (movT d)).map to34)[la.length + i]? = some (to34 (movT d q)) := by
      rw [List.getElem?_map, List.getElem?_append_right (by omega), show la.length + i - la.length = i by omega, List.getElem?_map, h3]; rfl
    have hl0 : ((la ++ [(⟨0, [], La⟩ : TK)]).map to34).length = la.length + 1 := by simp
    have hl2 : ((la ++ lb.map (movT d)).map to34).length = la.length + lb.length := by simp
    rw [List.length_map, hl0, hl2, rd34_at e1]
    have ew : wrap64 (wrap64 (((la.length + 1 : Nat) : Int) - 1) + (i : Int)) = ((la.length + i : Nat) : Int) := by
      rw [wr (n := ((la.length + 1 : Nat) : Int) - 1) (by omega) (by omega), wr (by omega) (by omega)]; omega
    rw [ew, rd34_at e2]
    have ef : (to34 (movT d q)).f2.f0 = ((q.fr + d : Nat) : Int) := rfl
    have eg : (to34 q).f2.f0 = (q.fr : Int) := rfl
    have et : (to34 (movT d q)).f1 = (to34 q).f1 := rfl
    have ek : (to34 (movT d q)).f0 = (to34 q).f0 := rfl
    have ez : wrap64 (wrap64 ((q.fr : Int) + (x0.length : Int)) + (mid.size : Int)) = ((q.fr + d : Nat) : Int) := by
      rw [wr (n := (q.fr : Int) + (x0.length : Int)) (by omega) (by omega), wr (by omega) (by omega)]; omega
    rw [ef, eg, et, ek, ez, wr (by omega) (by omega)]
    refine ev_pos (by omega) (ev_pos (by omega) (ev_pos (by omega) (ev_pos (by omega) (ev_pos rfl (ev_pos rfl (ev_pos rfl ?_))))))
    exact ih (i + 1) h2
theorem back1 {x0 : List Int} {la lb : List TK} {mid : ByteArray} {La d : Nat} (hla : la.length ≤ 1000000) (hlb : lb.length ≤ 1000000) (hd : d = x0.length + mid.size) (hd2 : d ≤ 1000000) (hfr : ∀ q ∈ lb, q.fr ≤ 1000000) : ∀ (u : List TK) (i : Nat), la.drop i = u → i ≤ la.length →
    Ev (fun k => whetstonelaw08_LexBlanks.l1 k x0 ((la ++ [(⟨0, [], La⟩ : TK)]).map to34) (lb.map to34) mid ((la ++ lb.map (movT d)).map to34) i) true := by
  intro u
  have hl0 : ((la ++ [(⟨0, [], La⟩ : TK)]).map to34).length = la.length + 1 := by simp
  have hl2 : ((la ++ lb.map (movT d)).map to34).length = la.length + lb.length := by simp
  have ew : wrap64 (((la.length + 1 : Nat) : Int) - 1) = (la.length : Int) := by
    rw [wr (by omega) (by omega)]; omega
  induction u with
  | nil =>
    intro i h hi
    have := drn h
    refine Ev.step (fun k => whetstonelaw08_LexBlanks.l1.eq_2 _ _ _ _ _ _ _) ?_
    rw [hl0, ew]
    exact ev_neg (by omega) (back2 hla hlb hd hd2 hfr lb 0 rfl)
  | cons q t ih =>
    intro i h hi
    obtain ⟨h1, h2, h3⟩ := drc h
    refine Ev.step (fun k => whetstonelaw08_LexBlanks.l1.eq_2 _ _ _ _ _ _ _) ?_
    have e1 : ((la ++ [(⟨0, [], La⟩ : TK)]).map to34)[i]? = some (to34 q) := by rw [List.getElem?_map, List.getElem?_append_left h1, h3]; rfl
    have e2 : ((la ++ lb.map (movT d)).map to34)[i]? = some (to34 q) := by rw [List.getElem?_map, List.getElem?_append_left h1, h3]; rfl
    rw [hl0, ew, hl2, rd34_at e1, rd34_at e2, wr (by omega) (by omega)]
    refine ev_pos (by omega) (ev_pos (by omega) (ev_pos (by omega) (ev_pos (by omega) (ev_neg (by simp) ?_))))
    exact ih (i + 1) h2 (by omega)
theorem toks_fr {L : Nat} : ∀ (n : Nat) (s : List Int), ∀ q ∈ (toksF L n s).1, q.fr ≤ L
  | 0, s, q, hq => by simp [toksF] at hq
  | n + 1, s, q, hq => by
    unfold toksF at hq
    split at hq
    · simp at hq; rw [hq]; exact Nat.le_refl _
    · split at hq
      · split at hq
        · rcases List.mem_cons.1 hq with e | e
          · rw [e]; exact Nat.sub_le _ _
          · exact toks_fr n _ q e
        · simp at hq
      · simp at hq
theorem remark_loop {a b m : List Int} (hm : m.length ≤ 100) {R : Bool} (hT : R = true) (hR : (∀ x ∈ m, x ≠ 10) → Ev (fun k => (lex_Tokens.f k a).bind fun bt165 => ((lex_Tokens.f k b).bind fun bt170 => (if bt165.2.2 = 0 then (whetstonelaw08_LexBlanks.j2 k a b m bt165.1 bt170.1 (bt170.2.2 != 0)) else (whetstonelaw08_LexBlanks.j2 k a b m bt165.1 bt170.1 true)))) R) :
    ∀ (u : List Int) (i : Nat), m.drop i = u → (∀ x ∈ m.take i, x ≠ 10) → Ev (fun k => whetstonelaw08_LexBlanks.l0 k a b m i) R := by
  intro u
  induction u with
  | nil =>
    intro i h hi
    have := drn h
    refine Ev.step (fun k => whetstonelaw08_LexBlanks.l0.eq_2 _ _ _ _ _) ?_
    refine ev_neg (by omega) (hR ?_)
    rwa [List.take_of_length_le this] at hi
  | cons c t ih =>
    intro i h hi
    obtain ⟨h1, h2, h3⟩ := drc h
    refine Ev.step (fun k => whetstonelaw08_LexBlanks.l0.eq_2 _ _ _ _ _) ?_
    refine ev_pos (by omega) (ev_pos (by omega) ?_)
    rw [rd_at h3, wr (by omega) (by omega)]
    refine ev_ite (fun e => ev_ret hT.symm) (fun e => ih (i + 1) h2 ?_)
    intro x hx
    rw [List.take_add_one, h3] at hx
    rcases List.mem_append.1 hx with hx | hx
    · exact hi x hx
    · simp at hx; rw [hx]; exact e
/-- Blanks and remarks between two texts change no token but its place. -/
theorem LexBlanks : whetstonelaw08_LexBlanks.Pure := by
  intro a b m a1 a2 a3 b1 b2 b3 m1 m2 m3
  have ha := byteL_of a3
  have hb := byteL_of b3
  have hm := byteL_of m3
  refine ev_ex (g := fun k => whetstonelaw08_LexBlanks.f k a b m) ?_
  unfold whetstonelaw08_LexBlanks.f
  have j0 : Ev (fun k => whetstonelaw08_LexBlanks.j0 k a b m true) true := by
    refine Ev.step (fun k => whetstonelaw08_LexBlanks.j0.eq_2 _ _ _ _ _) ?_
    exact ev_pos rfl (ev_bind parted_ev (ev_ret rfl))
  refine ev_bind parted_ev (ev_pos rfl ?_)
  refine ev_ite (fun _ => j0) (fun la => ?_)
  refine ev_ite (fun _ => j0) (fun lb => ?_)
  refine Ev.step (fun k => whetstonelaw08_LexBlanks.j0.eq_2 _ _ _ _ _) ?_
  refine ev_ite (fun _ => ev_bind parted_ev (ev_ret rfl)) (fun lm => ?_)
  have lm' : m.length ≤ 100 := by simp at lm; omega
  refine remark_loop lm' rfl ?_ m 0 rfl (by simp)
  intro h10
  refine ev_bind (tokens_eq (by omega) ha) (ev_bind (tokens_eq (by omega) hb) ?_)
  have hj : ∀ x y : List S34, Ev (fun k => whetstonelaw08_LexBlanks.j2 k a b m x y true) true := by
    intro x y
    refine Ev.step (fun k => whetstonelaw08_LexBlanks.j2.eq_2 _ _ _ _ _ _ _) ?_
    exact ev_pos rfl (ev_ret rfl)
  by_cases qa : (toksF a.length (a.length + 1) a).2.2 = 0
  · by_cases qb : (toksF b.length (b.length + 1) b).2.2 = 0
    · have hml := mid_len m
      have hall : (a ++ midL m ++ b).length = a.length + (midL m).length + b.length := by simp; omega
      obtain ⟨l, e1, e2⟩ := toks_two (La := a.length) (Lb := b.length) (m := m) (b := b) h10 rfl (a.length + 1) a ((a ++ midL m ++ b).length + 1) (Nat.le_refl _) (by omega) (by omega) qa qb
      have hle := toks_len (L := a.length) (a.length + 1) a
      have hle2 := toks_len (L := b.length) (b.length + 1) b
      have hfr := toks_fr (L := b.length) (b.length + 1) b
      rw [e1, List.length_append] at hle
      have hB : byteL (a ++ midL m ++ b) := by
        intro x hx
        simp only [List.mem_append, midL] at hx
        rcases hx with (hx | (hx | hx) | hx) | hx
        · exact ha x hx
        · simp at hx; omega
        · exact hm x hx
        · simp at hx; omega
        · exact hb x hx
      have hto := tokens_eq (b := a ++ midL m ++ b) (by omega) hB
      rw [hall] at hto e2
      rw [e2] at hto
      simp only [toksR, qa, qb, if_true, e1, List.nil_append] at hto ⊢
      refine Ev.step (fun k => whetstonelaw08_LexBlanks.j2.eq_2 _ _ _ _ _ _ _) ?_
      have s1 := str_size a
      have s2 := str_size b
      have s3 := str_size m
      have s4 : (⟨#[10, 9, 32, 47, 47]⟩ : ByteArray).size = 5 := rfl
      have s5 : (⟨#[10, 32]⟩ : ByteArray).size = 2 := rfl
      rw [blanks_text ha hb hm]
      refine ev_neg (by simp) (ev_pos (by omega) ?_)
      refine ev_pos (by rw [size_app]; omega) ?_
      refine ev_pos (by rw [size_app, size_app]; omega) ?_
      refine ev_pos (by rw [size_app, size_app, size_app]; omega) ?_
      refine ev_pos (by rw [size_app, size_app, size_app, size_app]; omega) ?_
      refine ev_bind hto ?_
      refine ev_pos rfl ?_
      refine Ev.step (fun k => whetstonelaw08_LexBlanks.j3.eq_2 _ _ _ _ _ _ _) ?_
      generalize hlb : (toksF b.length (b.length + 1) b).1 = tb at hle2 hfr
      refine ev_neg ?_ ?_
      · have : wrap64 (wrap64 ((((l ++ [(⟨0, [], a.length⟩ : TK)]).map to34).length : Int) + ((tb.map to34).length : Int)) - 1) = ((l.length + tb.length : Nat) : Int) := by
          simp only [List.length_map, List.length_append, List.length_cons, List.length_nil] at *
          rw [wr (n := ((l.length + (0 + 1) : Nat) : Int) + (tb.length : Int)) (by omega) (by omega), wr (by omega) (by omega)]; omega
        rw [this]
        simp
      · refine back1 (d := a.length + (midL m).length) (by omega) (by omega) ?_ (by omega) (fun q hq => Nat.le_trans (hfr q hq) (by omega)) l 0 rfl (by omega)
        rw [size_app, size_app, s3, s4, s5]; omega
    · have e : (((toksR [] (toksF b.length (b.length + 1) b)).2.2 : Int) != 0) = true := by
        simp [toksR, qb]
      rw [e]
      exact ev_ite (fun _ => hj _ _) (fun _ => hj _ _)
  · refine ev_neg ?_ (hj _ _)
    simp [toksR, qa]

end Go.Proofs.Ytkngkfjjgkfcnaa.Pure
