-- written by wip/wprint, a program of this session
import Derived.Test.YtjpnaapimnoamaaQBigGcdsx0
import Derived.Test.YtjpnaapimnoamaaQBigGcdsx1
import Derived.Test.YtjpnaapimnoamaaQBigGcdsx4
namespace Go.Proofs.Ytjpnaapimnoamaa.QBigGcds
open Go.RowKit Go.Proofs.YtjpnaapimnoamaaW.PrintWords Go.Proofs.YtjpnaapimnoamaaW.PrintLast Go.Proofs.YtjpnaapimnoamaaW.PrintMore
attribute [local go_sem] max2_int min2_int max_two min_two max_three min_three max_four min_four   -- for this text's walks alone
set_option linter.unusedVariables false
set_option linter.unusedSimpArgs false

/-! ### nat_short: function 77 -/
attribute [local go_sem] Oper.semAt_some
def nat_short.t (a1 rest x : Int) : Int := Go.bits .or .u64 (IntKind.u64.wrap (rest * 4294967296)) (IntKind.u64.wrap x)
/-- The quotient's row and the rest when k limbs, the highest first, have been taken. -/
def nat_short.run (l : List Int) (a1 : Int) : Nat → List Int × Int
 | 0 => (List.replicate l.length 0, 0)
 | k + 1 => ((nat_short.run l a1 k).1.set (l.length - 1 - k) (IntKind.u32.wrap (IntKind.u64.wrap (Int.tdiv (nat_short.t a1 (nat_short.run l a1 k).2 (l[l.length - 1 - k]?.getD 0)) (IntKind.u64.wrap a1)))),
   Int.tmod (nat_short.t a1 (nat_short.run l a1 k).2 (l[l.length - 1 - k]?.getD 0)) (IntKind.u64.wrap a1))
theorem nat_short.run_length (l : List Int) (a1 : Int) : ∀ k, (nat_short.run l a1 k).1.length = l.length
 | 0 => by simp [nat_short.run]
 | k + 1 => by simp [nat_short.run, nat_short.run_length l a1 k]
/-- The same over the places that have come. -/
def nat_short.fold (l : List Int) (a1 : Int) (pre : List (Fin l.length)) : List Int × Int :=
 pre.foldl (fun s x => (s.1.set x.1 (IntKind.u32.wrap (IntKind.u64.wrap (Int.tdiv (nat_short.t a1 s.2 (l[x.1]?.getD 0)) (IntKind.u64.wrap a1)))), Int.tmod (nat_short.t a1 s.2 (l[x.1]?.getD 0)) (IntKind.u64.wrap a1))) (List.replicate l.length 0, 0)
theorem nat_short.fold_snoc (l : List Int) (a1 : Int) (pre : List (Fin l.length)) (x : Fin l.length) : nat_short.fold l a1 (pre ++ [x]) = ((nat_short.fold l a1 pre).1.set x.1 (IntKind.u32.wrap (IntKind.u64.wrap (Int.tdiv (nat_short.t a1 (nat_short.fold l a1 pre).2 (l[x.1]?.getD 0)) (IntKind.u64.wrap a1)))), Int.tmod (nat_short.t a1 (nat_short.fold l a1 pre).2 (l[x.1]?.getD 0)) (IntKind.u64.wrap a1)) := by
 simp [nat_short.fold]
theorem nat_short.fold_length' {n : Nat} (f : List Int → Int → Fin n → Int × Int) : ∀ (pre : List (Fin n)) (s : List Int × Int), (pre.foldl (fun s x => (s.1.set x.1 (f s.1 s.2 x).1, (f s.1 s.2 x).2)) s).1.length = s.1.length
 | [], _ => rfl
 | x :: pre, s => by
  rw [List.foldl_cons, nat_short.fold_length' f pre]
  simp
theorem nat_short.fold_length (l : List Int) (a1 : Int) (pre : List (Fin l.length)) : (nat_short.fold l a1 pre).1.length = l.length := by
 have h := nat_short.fold_length' (fun _ r x => (IntKind.u32.wrap (IntKind.u64.wrap (Int.tdiv (nat_short.t a1 r (l[x.1]?.getD 0)) (IntKind.u64.wrap a1))), Int.tmod (nat_short.t a1 r (l[x.1]?.getD 0)) (IntKind.u64.wrap a1))) pre (List.replicate l.length 0, 0)
 simpa [nat_short.fold] using h
theorem nat_short.fold_down (l : List Int) (a1 : Int) : ∀ k, k ≤ l.length → nat_short.fold l a1 (nat_limbs.down l.length k) = nat_short.run l a1 k
 | 0, _ => rfl
 | k + 1, h => by
  have hm : (l.length - 1 - k) + 1 + k = l.length := by omega
  rw [nat_limbs.down_succ hm, nat_short.fold_snoc, nat_short.fold_down l a1 k (by omega)]
  rfl
theorem nat_short.own {w1 : World} {base m n : Nat} {ok : Nat → Prop} {v : Value} {xs : List Int} (hl : xs.length = n) (ho : Kd.R (Kd.int .u32) 87 w1 base ok v xs) (hn : ∃ b, v.ownBlock = some b ∧ m ≤ b) : ∃ g cap, v = .slice (some ⟨g, 0, none⟩) n cap ∧ m ≤ g ∧ g < w1.heap.size := by
 rcases (Kd.own_of_R ho).2 with ⟨rfl, _⟩ | ⟨g, cap, cur, rfl, hg, hh, hrr⟩
 ·obtain ⟨b, hb, _⟩ := hn
  simp [Value.ownBlock] at hb
 ·obtain ⟨b, hb, hm⟩ := hn
  obtain rfl : g = b := by simpa [Value.ownBlock] using hb
  exact ⟨g, cap, by rw [hl], hm, (Array.getElem?_eq_some_iff.1 hh).1⟩
/-- What lay at n and below lies as it lay, but for two blocks. -/
def nat_short.Kp (n g b : Nat) (A B : World) : Prop := A.heap.size ≤ B.heap.size ∧ ∀ j, j < n → j ≠ g → j ≠ b → B.heap[j]? = A.heap[j]?
theorem nat_short.Kp.trans {n g b : Nat} {A B C : World} (h : nat_short.Kp n g b A B) (h' : nat_short.Kp n g b B C) : nat_short.Kp n g b A C := ⟨Nat.le_trans h.1 h'.1, fun j h1 h2 h3 => (h'.2 j h1 h2 h3).trans (h.2 j h1 h2 h3)⟩
theorem nat_short.Kp.putObj {n g b l : Nat} {W : World} {o o' : Obj} (hl : n ≤ l) (ho : W.heap[l]? = some o) (hc : o.isCells = false) : nat_short.Kp n g b W (W.putObj l o') := by
 have hg := grownBy_putObj' W l o'
 exact ⟨hg.size, fun j h1 _ _ => by
  by_cases hj : j < W.heap.size
  ·exact hg.block j hj (fun e => by cases e; omega)
  ·have := (Array.getElem?_eq_some_iff.1 ho).1
   omega⟩
theorem nat_short.Kp.own {β : Type} {g b : Nat} {W4 : World} : OwnFrom W4.heap.size (fun (_ : β) W => nat_short.Kp W4.heap.size g b W4 W) := fun s A B row hs hg hr =>
 hs.trans ⟨hg.size, fun j h1 _ _ => hg.block j (Nat.lt_of_lt_of_le h1 hs.1) (fun e => by have := (hr j e.symm).1; omega)⟩
theorem nat_short.moved {A B : World} {row : Option Nat} {base g n cap b : Nat} {t : TypeId} {v : Value} {xs : List Int} (hs : Kd.R (Kd.int .u32) 87 A base (fun k => some k = some g) (.slice (some ⟨g, 0, none⟩) n cap) xs ∧ Boxed A b t v) (hg : A.grownBy B row) (hr : ∀ r, row = some r → ∃ o : Obj, A.heap[r]? = some o ∧ o.isCells = false) :
  Kd.R (Kd.int .u32) 87 B base (fun k => some k = some g) (.slice (some ⟨g, 0, none⟩) n cap) xs ∧ Boxed B b t v := by
 refine ⟨Kd.R_grown hs.1 hg (fun k hk e => ?_), hs.2.kept hg (fun e => ?_)⟩
 ·obtain ⟨o, ho, hc⟩ := hr k e.symm
  obtain ⟨cells, hcells⟩ := own_typed (Kd.own_of_R hs.1) k (by simpa [Value.ownBlock] using hk.symm)
  rw [hcells] at ho
  cases ho
  simp [Obj.isCells] at hc
 ·obtain ⟨o, ho, hc⟩ := hr b e.symm
  have hb : A.heap[b]? = _ := hs.2
  rw [hb] at ho
  cases ho
  simp [Obj.isCells] at hc
def nat_short.endsAt (R : Act → World → Prop) : Exit → Act → World → Prop
 | .normal, a, W => R a W
 | _, _, _ => False
def nat_short.endsIn (R : World → Prop) : Exit → Act → World → Prop
 | .normal, _, W => R W
 | _, _, _ => False
/-- In a round, too: no operation is a defer statement. -/
theorem nat_short.round {n l : Nat} {P : Program} {md : Region.Mode} {ops : Array Oper} {Q : Exit → Act → World → Prop} (hno : (ops.all fun o => match o.op with | .defer _ => false | _ => true) = true) :
  ∀ {fuel : Nat} {listed : Array Bool} {a : Act} {w : World}, wpAnyIn Fence.wide n P md ops Q fuel listed a w → wpAnyIn (Fence.wide.inRound l) n P md ops Q fuel listed a w
 | 0, _, _, _, h => h
 | fuel + 1, listed, a, w, h => by
  refine ⟨h.1, fun i hi => ?_⟩
  have h2 := h.2 i hi
  unfold wpOpIn at h2 ⊢
  cases ho : ops[i]? with
  | none =>
   rw [ho] at h2
   exact nat_short.round hno h2
  | some o =>
   rw [ho] at h2
   dsimp only at h2 ⊢
   have hd : ∀ c, o.op ≠ .defer c := fun c e => by
    have h3 := Array.all_eq_true'.1 hno o (Array.mem_of_getElem? ho)
    rw [e] at h3
    exact absurd h3 (by simp)
   split
   ·rename_i hw
    rw [if_pos hw] at h2
    have h4 := Oper.wpIn_mono (fun a w h => nat_short.round (l := l) hno h) h2
    unfold Oper.wpIn at h4 ⊢
    rw [Oper.semAt_eq _ _ _ hd] at h4 ⊢
    exact h4
   ·rename_i hw
    rw [if_neg hw] at h2
    exact ⟨h2.1, nat_short.round hno h2.2⟩
def nat_short.f (k : Nat) (l0 : List Int) (a1 : Int) : Option (List Int × Int) :=
 if l0.length ≤ 70368744177664 then (if IntKind.u64.wrap a1 = 0 then none else ((nat_trim.f k (nat_short.run l0 a1 l0.length).1).bind fun t => some (t, IntKind.u32.wrap (nat_short.run l0 a1 l0.length).2))) else none
theorem nat_short.mono : ∀ a0 a1 k, LeO (nat_short.f k a0 a1) (nat_short.f (k + 1) a0 a1) := by
 intro a0 a1 k
 unfold nat_short.f
 exact LeO.ite (LeO.ite (LeO.refl _) (LeO.bind (nat_trim.mono _ _) (fun _ => LeO.refl _))) (LeO.refl _)
set_option maxHeartbeats 8000000 in
set_option maxRecDepth 100000 in
theorem nat_short.calls (k : Nat) (A0 : Option Addr) (c0 : Nat) (l0 : List Int) (a1 : Int) (r1 : List Int) (r2 : Int) (w : World) (hr0 : Kd.C (Kd.int .u32) w A0 l0.length l0) (hc0 : l0.length ≤ c0) (h : nat_short.f k l0 a1 = some (r1, r2)) :
  Calls Try.prog 77 #[.slice A0 l0.length c0, .int .u32 a1] w fun e w' => ∃ v0_ : Value, e = .returned (.tuple #[v0_, .int .u32 r2]) ∧ Kd.V (Kd.int .u32) 87 w' w.heap.size (fun k_ => w.heap.size ≤ k_) v0_ r1 ∧ Below w.heap.size w w' := by
 unfold nat_short.f at h
 by_cases hlen : l0.length ≤ 70368744177664
 rotate_left
 ·rw [if_neg hlen] at h
  exact absurd h (by simp)
 rw [if_pos hlen] at h
 by_cases hz : IntKind.u64.wrap a1 = 0
 ·rw [if_pos hz] at h
  exact absurd h (by simp)
 rw [if_neg hz] at h
 obtain ⟨t, ht, h⟩ := Option.bind_eq_some_iff.mp h
 have hr := Option.some.inj h
 clear h
 obtain ⟨rfl, rfl⟩ := Prod.mk.inj hr
 clear hr
 refine (callsIn_wide (n := 4)).1 ?_
 refine callsIn_of_wp_marks Try.func77 rfl trivial ?_ rfl
 simp only [Try.ntmps77, List.size_toArray, List.length_cons, List.length_nil, Nat.reduceAdd, Nat.reduceSub, Array.replicate_succ, Array.replicate_zero, List.push_toArray, List.append_toArray, List.nil_append, List.cons_append]
 refine wpIn_wide.2 ?_
 go_wp2_with (first | ((with_reducible refine gate_dst (N := 13) rfl ?_); (try (refine gate_guard (by rfl) ?_; dsimp only)); refine Kd.R_make (Kd.int .u32) _ 87 rfl (N := 13) rfl 22 _ _ rfl (l0.length : Int) rfl rfl Try.underlying22 (.int .u32 0) 4 info87 rfl (by decide) (by omega) 0 (ok := fun _ => True) (okp := fun _ => True) rfl (fun _ hk => hk) trivial (by omega) (by omega) (Below.refl _ _) (Nat.le_refl _) ?_; intro v1 w1 ho1 hb1 hg1 hnew1; have ho2 : Kd.R (Kd.int .u32) 87 w1 _ (fun _ => True) v1 (nat_short.fold l0 a1 []).1 := ho1; clear ho1; obtain ⟨g, cap, hv, hg, hglt⟩ := nat_short.own (nat_short.fold_length l0 a1 []) ho2 hnew1; subst hv; clear hnew1))
 rw [World.size_alloc] at hg
 have hs1 : w.heap.size + 1 ≤ w1.heap.size := by have := hb1.size; rw [World.size_alloc] at this; exact this
 have bD1 : Boxed w1 w.heap.size 87 (.int .u32 a1) := (hb1.block w.heap.size (by rw [World.size_alloc]; omega)).trans (Boxed.new w 87 (.int .u32 a1))
 have hB1 : Below w.heap.size w w1 := ((Below.refl _ w).alloc (Nat.le_refl _) _).trans (hb1.mono (by rw [World.size_alloc]; omega))
 refine (callsIn_wide.1 (nat_limbs_in Fence.wide 4 trivial rfl _ _ _ _)).mono ?_
 rintro e w' ⟨rfl, rfl⟩
 have bN6 := ((Boxed.new w1 22 (.slice (some ⟨g, 0, none⟩) l0.length cap)).alloc (.cells #[.int .u64 0] 85)).alloc (.cells #[.slice A0 l0.length c0] 22)
 have bN7 := (Boxed.new (w1.alloc (.cells #[.slice (some ⟨g, 0, none⟩) l0.length cap] 22)) 85 (.int .u64 0)).alloc (.cells #[.slice A0 l0.length c0] 22)
 have bNI := Boxed.new ((w1.alloc (.cells #[.slice (some ⟨g, 0, none⟩) l0.length cap] 22)).alloc (.cells #[.int .u64 0] 85)) 22 (.slice A0 l0.length c0)
 have bD4 := ((bD1.alloc (.cells #[.slice (some ⟨g, 0, none⟩) l0.length cap] 22)).alloc (.cells #[.int .u64 0] 85)).alloc (.cells #[.slice A0 l0.length c0] 22)
 have hR4 := Kd.R_alloc (Kd.R_alloc (Kd.R_alloc (Kd.R_tight rfl ho2) (.cells #[.slice (some ⟨g, 0, none⟩) l0.length cap] 22)) (.cells #[.int .u64 0] 85)) (.cells #[.slice A0 l0.length c0] 22)
 have hB4 : Below w.heap.size w (((w1.alloc (.cells #[.slice (some ⟨g, 0, none⟩) l0.length cap] 22)).alloc (.cells #[.int .u64 0] 85)).alloc (.cells #[.slice A0 l0.length c0] 22)) := ((hB1.alloc (by omega) _).alloc (by simp; omega) _).alloc (by simp; omega) _
 have hsz4 : (((w1.alloc (.cells #[.slice (some ⟨g, 0, none⟩) l0.length cap] 22)).alloc (.cells #[.int .u64 0] 85)).alloc (.cells #[.slice A0 l0.length c0] 22)).heap.size = w1.heap.size + 3 := by simp
 simp only [World.size_alloc] at bN7 bNI ⊢
 generalize (((w1.alloc (.cells #[.slice (some ⟨g, 0, none⟩) l0.length cap] 22)).alloc (.cells #[.int .u64 0] 85)).alloc (.cells #[.slice A0 l0.length c0] 22)) = W4 at *
 generalize w1.heap.size = s1 at *
 have hx4 := (nat_limbs.At.of hr0).below hB4
 go_wp2
 refine (wpIn_wide (n := 4)).1 ?_
 have hKr : ∀ A : World, nat_short.Kp W4.heap.size g (s1 + 1) A A := fun A => ⟨Nat.le_refl _, fun _ _ _ _ => rfl⟩
 refine wpIn_rangeFunc_ownG rfl (by omega) (gf := 92) (lb := #[.pointer (some ⟨s1 + 1 + 1, 0, none⟩)]) rfl trivial (enters_of Try.func92 (by kernel_rfl) rfl)
  (nat_limbs_stops Fence.wide 3 trivial rfl (by omega) (s1 + 1 + 1) w.heap.size c0 A0 l0 (by omega) (nat_short.Kp W4.heap.size g (s1 + 1)) hKr (fun h h' => h.trans h') (fun h p hp => World.cell?_of_block (h.2 p.block (by omega) (by omega) (by omega))) W4 (by omega) (by omega) bNI.cell hx4)
  (fun h h' => h.trans h') (fun W l o o' hl ho hc hw => nat_short.Kp.putObj hl ho hc) (Below.refl _ _) (fun _ => rfl)
  (fun pre W => (Kd.R (Kd.int .u32) 87 W (w.heap.size + 1) (fun k => some k = some g) (.slice (some ⟨g, 0, none⟩) l0.length cap) (nat_short.fold l0 a1 pre).1 ∧ Boxed W (s1 + 1) 85 (.int .u64 (nat_short.fold l0 a1 pre).2)) ∧ nat_short.Kp W4.heap.size g (s1 + 1) W4 W ∧ Below w.heap.size w W)
  (fun _ _ _ => False)
  (OwnFrom.and (fun s A B row hs hg hr => nat_short.moved hs hg (fun r e => (hr r e).2)) (OwnFrom.and nat_short.Kp.own (ownFrom_below (Nat.le_refl _) (by omega))))
  (fun _ _ _ _ _ hs _ _ => hs)
  ⟨⟨by rw [World.size_alloc] at hR4; exact hR4, bN7⟩, hKr _, hB4⟩
  (fun x => { tmps := #[.slice A0 l0.length c0, .int .u32 a1, undef, .pointer (some ⟨w.heap.size, 0, none⟩), .slice none 0 0, .int .u32 0, .pointer (some ⟨s1, 0, none⟩), .pointer (some ⟨s1 + 1, 0, none⟩), .int .i64 (x.1 : Int), .int .u32 (l0[x.1]?.getD 0), undef, .slice A0 l0.length c0, .int .i64 l0.length, .slice (some ⟨g, 0, none⟩) l0.length cap, .slice A0 l0.length c0, .func (.func 92) #[] #[.pointer (some ⟨s1 + 1 + 1, 0, none⟩)], .int .i64 (x.1 : Int), .int .u32 (l0[x.1]?.getD 0), undef, undef, undef, undef, undef, undef, undef, undef, undef, undef, undef, undef, undef, undef, undef, undef, undef, undef, undef, undef, undef], defers := [] }) ?assign ?body ?done ?stop
 case assign =>
  intro l x W K hK
  have hgx : l0[x.1]?.getD 0 = l0[x.1] := by simp
  dsimp only at hK
  rw [hgx] at hK
  gi_wp2
  exact hK
 case body =>
  rintro l pre x W ⟨⟨hR, hb7⟩, hKp, hBw⟩ _
  have hlp := nat_short.fold_length l0 a1 pre
  have hx2 := x.2
  obtain ⟨hqc, hqf⟩ := Kd.R_celln 0 hR (x.1 : Int) (by omega) (by omega)
  rw [Int.toNat_natCast] at hqc hqf
  have b6 : Boxed W s1 _ _ := (hKp.2 s1 (by omega) (by omega) (by omega)).trans bN6
  have bD : Boxed W w.heap.size _ _ := (hKp.2 w.heap.size (by omega) (by omega) (by omega)).trans bD4
  have h6c := b6.cell
  have hDc := bD.cell
  have h7c := hb7.cell
  have h7f := hb7.frozen
  have hne1 : ¬ g = w.heap.size := by omega
  have hne2 : ¬ w.heap.size = g := by omega
  have hne3 : ¬ s1 + 1 = g := by omega
  have hne4 : ¬ g = s1 + 1 := by omega
  gi_wp2
  refine Code.wpIn_mono (Q := nat_short.endsIn (fun W' => W' = (W.drew.setCell ⟨g, x.1, none⟩ (.int .u32 (IntKind.u32.wrap (IntKind.u64.wrap ((Go.bits .or .u64 (IntKind.u64.wrap ((nat_short.fold l0 a1 pre).2 * 4294967296)) (IntKind.u64.wrap l0[x.1])).tdiv (IntKind.u64.wrap a1)))))).setCell ⟨s1 + 1, 0, none⟩ (.int .u64 ((Go.bits .or .u64 (IntKind.u64.wrap ((nat_short.fold l0 a1 pre).2 * 4294967296)) (IntKind.u64.wrap l0[x.1])).tmod (IntKind.u64.wrap a1))))) ?_ ?_
  ·intro e a W5 h5
   cases e with
   | normal =>
    cases (show W5 = _ from h5)
    have hgx : l0[x.1]?.getD 0 = l0[x.1] := by simp
    refine ⟨((KeepsOthers.drew W).trans ((KeepsOthers.setCell _ _ _).trans (KeepsOthers.setCell _ _ _))).from _, ⟨((KeepsOthers.drew W).trans ((KeepsOthers.setCell _ _ _).trans (KeepsOthers.setCell _ _ _))).size, fun j h1 h2 h3 => (Below.heap_setCell _ _ _ _ (by exact h3)).trans (Below.heap_setCell _ _ _ _ (by exact h2))⟩, ⟨?_, ?_⟩, ?_⟩
    ·have h6 := Kd.R_far (Kd.R_putn (Kd.R_drew hR) (x.1 : Int) (IntKind.u32.wrap (IntKind.u64.wrap (Int.tdiv (nat_short.t a1 (nat_short.fold l0 a1 pre).2 (l0[x.1]?.getD 0)) (IntKind.u64.wrap a1))))) (p := ⟨s1 + 1, 0, none⟩) (fun k hk => by cases hk; exact hne4) (.int .u64 (Int.tmod (nat_short.t a1 (nat_short.fold l0 a1 pre).2 (l0[x.1]?.getD 0)) (IntKind.u64.wrap a1)))
     rw [nat_short.fold_snoc]
     rw [Int.toNat_natCast] at h6
     unfold nat_short.t at h6 ⊢
     rw [hgx] at h6 ⊢
     exact h6
    ·rw [nat_short.fold_snoc]
     unfold nat_short.t
     rw [hgx]
     have h7 : Boxed (W.drew.setCell ⟨g, x.1, none⟩ (.int .u32 (IntKind.u32.wrap (IntKind.u64.wrap ((Go.bits .or .u64 (IntKind.u64.wrap ((nat_short.fold l0 a1 pre).2 * 4294967296)) (IntKind.u64.wrap l0[x.1])).tdiv (IntKind.u64.wrap a1)))))) (s1 + 1) 85 (.int .u64 (nat_short.fold l0 a1 pre).2) := (Below.heap_setCell _ _ _ _ (by exact hne3)).trans hb7
     exact h7.set _
    ·refine ⟨hKp.trans ⟨((KeepsOthers.drew W).trans ((KeepsOthers.setCell _ _ _).trans (KeepsOthers.setCell _ _ _))).size, fun j h1 h2 h3 => (Below.heap_setCell _ _ _ _ (by exact h3)).trans (Below.heap_setCell _ _ _ _ (by exact h2))⟩, ((below_drew hBw).setCell (p := ⟨g, x.1, none⟩) (by show w.heap.size ≤ g; omega) _).setCell (p := ⟨s1 + 1, 0, none⟩) (by show w.heap.size ≤ s1 + 1; omega) _⟩
   | _ => exact h5.elim
  ·clear hr0 hc0 hlen ht hb1 hg1 hg ho2 bD1 hB1 bD4 hR4 hB4 hglt hs1 bN6 hsz4 bN7 bNI hx4 hKr hKp hBw hR hb7 b6 bD hlp
   generalize (nat_short.fold l0 a1 pre).2 = rest at *
   generalize (nat_short.fold l0 a1 pre).1 = q at *
   refine wpIn_region_any (by kernel_rfl) ?_
   change wpAnyIn _ _ _ _ _ _ _ _ _ (World.drew _)
   refine nat_short.round (by kernel_rfl) ?_
   refine wpAnyIn_take (i := 1) (v := .int .i64 (x.1 : Int)) rfl rfl (by kernel_rfl) (by kernel_rfl) (by kernel_rfl) (fun _ _ _ h => h) ⟨Or.inl ⟨by rfl, fun w => by go_simp⟩, fun _ => rfl⟩ ?_
   try simp only [Act.put, List.setIfInBounds_toArray, List.set_cons_zero, List.set_cons_succ]
   refine wpAnyIn_take (i := 2) (v := .int .u64 (Go.bits .or .u64 (IntKind.u64.wrap (rest * 4294967296)) (IntKind.u64.wrap l0[x.1]))) rfl rfl (by kernel_rfl) (by kernel_rfl) (by kernel_rfl) (fun _ _ _ h => h) ⟨Or.inl ⟨by rfl, fun w => by go_simp⟩, fun _ => rfl⟩ ?_
   try simp only [Act.put, List.setIfInBounds_toArray, List.set_cons_zero, List.set_cons_succ]
   refine wpAnyIn_take (i := 7) (v := .int .u64 (Go.bits .or .u64 (IntKind.u64.wrap (rest * 4294967296)) (IntKind.u64.wrap l0[x.1]))) rfl rfl (by kernel_rfl) (by kernel_rfl) (by kernel_rfl) (fun _ _ _ h => h) ⟨Or.inl ⟨by rfl, fun w => by go_simp⟩, fun _ => rfl⟩ ?_
   try simp only [Act.put, List.setIfInBounds_toArray, List.set_cons_zero, List.set_cons_succ]
   refine wpAnyIn_ready (rs := [0, 3, 8]) (by kernel_rfl) (by simp) ?_
   refine AllReadyIn.cons rfl (fun K hK => ?_) ?_
   ·go_simp
    refine hK _ _ ?_
    clear hK K
    refine wpAnyIn_ready (rs := [3, 8]) (by kernel_rfl) (by simp) ?_
    refine AllReadyIn.cons rfl (fun K hK => ?_) ?_
    ·go_simp
     refine hK _ _ ?_
     clear hK K
     refine wpAnyIn_take (i := 4) (v := .int .u64 (IntKind.u64.wrap a1)) rfl rfl (by kernel_rfl) (by kernel_rfl) (by kernel_rfl) (fun _ _ _ h => h) ⟨Or.inl ⟨by rfl, fun w => by go_simp⟩, fun _ => rfl⟩ ?_
     try simp only [Act.put, List.setIfInBounds_toArray, List.set_cons_zero, List.set_cons_succ]
     refine wpAnyIn_take (i := 5) (v := .int .u64 (IntKind.u64.wrap ((Go.bits .or .u64 (IntKind.u64.wrap (rest * 4294967296)) (IntKind.u64.wrap l0[x.1])).tdiv (IntKind.u64.wrap a1)))) rfl rfl (by kernel_rfl) (by kernel_rfl) (by kernel_rfl) (fun _ _ _ h => h) ⟨Or.inl ⟨by rfl, fun w => by go_simp⟩, fun _ => rfl⟩ ?_
     try simp only [Act.put, List.setIfInBounds_toArray, List.set_cons_zero, List.set_cons_succ]
     refine wpAnyIn_take (i := 6) (v := .int .u32 (IntKind.u32.wrap (IntKind.u64.wrap ((Go.bits .or .u64 (IntKind.u64.wrap (rest * 4294967296)) (IntKind.u64.wrap l0[x.1])).tdiv (IntKind.u64.wrap a1))))) rfl rfl (by kernel_rfl) (by kernel_rfl) (by kernel_rfl) (fun _ _ _ h => h) ⟨Or.inl ⟨by rfl, fun w => by go_simp⟩, fun _ => rfl⟩ ?_
     try simp only [Act.put, List.setIfInBounds_toArray, List.set_cons_zero, List.set_cons_succ]
     refine wpAnyIn_take (i := 11) (v := .pointer (some ⟨g, x.1, none⟩)) rfl rfl (by kernel_rfl) (by kernel_rfl) (by kernel_rfl) (fun _ _ _ h => h) ⟨Or.inl ⟨by rfl, fun w => by go_simp⟩, fun _ => rfl⟩ ?_
     try simp only [Act.put, List.setIfInBounds_toArray, List.set_cons_zero, List.set_cons_succ]
     refine wpAnyIn_ready (rs := [8, 12]) (by kernel_rfl) (by simp) ?_
     refine AllReadyIn.cons rfl (fun K hK => ?_) ?_
     ·go_simp
      refine hK _ _ ?_
      clear hK K
      refine wpAnyIn_take (i := 9) (v := .int .u64 (IntKind.u64.wrap a1)) rfl rfl (by kernel_rfl) (by kernel_rfl) (by kernel_rfl) (fun _ _ _ h => h) ⟨Or.inl ⟨by rfl, fun w => by go_simp⟩, fun _ => rfl⟩ ?_
      try simp only [Act.put, List.setIfInBounds_toArray, List.set_cons_zero, List.set_cons_succ]
      refine wpAnyIn_take (i := 10) (v := .int .u64 ((Go.bits .or .u64 (IntKind.u64.wrap (rest * 4294967296)) (IntKind.u64.wrap l0[x.1])).tmod (IntKind.u64.wrap a1))) rfl rfl (by kernel_rfl) (by kernel_rfl) (by kernel_rfl) (fun _ _ _ h => h) ⟨Or.inl ⟨by rfl, fun w => by go_simp⟩, fun _ => rfl⟩ ?_
      try simp only [Act.put, List.setIfInBounds_toArray, List.set_cons_zero, List.set_cons_succ]
      refine wpAnyIn_ready (rs := [12]) (by kernel_rfl) (by simp) ?_
      refine AllReadyIn.cons rfl (fun K hK => ?_) AllReadyIn.nil
      go_simp
      refine hK _ _ ?_
      clear hK K
      refine wpAnyIn_ready (rs := [13]) (by kernel_rfl) (by simp) ?_
      refine AllReadyIn.cons rfl (fun K hK => ?_) AllReadyIn.nil
      go_simp
      refine hK _ _ ?_
      clear hK K
      refine wpAnyIn_done (by kernel_rfl) ?_ _
      first | exact rfl | (simp; done)
     refine AllReadyIn.cons rfl (fun K hK => ?_) AllReadyIn.nil
     go_simp
     refine hK _ _ ?_
     clear hK K
     refine wpAnyIn_ready (rs := [8]) (by kernel_rfl) (by simp) ?_
     refine AllReadyIn.cons rfl (fun K hK => ?_) AllReadyIn.nil
     go_simp
     refine hK _ _ ?_
     clear hK K
     refine wpAnyIn_take (i := 9) (v := .int .u64 (IntKind.u64.wrap a1)) rfl rfl (by kernel_rfl) (by kernel_rfl) (by kernel_rfl) (fun _ _ _ h => h) ⟨Or.inl ⟨by rfl, fun w => by go_simp⟩, fun _ => rfl⟩ ?_
     try simp only [Act.put, List.setIfInBounds_toArray, List.set_cons_zero, List.set_cons_succ]
     refine wpAnyIn_take (i := 10) (v := .int .u64 ((Go.bits .or .u64 (IntKind.u64.wrap (rest * 4294967296)) (IntKind.u64.wrap l0[x.1])).tmod (IntKind.u64.wrap a1))) rfl rfl (by kernel_rfl) (by kernel_rfl) (by kernel_rfl) (fun _ _ _ h => h) ⟨Or.inl ⟨by rfl, fun w => by go_simp⟩, fun _ => rfl⟩ ?_
     try simp only [Act.put, List.setIfInBounds_toArray, List.set_cons_zero, List.set_cons_succ]
     refine wpAnyIn_ready (rs := [13]) (by kernel_rfl) (by simp) ?_
     refine AllReadyIn.cons rfl (fun K hK => ?_) AllReadyIn.nil
     go_simp
     refine hK _ _ ?_
     clear hK K
     refine wpAnyIn_done (by kernel_rfl) ?_ _
     first | exact rfl | (simp; done)
    refine AllReadyIn.cons rfl (fun K hK => ?_) AllReadyIn.nil
    go_simp
    refine hK _ _ ?_
    clear hK K
    refine wpAnyIn_take (i := 9) (v := .int .u64 (IntKind.u64.wrap a1)) rfl rfl (by kernel_rfl) (by kernel_rfl) (by kernel_rfl) (fun _ _ _ h => h) ⟨Or.inl ⟨by rfl, fun w => by go_simp⟩, fun _ => rfl⟩ ?_
    try simp only [Act.put, List.setIfInBounds_toArray, List.set_cons_zero, List.set_cons_succ]
    refine wpAnyIn_take (i := 10) (v := .int .u64 ((Go.bits .or .u64 (IntKind.u64.wrap (rest * 4294967296)) (IntKind.u64.wrap l0[x.1])).tmod (IntKind.u64.wrap a1))) rfl rfl (by kernel_rfl) (by kernel_rfl) (by kernel_rfl) (fun _ _ _ h => h) ⟨Or.inl ⟨by rfl, fun w => by go_simp⟩, fun _ => rfl⟩ ?_
    try simp only [Act.put, List.setIfInBounds_toArray, List.set_cons_zero, List.set_cons_succ]
    refine wpAnyIn_ready (rs := [3]) (by kernel_rfl) (by simp) ?_
    refine AllReadyIn.cons rfl (fun K hK => ?_) AllReadyIn.nil
    go_simp
    refine hK _ _ ?_
    clear hK K
    refine wpAnyIn_take (i := 4) (v := .int .u64 (IntKind.u64.wrap a1)) rfl rfl (by kernel_rfl) (by kernel_rfl) (by kernel_rfl) (fun _ _ _ h => h) ⟨Or.inl ⟨by rfl, fun w => by go_simp⟩, fun _ => rfl⟩ ?_
    try simp only [Act.put, List.setIfInBounds_toArray, List.set_cons_zero, List.set_cons_succ]
    refine wpAnyIn_take (i := 5) (v := .int .u64 (IntKind.u64.wrap ((Go.bits .or .u64 (IntKind.u64.wrap (rest * 4294967296)) (IntKind.u64.wrap l0[x.1])).tdiv (IntKind.u64.wrap a1)))) rfl rfl (by kernel_rfl) (by kernel_rfl) (by kernel_rfl) (fun _ _ _ h => h) ⟨Or.inl ⟨by rfl, fun w => by go_simp⟩, fun _ => rfl⟩ ?_
    try simp only [Act.put, List.setIfInBounds_toArray, List.set_cons_zero, List.set_cons_succ]
    refine wpAnyIn_take (i := 6) (v := .int .u32 (IntKind.u32.wrap (IntKind.u64.wrap ((Go.bits .or .u64 (IntKind.u64.wrap (rest * 4294967296)) (IntKind.u64.wrap l0[x.1])).tdiv (IntKind.u64.wrap a1))))) rfl rfl (by kernel_rfl) (by kernel_rfl) (by kernel_rfl) (fun _ _ _ h => h) ⟨Or.inl ⟨by rfl, fun w => by go_simp⟩, fun _ => rfl⟩ ?_
    try simp only [Act.put, List.setIfInBounds_toArray, List.set_cons_zero, List.set_cons_succ]
    refine wpAnyIn_take (i := 11) (v := .pointer (some ⟨g, x.1, none⟩)) rfl rfl (by kernel_rfl) (by kernel_rfl) (by kernel_rfl) (fun _ _ _ h => h) ⟨Or.inl ⟨by rfl, fun w => by go_simp⟩, fun _ => rfl⟩ ?_
    try simp only [Act.put, List.setIfInBounds_toArray, List.set_cons_zero, List.set_cons_succ]
    refine wpAnyIn_ready (rs := [12]) (by kernel_rfl) (by simp) ?_
    refine AllReadyIn.cons rfl (fun K hK => ?_) AllReadyIn.nil
    go_simp
    refine hK _ _ ?_
    clear hK K
    refine wpAnyIn_ready (rs := [13]) (by kernel_rfl) (by simp) ?_
    refine AllReadyIn.cons rfl (fun K hK => ?_) AllReadyIn.nil
    go_simp
    refine hK _ _ ?_
    clear hK K
    refine wpAnyIn_done (by kernel_rfl) ?_ _
    first | exact rfl | (simp; done)
   refine AllReadyIn.cons rfl (fun K hK => ?_) ?_
   ·go_simp
    refine hK _ _ ?_
    clear hK K
    refine wpAnyIn_take (i := 4) (v := .int .u64 (IntKind.u64.wrap a1)) rfl rfl (by kernel_rfl) (by kernel_rfl) (by kernel_rfl) (fun _ _ _ h => h) ⟨Or.inl ⟨by rfl, fun w => by go_simp⟩, fun _ => rfl⟩ ?_
    try simp only [Act.put, List.setIfInBounds_toArray, List.set_cons_zero, List.set_cons_succ]
    refine wpAnyIn_take (i := 5) (v := .int .u64 (IntKind.u64.wrap ((Go.bits .or .u64 (IntKind.u64.wrap (rest * 4294967296)) (IntKind.u64.wrap l0[x.1])).tdiv (IntKind.u64.wrap a1)))) rfl rfl (by kernel_rfl) (by kernel_rfl) (by kernel_rfl) (fun _ _ _ h => h) ⟨Or.inl ⟨by rfl, fun w => by go_simp⟩, fun _ => rfl⟩ ?_
    try simp only [Act.put, List.setIfInBounds_toArray, List.set_cons_zero, List.set_cons_succ]
    refine wpAnyIn_take (i := 6) (v := .int .u32 (IntKind.u32.wrap (IntKind.u64.wrap ((Go.bits .or .u64 (IntKind.u64.wrap (rest * 4294967296)) (IntKind.u64.wrap l0[x.1])).tdiv (IntKind.u64.wrap a1))))) rfl rfl (by kernel_rfl) (by kernel_rfl) (by kernel_rfl) (fun _ _ _ h => h) ⟨Or.inl ⟨by rfl, fun w => by go_simp⟩, fun _ => rfl⟩ ?_
    try simp only [Act.put, List.setIfInBounds_toArray, List.set_cons_zero, List.set_cons_succ]
    refine wpAnyIn_ready (rs := [0, 8]) (by kernel_rfl) (by simp) ?_
    refine AllReadyIn.cons rfl (fun K hK => ?_) ?_
    ·go_simp
     refine hK _ _ ?_
     clear hK K
     refine wpAnyIn_take (i := 11) (v := .pointer (some ⟨g, x.1, none⟩)) rfl rfl (by kernel_rfl) (by kernel_rfl) (by kernel_rfl) (fun _ _ _ h => h) ⟨Or.inl ⟨by rfl, fun w => by go_simp⟩, fun _ => rfl⟩ ?_
     try simp only [Act.put, List.setIfInBounds_toArray, List.set_cons_zero, List.set_cons_succ]
     refine wpAnyIn_ready (rs := [8, 12]) (by kernel_rfl) (by simp) ?_
     refine AllReadyIn.cons rfl (fun K hK => ?_) ?_
     ·go_simp
      refine hK _ _ ?_
      clear hK K
      refine wpAnyIn_take (i := 9) (v := .int .u64 (IntKind.u64.wrap a1)) rfl rfl (by kernel_rfl) (by kernel_rfl) (by kernel_rfl) (fun _ _ _ h => h) ⟨Or.inl ⟨by rfl, fun w => by go_simp⟩, fun _ => rfl⟩ ?_
      try simp only [Act.put, List.setIfInBounds_toArray, List.set_cons_zero, List.set_cons_succ]
      refine wpAnyIn_take (i := 10) (v := .int .u64 ((Go.bits .or .u64 (IntKind.u64.wrap (rest * 4294967296)) (IntKind.u64.wrap l0[x.1])).tmod (IntKind.u64.wrap a1))) rfl rfl (by kernel_rfl) (by kernel_rfl) (by kernel_rfl) (fun _ _ _ h => h) ⟨Or.inl ⟨by rfl, fun w => by go_simp⟩, fun _ => rfl⟩ ?_
      try simp only [Act.put, List.setIfInBounds_toArray, List.set_cons_zero, List.set_cons_succ]
      refine wpAnyIn_ready (rs := [12]) (by kernel_rfl) (by simp) ?_
      refine AllReadyIn.cons rfl (fun K hK => ?_) AllReadyIn.nil
      go_simp
      refine hK _ _ ?_
      clear hK K
      refine wpAnyIn_ready (rs := [13]) (by kernel_rfl) (by simp) ?_
      refine AllReadyIn.cons rfl (fun K hK => ?_) AllReadyIn.nil
      go_simp
      refine hK _ _ ?_
      clear hK K
      refine wpAnyIn_done (by kernel_rfl) ?_ _
      first | exact rfl | (simp; done)
     refine AllReadyIn.cons rfl (fun K hK => ?_) AllReadyIn.nil
     go_simp
     refine hK _ _ ?_
     clear hK K
     refine wpAnyIn_ready (rs := [8]) (by kernel_rfl) (by simp) ?_
     refine AllReadyIn.cons rfl (fun K hK => ?_) AllReadyIn.nil
     go_simp
     refine hK _ _ ?_
     clear hK K
     refine wpAnyIn_take (i := 9) (v := .int .u64 (IntKind.u64.wrap a1)) rfl rfl (by kernel_rfl) (by kernel_rfl) (by kernel_rfl) (fun _ _ _ h => h) ⟨Or.inl ⟨by rfl, fun w => by go_simp⟩, fun _ => rfl⟩ ?_
     try simp only [Act.put, List.setIfInBounds_toArray, List.set_cons_zero, List.set_cons_succ]
     refine wpAnyIn_take (i := 10) (v := .int .u64 ((Go.bits .or .u64 (IntKind.u64.wrap (rest * 4294967296)) (IntKind.u64.wrap l0[x.1])).tmod (IntKind.u64.wrap a1))) rfl rfl (by kernel_rfl) (by kernel_rfl) (by kernel_rfl) (fun _ _ _ h => h) ⟨Or.inl ⟨by rfl, fun w => by go_simp⟩, fun _ => rfl⟩ ?_
     try simp only [Act.put, List.setIfInBounds_toArray, List.set_cons_zero, List.set_cons_succ]
     refine wpAnyIn_ready (rs := [13]) (by kernel_rfl) (by simp) ?_
     refine AllReadyIn.cons rfl (fun K hK => ?_) AllReadyIn.nil
     go_simp
     refine hK _ _ ?_
     clear hK K
     refine wpAnyIn_done (by kernel_rfl) ?_ _
     first | exact rfl | (simp; done)
    refine AllReadyIn.cons rfl (fun K hK => ?_) AllReadyIn.nil
    go_simp
    refine hK _ _ ?_
    clear hK K
    refine wpAnyIn_take (i := 9) (v := .int .u64 (IntKind.u64.wrap a1)) rfl rfl (by kernel_rfl) (by kernel_rfl) (by kernel_rfl) (fun _ _ _ h => h) ⟨Or.inl ⟨by rfl, fun w => by go_simp⟩, fun _ => rfl⟩ ?_
    try simp only [Act.put, List.setIfInBounds_toArray, List.set_cons_zero, List.set_cons_succ]
    refine wpAnyIn_take (i := 10) (v := .int .u64 ((Go.bits .or .u64 (IntKind.u64.wrap (rest * 4294967296)) (IntKind.u64.wrap l0[x.1])).tmod (IntKind.u64.wrap a1))) rfl rfl (by kernel_rfl) (by kernel_rfl) (by kernel_rfl) (fun _ _ _ h => h) ⟨Or.inl ⟨by rfl, fun w => by go_simp⟩, fun _ => rfl⟩ ?_
    try simp only [Act.put, List.setIfInBounds_toArray, List.set_cons_zero, List.set_cons_succ]
    refine wpAnyIn_ready (rs := [0]) (by kernel_rfl) (by simp) ?_
    refine AllReadyIn.cons rfl (fun K hK => ?_) AllReadyIn.nil
    go_simp
    refine hK _ _ ?_
    clear hK K
    refine wpAnyIn_take (i := 11) (v := .pointer (some ⟨g, x.1, none⟩)) rfl rfl (by kernel_rfl) (by kernel_rfl) (by kernel_rfl) (fun _ _ _ h => h) ⟨Or.inl ⟨by rfl, fun w => by go_simp⟩, fun _ => rfl⟩ ?_
    try simp only [Act.put, List.setIfInBounds_toArray, List.set_cons_zero, List.set_cons_succ]
    refine wpAnyIn_ready (rs := [12]) (by kernel_rfl) (by simp) ?_
    refine AllReadyIn.cons rfl (fun K hK => ?_) AllReadyIn.nil
    go_simp
    refine hK _ _ ?_
    clear hK K
    refine wpAnyIn_ready (rs := [13]) (by kernel_rfl) (by simp) ?_
    refine AllReadyIn.cons rfl (fun K hK => ?_) AllReadyIn.nil
    go_simp
    refine hK _ _ ?_
    clear hK K
    refine wpAnyIn_done (by kernel_rfl) ?_ _
    first | exact rfl | (simp; done)
   refine AllReadyIn.cons rfl (fun K hK => ?_) AllReadyIn.nil
   go_simp
   refine hK _ _ ?_
   clear hK K
   refine wpAnyIn_take (i := 9) (v := .int .u64 (IntKind.u64.wrap a1)) rfl rfl (by kernel_rfl) (by kernel_rfl) (by kernel_rfl) (fun _ _ _ h => h) ⟨Or.inl ⟨by rfl, fun w => by go_simp⟩, fun _ => rfl⟩ ?_
   try simp only [Act.put, List.setIfInBounds_toArray, List.set_cons_zero, List.set_cons_succ]
   refine wpAnyIn_take (i := 10) (v := .int .u64 ((Go.bits .or .u64 (IntKind.u64.wrap (rest * 4294967296)) (IntKind.u64.wrap l0[x.1])).tmod (IntKind.u64.wrap a1))) rfl rfl (by kernel_rfl) (by kernel_rfl) (by kernel_rfl) (fun _ _ _ h => h) ⟨Or.inl ⟨by rfl, fun w => by go_simp⟩, fun _ => rfl⟩ ?_
   try simp only [Act.put, List.setIfInBounds_toArray, List.set_cons_zero, List.set_cons_succ]
   refine wpAnyIn_ready (rs := [0, 3]) (by kernel_rfl) (by simp) ?_
   refine AllReadyIn.cons rfl (fun K hK => ?_) ?_
   ·go_simp
    refine hK _ _ ?_
    clear hK K
    refine wpAnyIn_ready (rs := [3]) (by kernel_rfl) (by simp) ?_
    refine AllReadyIn.cons rfl (fun K hK => ?_) AllReadyIn.nil
    go_simp
    refine hK _ _ ?_
    clear hK K
    refine wpAnyIn_take (i := 4) (v := .int .u64 (IntKind.u64.wrap a1)) rfl rfl (by kernel_rfl) (by kernel_rfl) (by kernel_rfl) (fun _ _ _ h => h) ⟨Or.inl ⟨by rfl, fun w => by go_simp⟩, fun _ => rfl⟩ ?_
    try simp only [Act.put, List.setIfInBounds_toArray, List.set_cons_zero, List.set_cons_succ]
    refine wpAnyIn_take (i := 5) (v := .int .u64 (IntKind.u64.wrap ((Go.bits .or .u64 (IntKind.u64.wrap (rest * 4294967296)) (IntKind.u64.wrap l0[x.1])).tdiv (IntKind.u64.wrap a1)))) rfl rfl (by kernel_rfl) (by kernel_rfl) (by kernel_rfl) (fun _ _ _ h => h) ⟨Or.inl ⟨by rfl, fun w => by go_simp⟩, fun _ => rfl⟩ ?_
    try simp only [Act.put, List.setIfInBounds_toArray, List.set_cons_zero, List.set_cons_succ]
    refine wpAnyIn_take (i := 6) (v := .int .u32 (IntKind.u32.wrap (IntKind.u64.wrap ((Go.bits .or .u64 (IntKind.u64.wrap (rest * 4294967296)) (IntKind.u64.wrap l0[x.1])).tdiv (IntKind.u64.wrap a1))))) rfl rfl (by kernel_rfl) (by kernel_rfl) (by kernel_rfl) (fun _ _ _ h => h) ⟨Or.inl ⟨by rfl, fun w => by go_simp⟩, fun _ => rfl⟩ ?_
    try simp only [Act.put, List.setIfInBounds_toArray, List.set_cons_zero, List.set_cons_succ]
    refine wpAnyIn_take (i := 11) (v := .pointer (some ⟨g, x.1, none⟩)) rfl rfl (by kernel_rfl) (by kernel_rfl) (by kernel_rfl) (fun _ _ _ h => h) ⟨Or.inl ⟨by rfl, fun w => by go_simp⟩, fun _ => rfl⟩ ?_
    try simp only [Act.put, List.setIfInBounds_toArray, List.set_cons_zero, List.set_cons_succ]
    refine wpAnyIn_ready (rs := [12]) (by kernel_rfl) (by simp) ?_
    refine AllReadyIn.cons rfl (fun K hK => ?_) AllReadyIn.nil
    go_simp
    refine hK _ _ ?_
    clear hK K
    refine wpAnyIn_ready (rs := [13]) (by kernel_rfl) (by simp) ?_
    refine AllReadyIn.cons rfl (fun K hK => ?_) AllReadyIn.nil
    go_simp
    refine hK _ _ ?_
    clear hK K
    refine wpAnyIn_done (by kernel_rfl) ?_ _
    first | exact rfl | (simp; done)
   refine AllReadyIn.cons rfl (fun K hK => ?_) AllReadyIn.nil
   go_simp
   refine hK _ _ ?_
   clear hK K
   refine wpAnyIn_take (i := 4) (v := .int .u64 (IntKind.u64.wrap a1)) rfl rfl (by kernel_rfl) (by kernel_rfl) (by kernel_rfl) (fun _ _ _ h => h) ⟨Or.inl ⟨by rfl, fun w => by go_simp⟩, fun _ => rfl⟩ ?_
   try simp only [Act.put, List.setIfInBounds_toArray, List.set_cons_zero, List.set_cons_succ]
   refine wpAnyIn_take (i := 5) (v := .int .u64 (IntKind.u64.wrap ((Go.bits .or .u64 (IntKind.u64.wrap (rest * 4294967296)) (IntKind.u64.wrap l0[x.1])).tdiv (IntKind.u64.wrap a1)))) rfl rfl (by kernel_rfl) (by kernel_rfl) (by kernel_rfl) (fun _ _ _ h => h) ⟨Or.inl ⟨by rfl, fun w => by go_simp⟩, fun _ => rfl⟩ ?_
   try simp only [Act.put, List.setIfInBounds_toArray, List.set_cons_zero, List.set_cons_succ]
   refine wpAnyIn_take (i := 6) (v := .int .u32 (IntKind.u32.wrap (IntKind.u64.wrap ((Go.bits .or .u64 (IntKind.u64.wrap (rest * 4294967296)) (IntKind.u64.wrap l0[x.1])).tdiv (IntKind.u64.wrap a1))))) rfl rfl (by kernel_rfl) (by kernel_rfl) (by kernel_rfl) (fun _ _ _ h => h) ⟨Or.inl ⟨by rfl, fun w => by go_simp⟩, fun _ => rfl⟩ ?_
   try simp only [Act.put, List.setIfInBounds_toArray, List.set_cons_zero, List.set_cons_succ]
   refine wpAnyIn_ready (rs := [0]) (by kernel_rfl) (by simp) ?_
   refine AllReadyIn.cons rfl (fun K hK => ?_) AllReadyIn.nil
   go_simp
   refine hK _ _ ?_
   clear hK K
   refine wpAnyIn_take (i := 11) (v := .pointer (some ⟨g, x.1, none⟩)) rfl rfl (by kernel_rfl) (by kernel_rfl) (by kernel_rfl) (fun _ _ _ h => h) ⟨Or.inl ⟨by rfl, fun w => by go_simp⟩, fun _ => rfl⟩ ?_
   try simp only [Act.put, List.setIfInBounds_toArray, List.set_cons_zero, List.set_cons_succ]
   refine wpAnyIn_ready (rs := [12]) (by kernel_rfl) (by simp) ?_
   refine AllReadyIn.cons rfl (fun K hK => ?_) AllReadyIn.nil
   go_simp
   refine hK _ _ ?_
   clear hK K
   refine wpAnyIn_ready (rs := [13]) (by kernel_rfl) (by simp) ?_
   refine AllReadyIn.cons rfl (fun K hK => ?_) AllReadyIn.nil
   go_simp
   refine hK _ _ ?_
   clear hK K
   refine wpAnyIn_done (by kernel_rfl) ?_ _
   first | exact rfl | (simp; done)
 case done =>
  rintro D ys W hD rfl ⟨⟨hR, hb7⟩, hKp, hBw⟩ hK
  rw [nat_short.fold_down l0 a1 _ (Nat.le_refl _)] at hR hb7
  have b6 : Boxed W s1 _ _ := (hKp.2 s1 (by omega) (by omega) (by omega)).trans bN6
  have h6c := b6.cell
  have h7c := hb7.cell
  have hV : Kd.V (Kd.int .u32) 87 W W.heap.size (fun q_ => some q_ = some g) (.slice (some ⟨g, 0, none⟩) (nat_short.run l0 a1 l0.length).1.length cap) (nat_short.run l0 a1 l0.length).1 := by
   rw [nat_short.run_length]
   exact Kd.R_V hR
  have hrl := nat_short.run_length l0 a1 l0.length
  go_wp2
  refine (wpIn_wide (n := 4)).1 ?_
  refine Code.wpIn_mono (Q := nat_short.endsAt (fun a W' => ∃ A9 c9 w9, a.defers = [{ target := .collected D, args := #[] }] ∧ a.tmps.getD 4 undef = .slice A9 t.length c9 ∧ a.tmps.getD 5 undef = .int .u32 (IntKind.u32.wrap (nat_short.run l0 a1 l0.length).2) ∧ W' = w9 ∧ Kd.V (Kd.int .u32) 87 w9 W.drew.heap.size (fun q_ => some q_ = some g ∨ W.drew.heap.size ≤ q_) (.slice A9 t.length c9) t ∧ Below W.drew.heap.size W.drew w9)) ?_ ?_
  ·intro e a W5 h5
   cases e with
   | normal =>
    obtain ⟨A9, c9, w9, hd9, h4, h5, rfl, hv9, hb9⟩ := h5
    obtain ⟨tm, df⟩ := a
    dsimp only at hd9 h4 h5
    subst hd9
    go_wp2
    have hDl : D < W.drew.heap.size := (Array.getElem?_eq_some_iff.1 hK).1
    have hKD : W5.heap[D]? = some (.deferred (some [])) := (hb9.block D hDl).trans hK
    refine ⟨by simp, .inl ⟨_, _, rfl, run_takeDeferred hKD, ?_⟩⟩
    refine ⟨.tuple #[.slice A9 t.length c9, .int .u32 (IntKind.u32.wrap (nat_short.run l0 a1 l0.length).2)], ?_, .slice A9 t.length c9, rfl, ?_, ?_⟩
    ·have h4' : tm[4]?.getD undef = .slice A9 t.length c9 := by simpa using h4
     have h5' : tm[5]?.getD undef = .int .u32 (IntKind.u32.wrap (nat_short.run l0 a1 l0.length).2) := by simpa using h5
     simp [results, Try.f77, go_sem, h4, h5, h4', h5']
    ·have hszW : W4.heap.size ≤ W.drew.heap.size := hKp.1
     exact Kd.V_mono (Kd.V_grown hv9 (grownBy_putObj' _ D (.deferred none)) (fun k_ hk e => by
      cases e
      rcases hk with hk | hk
      ·cases hk
       omega
      ·omega)) (fun k_ hk => by
      rcases hk with hk | hk
      ·cases hk
       omega
      ·omega)
    ·have hBd : Below w.heap.size w W.drew := below_drew hBw
     exact (hBd.trans (hb9.mono hBd.size)).trans (belowK_b (w := w) (Nat.le_refl _) _ D _ _ (Nat.le_trans hB4.size hD) hKD rfl rfl)
   | _ => exact h5.elim
  ·have hcall := nat_trim.calls k (fun q_ => some q_ = some g) _ _ _ t _ (Kd.V_drew hV) ht
   rw [hrl] at hcall
   clear hr0 hc0 hlen ht hb1 hg1 hg ho2 bD1 hB1 bD4 hR4 hB4 hglt hs1 bN6 hsz4 bN7 bNI hx4 hKr hKp hBw hR b6 hV hrl
   generalize (nat_short.run l0 a1 l0.length).2 = rest at *
   refine wpIn_region_any (by kernel_rfl) ?_
   change wpAnyIn _ _ _ _ _ _ _ _ _ (World.drew _)
   refine wpAnyIn_ready (rs := [0, 2]) (by kernel_rfl) (by simp) ?_
   refine AllReadyIn.cons rfl (fun K hK => ?_) ?_
   ·go_simp
    refine hK _ _ ?_
    clear hK K
    refine wpAnyIn_ready (rs := [1, 2]) (by kernel_rfl) (by simp) ?_
    refine AllReadyIn.cons rfl (fun K hK => ?_) ?_
    ·go_simp
     refine ⟨trivial, ?_⟩
     gi_at_call 81
     refine (callsIn_wide.2 hcall).mono ?_
     rintro e w9 ⟨v9, rfl, ho9, hb9⟩
     obtain ⟨A9, c9, rfl⟩ := Kd.V_slice ho9
     have b79 : Boxed w9 _ _ _ := (hb9.block _ hb7.lt).trans hb7
     have h79 := b79.cell
     refine hK _ _ ?_
     clear hK K
     refine wpAnyIn_take (i := 4) (v := .slice A9 t.length c9) rfl rfl (by kernel_rfl) (by kernel_rfl) (by kernel_rfl) (fun _ _ _ h => h) ⟨Or.inl ⟨by rfl, fun w => by go_simp⟩, fun _ => rfl⟩ ?_
     try simp only [Act.put, List.setIfInBounds_toArray, List.set_cons_zero, List.set_cons_succ]
     refine wpAnyIn_ready (rs := [2]) (by kernel_rfl) (by simp) ?_
     refine AllReadyIn.cons rfl (fun K hK => ?_) AllReadyIn.nil
     go_simp
     refine hK _ _ ?_
     clear hK K
     refine wpAnyIn_take (i := 3) (v := .int .u32 (IntKind.u32.wrap rest)) rfl rfl (by kernel_rfl) (by kernel_rfl) (by kernel_rfl) (fun _ _ _ h => h) ⟨Or.inl ⟨by rfl, fun w => by go_simp⟩, fun _ => rfl⟩ ?_
     try simp only [Act.put, List.setIfInBounds_toArray, List.set_cons_zero, List.set_cons_succ]
     refine wpAnyIn_ready (rs := [5]) (by kernel_rfl) (by simp) ?_
     refine AllReadyIn.cons rfl (fun K hK => ?_) AllReadyIn.nil
     go_simp
     refine hK _ _ ?_
     clear hK K
     refine wpAnyIn_done (by kernel_rfl) ?_ _
     exact ⟨A9, c9, w9, rfl, rfl, rfl, rfl, ho9, hb9⟩
    refine AllReadyIn.cons rfl (fun K hK => ?_) AllReadyIn.nil
    go_simp
    refine hK _ _ ?_
    clear hK K
    refine wpAnyIn_take (i := 3) (v := .int .u32 (IntKind.u32.wrap rest)) rfl rfl (by kernel_rfl) (by kernel_rfl) (by kernel_rfl) (fun _ _ _ h => h) ⟨Or.inl ⟨by rfl, fun w => by go_simp⟩, fun _ => rfl⟩ ?_
    try simp only [Act.put, List.setIfInBounds_toArray, List.set_cons_zero, List.set_cons_succ]
    refine wpAnyIn_ready (rs := [1]) (by kernel_rfl) (by simp) ?_
    refine AllReadyIn.cons rfl (fun K hK => ?_) AllReadyIn.nil
    go_simp
    refine ⟨trivial, ?_⟩
    gi_at_call 81
    refine (callsIn_wide.2 hcall).mono ?_
    rintro e w9 ⟨v9, rfl, ho9, hb9⟩
    obtain ⟨A9, c9, rfl⟩ := Kd.V_slice ho9
    have b79 : Boxed w9 _ _ _ := (hb9.block _ hb7.lt).trans hb7
    have h79 := b79.cell
    refine hK _ _ ?_
    clear hK K
    refine wpAnyIn_take (i := 4) (v := .slice A9 t.length c9) rfl rfl (by kernel_rfl) (by kernel_rfl) (by kernel_rfl) (fun _ _ _ h => h) ⟨Or.inl ⟨by rfl, fun w => by go_simp⟩, fun _ => rfl⟩ ?_
    try simp only [Act.put, List.setIfInBounds_toArray, List.set_cons_zero, List.set_cons_succ]
    refine wpAnyIn_ready (rs := [5]) (by kernel_rfl) (by simp) ?_
    refine AllReadyIn.cons rfl (fun K hK => ?_) AllReadyIn.nil
    go_simp
    refine hK _ _ ?_
    clear hK K
    refine wpAnyIn_done (by kernel_rfl) ?_ _
    exact ⟨A9, c9, w9, rfl, rfl, rfl, rfl, ho9, hb9⟩
   refine AllReadyIn.cons rfl (fun K hK => ?_) AllReadyIn.nil
   go_simp
   refine hK _ _ ?_
   clear hK K
   refine wpAnyIn_take (i := 3) (v := .int .u32 (IntKind.u32.wrap rest)) rfl rfl (by kernel_rfl) (by kernel_rfl) (by kernel_rfl) (fun _ _ _ h => h) ⟨Or.inl ⟨by rfl, fun w => by go_simp⟩, fun _ => rfl⟩ ?_
   try simp only [Act.put, List.setIfInBounds_toArray, List.set_cons_zero, List.set_cons_succ]
   refine wpAnyIn_ready (rs := [0]) (by kernel_rfl) (by simp) ?_
   refine AllReadyIn.cons rfl (fun K hK => ?_) AllReadyIn.nil
   go_simp
   refine hK _ _ ?_
   clear hK K
   refine wpAnyIn_ready (rs := [1]) (by kernel_rfl) (by simp) ?_
   refine AllReadyIn.cons rfl (fun K hK => ?_) AllReadyIn.nil
   go_simp
   refine ⟨trivial, ?_⟩
   gi_at_call 81
   refine (callsIn_wide.2 hcall).mono ?_
   rintro e w9 ⟨v9, rfl, ho9, hb9⟩
   obtain ⟨A9, c9, rfl⟩ := Kd.V_slice ho9
   have b79 : Boxed w9 _ _ _ := (hb9.block _ hb7.lt).trans hb7
   have h79 := b79.cell
   refine hK _ _ ?_
   clear hK K
   refine wpAnyIn_take (i := 4) (v := .slice A9 t.length c9) rfl rfl (by kernel_rfl) (by kernel_rfl) (by kernel_rfl) (fun _ _ _ h => h) ⟨Or.inl ⟨by rfl, fun w => by go_simp⟩, fun _ => rfl⟩ ?_
   try simp only [Act.put, List.setIfInBounds_toArray, List.set_cons_zero, List.set_cons_succ]
   refine wpAnyIn_ready (rs := [5]) (by kernel_rfl) (by simp) ?_
   refine AllReadyIn.cons rfl (fun K hK => ?_) AllReadyIn.nil
   go_simp
   refine hK _ _ ?_
   clear hK K
   refine wpAnyIn_done (by kernel_rfl) ?_ _
   exact ⟨A9, c9, w9, rfl, rfl, rfl, rfl, ho9, hb9⟩
 case stop =>
  rintro D c pre W _ _ h _
  exact h.elim

end Go.Proofs.Ytjpnaapimnoamaa.QBigGcds
