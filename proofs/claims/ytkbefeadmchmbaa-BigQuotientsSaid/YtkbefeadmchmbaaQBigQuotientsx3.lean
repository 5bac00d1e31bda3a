-- written by wip/wprint, a program of this session
import Derived.Test.YtkbefeadmchmbaaQBigQuotientsx0
import Derived.Test.YtkbefeadmchmbaaQBigQuotientsx1
namespace Go.Proofs.Ytkbefeadmchmbaa.QBigQuotients
open Go.RowKit Go.Proofs.YtkbefeadmchmbaaW.PrintWords Go.Proofs.YtkbefeadmchmbaaW.PrintLast Go.Proofs.YtkbefeadmchmbaaW.PrintMore
open Go.Proofs.YtkbefeadmchmbaaW.PrintWords.Kd renaming R_alloc → qa, R_drewN → qn, R_drew → qd
open Go.Proofs.YtkbefeadmchmbaaW.PrintWords renaming below_alloc → ba, pw_below_drewN → bn, below_drew1 → bd
attribute [local go_sem] max2_int min2_int max_two min_two max_three min_three max_four min_four   -- for this text's walks alone
set_option linter.unusedVariables false
set_option linter.unusedSimpArgs false

/-! ### nat_short: function 43 -/
attribute [local go_sem] Oper.semAt_some
def nat_short.t (a1 rest x : Int) : Int := Go.bits .or .u64 (IntKind.u64.wrap (rest * 4294967296)) (IntKind.u64.wrap x)
/-- The quotient's row and the rest when k limbs, the highest first, have been taken. -/
def nat_short.run (l : List Int) (a1 : Int) : Nat → List Int × Int
  | 0 => (List.replicate l.length 0, 0)
  | k + 1 => ((nat_short.run l a1 k).1.set (l.length - 1 - k) (IntKind.u32.wrap (IntKind.u64.wrap (Int.tdiv (nat_short.t a1 (nat_short.run l a1 k).2 (l[l.length - 1 - k]?.getD 0)) (IntKind.u64.wrap a1)))),
      Int.tmod (nat_short.t a1 (nat_short.run l a1 k).2 (l[l.length - 1 - k]?.getD 0)) (IntKind.u64.wrap a1))
theorem nat_short.run_length (l : List Int) (a1 : Int) : ∀ k, (nat_short.run l a1 k).1.length = l.length
  | 0 => by simp [nat_short.run]
  | k + 1 => by simp [nat_short.run, nat_short.run_length l a1 k]
/-- The same over the places that have come. -/
def nat_short.fold (l : List Int) (a1 : Int) (pre : List (Fin l.length)) : List Int × Int :=
  pre.foldl (fun s x => (s.1.set x.1 (IntKind.u32.wrap (IntKind.u64.wrap (Int.tdiv (nat_short.t a1 s.2 (l[x.1]?.getD 0)) (IntKind.u64.wrap a1)))), Int.tmod (nat_short.t a1 s.2 (l[x.1]?.getD 0)) (IntKind.u64.wrap a1))) (List.replicate l.length 0, 0)
theorem nat_short.fold_snoc (l : List Int) (a1 : Int) (pre : List (Fin l.length)) (x : Fin l.length) : nat_short.fold l a1 (pre ++ [x]) = ((nat_short.fold l a1 pre).1.set x.1 (IntKind.u32.wrap (IntKind.u64.wrap (Int.tdiv (nat_short.t a1 (nat_short.fold l a1 pre).2 (l[x.1]?.getD 0)) (IntKind.u64.wrap a1)))), Int.tmod (nat_short.t a1 (nat_short.fold l a1 pre).2 (l[x.1]?.getD 0)) (IntKind.u64.wrap a1)) := by
  simp [nat_short.fold]
theorem nat_short.fold_length' {n : Nat} (f : List Int → Int → Fin n → Int × Int) : ∀ (pre : List (Fin n)) (s : List Int × Int), (pre.foldl (fun s x => (s.1.set x.1 (f s.1 s.2 x).1, (f s.1 s.2 x).2)) s).1.length = s.1.length
  | [], _ => rfl
  | x :: pre, s => by
    rw [List.foldl_cons, nat_short.fold_length' f pre]
    simp
theorem nat_short.fold_length (l : List Int) (a1 : Int) (pre : List (Fin l.length)) : (nat_short.fold l a1 pre).1.length = l.length := by
  have h := nat_short.fold_length' (fun _ r x => (IntKind.u32.wrap (IntKind.u64.wrap (Int.tdiv (nat_short.t a1 r (l[x.1]?.getD 0)) (IntKind.u64.wrap a1))), Int.tmod (nat_short.t a1 r (l[x.1]?.getD 0)) (IntKind.u64.wrap a1))) pre (List.replicate l.length 0, 0)
  simpa [nat_short.fold] using h
theorem nat_short.fold_down (l : List Int) (a1 : Int) : ∀ k, k ≤ l.length → nat_short.fold l a1 (nat_limbs.down l.length k) = nat_short.run l a1 k
  | 0, _ => rfl
  | k + 1, h => by
    have hm : (l.length - 1 - k) + 1 + k = l.length := by omega
    rw [nat_limbs.down_succ hm, nat_short.fold_snoc, nat_short.fold_down l a1 k (by omega)]
    rfl
theorem nat_short.own {w1 : World} {base m n : Nat} {ok : Nat → Prop} {v : Value} {xs : List Int} (hl : xs.length = n) (ho : Kd.R (Kd.int .u32) 70 w1 base ok v xs) (hn : ∃ b, v.ownBlock = some b ∧ m ≤ b) : ∃ g cap, v = .slice (some ⟨g, 0, none⟩) n cap ∧ m ≤ g ∧ g < w1.heap.size := by
  rcases (Kd.own_of_R ho).2 with ⟨rfl, _⟩ | ⟨g, cap, cur, rfl, hg, hh, hrr⟩
  · obtain ⟨b, hb, _⟩ := hn
    simp [Value.ownBlock] at hb
  · obtain ⟨b, hb, hm⟩ := hn
    obtain rfl : g = b := by simpa [Value.ownBlock] using hb
    exact ⟨g, cap, by rw [hl], hm, (Array.getElem?_eq_some_iff.1 hh).1⟩
/-- What lay at n and below lies as it lay, but for two blocks. -/
def nat_short.Kp (n g b : Nat) (A B : World) : Prop := A.heap.size ≤ B.heap.size ∧ ∀ j, j < n → j ≠ g → j ≠ b → B.heap[j]? = A.heap[j]?
theorem nat_short.Kp.trans {n g b : Nat} {A B C : World} (h : nat_short.Kp n g b A B) (h' : nat_short.Kp n g b B C) : nat_short.Kp n g b A C := ⟨Nat.le_trans h.1 h'.1, fun j h1 h2 h3 => (h'.2 j h1 h2 h3).trans (h.2 j h1 h2 h3)⟩
theorem nat_short.Kp.putObj {n g b l : Nat} {W : World} {o o' : Obj} (hl : n ≤ l) (ho : W.heap[l]? = some o) (hc : o.isCells = false) : nat_short.Kp n g b W (W.putObj l o') := by
  have hg := grownBy_putObj' W l o'
  exact ⟨hg.size, fun j h1 _ _ => by
    by_cases hj : j < W.heap.size
    · exact hg.block j hj (fun e => by cases e; omega)
    · have := (Array.getElem?_eq_some_iff.1 ho).1
      omega⟩
theorem nat_short.Kp.own {β : Type} {g b : Nat} {W4 : World} : OwnFrom W4.heap.size (fun (_ : β) W => nat_short.Kp W4.heap.size g b W4 W) := fun s A B row hs hg hr =>
  hs.trans ⟨hg.size, fun j h1 _ _ => hg.block j (Nat.lt_of_lt_of_le h1 hs.1) (fun e => by have := (hr j e.symm).1; omega)⟩
theorem nat_short.moved {A B : World} {row : Option Nat} {base g n cap b : Nat} {t : TypeId} {v : Value} {xs : List Int} (hs : Kd.R (Kd.int .u32) 70 A base (fun k => some k = some g) (.slice (some ⟨g, 0, none⟩) n cap) xs ∧ Boxed A b t v) (hg : A.grownBy B row) (hr : ∀ r, row = some r → ∃ o : Obj, A.heap[r]? = some o ∧ o.isCells = false) :
    Kd.R (Kd.int .u32) 70 B base (fun k => some k = some g) (.slice (some ⟨g, 0, none⟩) n cap) xs ∧ Boxed B b t v := by
  refine ⟨Kd.R_grown hs.1 hg (fun k hk e => ?_), hs.2.kept hg (fun e => ?_)⟩
  · obtain ⟨o, ho, hc⟩ := hr k e.symm
    obtain ⟨cells, hcells⟩ := own_typed (Kd.own_of_R hs.1) k (by simpa [Value.ownBlock] using hk.symm); rw [hcells] at ho
    cases ho
    simp [Obj.isCells] at hc
  · obtain ⟨o, ho, hc⟩ := hr b e.symm
    have hb : A.heap[b]? = _ := hs.2; rw [hb] at ho
    cases ho
    simp [Obj.isCells] at hc
def nat_short.endsAt (R : Act → World → Prop) : Exit → Act → World → Prop
  | .normal, a, W => R a W
  | _, _, _ => False
def nat_short.endsIn (R : World → Prop) : Exit → Act → World → Prop
  | .normal, _, W => R W
  | _, _, _ => False
/-- In a round, too: no operation is a defer statement. -/
theorem nat_short.round {n l : Nat} {P : Program} {md : Region.Mode} {ops : Array Oper} {Q : Exit → Act → World → Prop} (hno : (ops.all fun o => match o.op with | .defer _ => false | _ => true) = true) :
    ∀ {fuel : Nat} {listed : Array Bool} {a : Act} {w : World}, wpAnyIn Fence.wide n P md ops Q fuel listed a w → wpAnyIn (Fence.wide.inRound l) n P md ops Q fuel listed a w
  | 0, _, _, _, h => h
  | fuel + 1, listed, a, w, h => by
    refine ⟨h.1, fun i hi => ?_⟩; have h2 := h.2 i hi
    unfold wpOpIn at h2 ⊢
    cases ho : ops[i]? with
    | none =>
      rw [ho] at h2; exact nat_short.round hno h2
    | some o =>
      rw [ho] at h2; dsimp only at h2 ⊢
      have hd : ∀ c, o.op ≠ .defer c := fun c e => by
        have h3 := Array.all_eq_true'.1 hno o (Array.mem_of_getElem? ho); rw [e] at h3; exact absurd h3 (by simp)
      split
      · rename_i hw
        rw [if_pos hw] at h2; have h4 := Oper.wpIn_mono (fun a w h => nat_short.round (l := l) hno h) h2
        unfold Oper.wpIn at h4 ⊢
        rw [Oper.semAt_eq _ _ _ hd] at h4 ⊢; exact h4
      · rename_i hw
        rw [if_neg hw] at h2; exact ⟨h2.1, nat_short.round hno h2.2⟩
def nat_short.f (k : Nat) (l0 : List Int) (a1 : Int) : Option (List Int × Int) :=
  if l0.length ≤ 70368744177664 then (if IntKind.u64.wrap a1 = 0 then none else ((nat_trim.f k (nat_short.run l0 a1 l0.length).1).bind fun t => some (t, IntKind.u32.wrap (nat_short.run l0 a1 l0.length).2))) else none
theorem nat_short.mono : ∀ a0 a1 k, LeO (nat_short.f k a0 a1) (nat_short.f (k + 1) a0 a1) := by
  intro a0 a1 k
  unfold nat_short.f
  exact LeO.ite (LeO.ite (LeO.refl _) (LeO.bind (nat_trim.mono _ _) (fun _ => LeO.refl _))) (LeO.refl _)
set_option maxHeartbeats 8000000 in
set_option maxRecDepth 100000 in
theorem nat_short.calls (k : Nat) (A0 : Option Addr) (c0 : Nat) (l0 : List Int) (a1 : Int) (r1 : List Int) (r2 : Int) (w : World) (hr0 : Kd.C (Kd.int .u32) w A0 l0.length l0) (hc0 : l0.length ≤ c0) (h : nat_short.f k l0 a1 = some (r1, r2)) :
    Calls Try.prog 43 #[.slice A0 l0.length c0, .int .u32 a1] w fun e w' => ∃ v0_ : Value, e = .returned (.tuple #[v0_, .int .u32 r2]) ∧ Kd.V (Kd.int .u32) 70 w' w.heap.size (fun k_ => w.heap.size ≤ k_) v0_ r1 ∧ Below w.heap.size w w' := by
  unfold nat_short.f at h
  by_cases hlen : l0.length ≤ 70368744177664
  rotate_left
  · rw [if_neg hlen] at h
    exact absurd h (by simp)
  rw [if_pos hlen] at h
  by_cases hz : IntKind.u64.wrap a1 = 0
  · rw [if_pos hz] at h
    exact absurd h (by simp)
  rw [if_neg hz] at h; obtain ⟨t, ht, h⟩ := Option.bind_eq_some_iff.mp h; have hr := Option.some.inj h; clear h; obtain ⟨rfl, rfl⟩ := Prod.mk.inj hr; clear hr; refine (callsIn_wide (n := 4)).1 ?_; refine callsIn_of_wp_marks Try.func43 rfl trivial ?_ rfl; simp only [Try.ntmps43, List.size_toArray, List.length_cons, List.length_nil, Nat.reduceAdd, Nat.reduceSub, Array.replicate_succ, Array.replicate_zero, List.push_toArray, List.append_toArray, List.nil_append, List.cons_append]; refine wpIn_wide.2 ?_
  go_wp2_with (first | ((with_reducible refine gate_dst (N := 13) rfl ?_); (try (refine gate_guard (by rfl) ?_; dsimp only)); refine Kd.R_make (Kd.int .u32) _ 70 rfl (N := 13) rfl 22 _ _ rfl (l0.length : Int) rfl rfl Try.underlying22 (.int .u32 0) 4 info70 rfl (by decide) (by omega) 0 (ok := fun _ => True) (okp := fun _ => True) rfl (fun _ hk => hk) trivial (by omega) (by omega) (Below.refl _ _) (Nat.le_refl _) ?_; intro v1 w1 ho1 hb1 hg1 hnew1; have ho2 : Kd.R (Kd.int .u32) 70 w1 _ (fun _ => True) v1 (nat_short.fold l0 a1 []).1 := ho1; clear ho1; obtain ⟨g, cap, hv, hg, hglt⟩ := nat_short.own (nat_short.fold_length l0 a1 []) ho2 hnew1; subst hv; clear hnew1))
  rw [World.size_alloc] at hg
  have hs1 : w.heap.size + 1 ≤ w1.heap.size := by have := hb1.size; rw [World.size_alloc] at this; exact this
  have bD1 : Boxed w1 w.heap.size 70 (.int .u32 a1) := (hb1.block w.heap.size (by rw [World.size_alloc]; omega)).trans (Boxed.new w 70 (.int .u32 a1)); have hB1 : Below w.heap.size w w1 := ((Below.refl _ w).alloc (Nat.le_refl _) _).trans (hb1.mono (by rw [World.size_alloc]; omega)); refine (callsIn_wide.1 (nat_limbs_in Fence.wide 4 trivial rfl _ _ _ _)).mono ?_; rintro e w' ⟨rfl, rfl⟩; have bN6 := ((Boxed.new w1 22 (.slice (some ⟨g, 0, none⟩) l0.length cap)).alloc (.cells #[.int .u64 0] 62)).alloc (.cells #[.slice A0 l0.length c0] 22); have bN7 := (Boxed.new (w1.alloc (.cells #[.slice (some ⟨g, 0, none⟩) l0.length cap] 22)) 62 (.int .u64 0)).alloc (.cells #[.slice A0 l0.length c0] 22); have bNI := Boxed.new ((w1.alloc (.cells #[.slice (some ⟨g, 0, none⟩) l0.length cap] 22)).alloc (.cells #[.int .u64 0] 62)) 22 (.slice A0 l0.length c0); have bD4 := ((bD1.alloc (.cells #[.slice (some ⟨g, 0, none⟩) l0.length cap] 22)).alloc (.cells #[.int .u64 0] 62)).alloc (.cells #[.slice A0 l0.length c0] 22); have hR4 := Kd.R_alloc (Kd.R_alloc (Kd.R_alloc (Kd.R_tight rfl ho2) (.cells #[.slice (some ⟨g, 0, none⟩) l0.length cap] 22)) (.cells #[.int .u64 0] 62)) (.cells #[.slice A0 l0.length c0] 22); have hB4 : Below w.heap.size w (((w1.alloc (.cells #[.slice (some ⟨g, 0, none⟩) l0.length cap] 22)).alloc (.cells #[.int .u64 0] 62)).alloc (.cells #[.slice A0 l0.length c0] 22)) := ((hB1.alloc (by omega) _).alloc (by simp; omega) _).alloc (by simp; omega) _
  have hsz4 : (((w1.alloc (.cells #[.slice (some ⟨g, 0, none⟩) l0.length cap] 22)).alloc (.cells #[.int .u64 0] 62)).alloc (.cells #[.slice A0 l0.length c0] 22)).heap.size = w1.heap.size + 3 := by simp
  simp only [World.size_alloc] at bN7 bNI ⊢; generalize (((w1.alloc (.cells #[.slice (some ⟨g, 0, none⟩) l0.length cap] 22)).alloc (.cells #[.int .u64 0] 62)).alloc (.cells #[.slice A0 l0.length c0] 22)) = W4 at *; generalize w1.heap.size = s1 at *; have hx4 := (nat_limbs.At.of hr0).below hB4
  go_wp2
  refine (wpIn_wide (n := 4)).1 ?_; have hKr : ∀ A : World, nat_short.Kp W4.heap.size g (s1 + 1) A A := fun A => ⟨Nat.le_refl _, fun _ _ _ _ => rfl⟩
  refine wpIn_rangeFunc_ownG rfl (by omega) (gf := 66) (lb := #[.pointer (some ⟨s1 + 1 + 1, 0, none⟩)]) rfl trivial (enters_of Try.func66 (by kernel_rfl) rfl)
    (nat_limbs_stops Fence.wide 3 trivial rfl (by omega) (s1 + 1 + 1) w.heap.size c0 A0 l0 (by omega) (nat_short.Kp W4.heap.size g (s1 + 1)) hKr (fun h h' => h.trans h') (fun h p hp => World.cell?_of_block (h.2 p.block (by omega) (by omega) (by omega))) W4 (by omega) (by omega) bNI.cell hx4)
    (fun h h' => h.trans h') (fun W l o o' hl ho hc hw => nat_short.Kp.putObj hl ho hc) (Below.refl _ _) (fun _ => rfl)
    (fun pre W => (Kd.R (Kd.int .u32) 70 W (w.heap.size + 1) (fun k => some k = some g) (.slice (some ⟨g, 0, none⟩) l0.length cap) (nat_short.fold l0 a1 pre).1 ∧ Boxed W (s1 + 1) 62 (.int .u64 (nat_short.fold l0 a1 pre).2)) ∧ nat_short.Kp W4.heap.size g (s1 + 1) W4 W ∧ Below w.heap.size w W)
    (fun _ _ _ => False)
    (OwnFrom.and (fun s A B row hs hg hr => nat_short.moved hs hg (fun r e => (hr r e).2)) (OwnFrom.and nat_short.Kp.own (ownFrom_below (Nat.le_refl _) (by omega))))
    (fun _ _ _ _ _ hs _ _ => hs)
    ⟨⟨by rw [World.size_alloc] at hR4; exact hR4, bN7⟩, hKr _, hB4⟩
    (fun x => { tmps := #[.slice A0 l0.length c0, .int .u32 a1, undef, .pointer (some ⟨w.heap.size, 0, none⟩), .slice none 0 0, .int .u32 0, .pointer (some ⟨s1, 0, none⟩), .pointer (some ⟨s1 + 1, 0, none⟩), .int .i64 (x.1 : Int), .int .u32 (l0[x.1]?.getD 0), undef, .slice A0 l0.length c0, .int .i64 l0.length, .slice (some ⟨g, 0, none⟩) l0.length cap, .slice A0 l0.length c0, .func (.func 66) #[] #[.pointer (some ⟨s1 + 1 + 1, 0, none⟩)], .int .i64 (x.1 : Int), .int .u32 (l0[x.1]?.getD 0), undef, undef, undef, undef, undef, undef, undef, undef, undef, undef, undef, undef, undef, undef, undef, undef, undef, undef, undef, undef, undef], defers := [] }) ?assign ?body ?done ?stop
  case assign =>
    intro l x W K hK
    have hgx : l0[x.1]?.getD 0 = l0[x.1] := by simp
    dsimp only at hK; rw [hgx] at hK
    gi_wp2
    exact hK
  case body =>
    rintro l pre x W ⟨⟨hR, hb7⟩, hKp, hBw⟩ _; have hlp := nat_short.fold_length l0 a1 pre; have hx2 := x.2; obtain ⟨hqc, hqf⟩ := Kd.R_celln 0 hR (x.1 : Int) (by omega) (by omega); rw [Int.toNat_natCast] at hqc hqf; have b6 : Boxed W s1 _ _ := (hKp.2 s1 (by omega) (by omega) (by omega)).trans bN6; have bD : Boxed W w.heap.size _ _ := (hKp.2 w.heap.size (by omega) (by omega) (by omega)).trans bD4; have h6c := b6.cell; have hDc := bD.cell; have h7c := hb7.cell; have h7f := hb7.frozen
    have hne1 : ¬ g = w.heap.size := by omega
    have hne2 : ¬ w.heap.size = g := by omega
    have hne3 : ¬ s1 + 1 = g := by omega
    have hne4 : ¬ g = s1 + 1 := by omega
    gi_wp2
    refine Code.wpIn_mono (Q := nat_short.endsIn (fun W' => W' = (W.drew.setCell ⟨g, x.1, none⟩ (.int .u32 (IntKind.u32.wrap (IntKind.u64.wrap ((Go.bits .or .u64 (IntKind.u64.wrap ((nat_short.fold l0 a1 pre).2 * 4294967296)) (IntKind.u64.wrap l0[x.1])).tdiv (IntKind.u64.wrap a1)))))).setCell ⟨s1 + 1, 0, none⟩ (.int .u64 ((Go.bits .or .u64 (IntKind.u64.wrap ((nat_short.fold l0 a1 pre).2 * 4294967296)) (IntKind.u64.wrap l0[x.1])).tmod (IntKind.u64.wrap a1))))) ?_ ?_
    · intro e a W5 h5
      cases e with
      | normal =>
        cases (show W5 = _ from h5)
        have hgx : l0[x.1]?.getD 0 = l0[x.1] := by simp
        refine ⟨((KeepsOthers.drew W).trans ((KeepsOthers.setCell _ _ _).trans (KeepsOthers.setCell _ _ _))).from _, ⟨((KeepsOthers.drew W).trans ((KeepsOthers.setCell _ _ _).trans (KeepsOthers.setCell _ _ _))).size, fun j h1 h2 h3 => (Below.heap_setCell _ _ _ _ (by exact h3)).trans (Below.heap_setCell _ _ _ _ (by exact h2))⟩, ⟨?_, ?_⟩, ?_⟩
        · have h6 := Kd.R_far (Kd.R_putn (Kd.R_drew hR) (x.1 : Int) (IntKind.u32.wrap (IntKind.u64.wrap (Int.tdiv (nat_short.t a1 (nat_short.fold l0 a1 pre).2 (l0[x.1]?.getD 0)) (IntKind.u64.wrap a1))))) (p := ⟨s1 + 1, 0, none⟩) (fun k hk => by cases hk; exact hne4) (.int .u64 (Int.tmod (nat_short.t a1 (nat_short.fold l0 a1 pre).2 (l0[x.1]?.getD 0)) (IntKind.u64.wrap a1)))
          rw [nat_short.fold_snoc]; rw [Int.toNat_natCast] at h6
          unfold nat_short.t at h6 ⊢
          rw [hgx] at h6 ⊢; exact h6
        · rw [nat_short.fold_snoc]
          unfold nat_short.t
          rw [hgx]; have h7 : Boxed (W.drew.setCell ⟨g, x.1, none⟩ (.int .u32 (IntKind.u32.wrap (IntKind.u64.wrap ((Go.bits .or .u64 (IntKind.u64.wrap ((nat_short.fold l0 a1 pre).2 * 4294967296)) (IntKind.u64.wrap l0[x.1])).tdiv (IntKind.u64.wrap a1)))))) (s1 + 1) 62 (.int .u64 (nat_short.fold l0 a1 pre).2) := (Below.heap_setCell _ _ _ _ (by exact hne3)).trans hb7; exact h7.set _
        · refine ⟨hKp.trans ⟨((KeepsOthers.drew W).trans ((KeepsOthers.setCell _ _ _).trans (KeepsOthers.setCell _ _ _))).size, fun j h1 h2 h3 => (Below.heap_setCell _ _ _ _ (by exact h3)).trans (Below.heap_setCell _ _ _ _ (by exact h2))⟩, ((below_drew hBw).setCell (p := ⟨g, x.1, none⟩) (by show w.heap.size ≤ g; omega) _).setCell (p := ⟨s1 + 1, 0, none⟩) (by show w.heap.size ≤ s1 + 1; omega) _⟩
      | _ => exact h5.elim
    · clear hr0 hc0 hlen ht hb1 hg1 hg ho2 bD1 hB1 bD4 hR4 hB4 hglt hs1 bN6 hsz4 bN7 bNI hx4 hKr hKp hBw hR hb7 b6 bD hlp
      generalize (nat_short.fold l0 a1 pre).2 = rest at *; generalize (nat_short.fold l0 a1 pre).1 = q at *; refine wpIn_region_any (by kernel_rfl) ?_
      change wpAnyIn _ _ _ _ _ _ _ _ _ (World.drew _)
      refine nat_short.round (by kernel_rfl) ?_; refine wpAnyIn_take (i := 1) (v := .int .i64 (x.1 : Int)) rfl rfl (by kernel_rfl) (by kernel_rfl) (by kernel_rfl) (fun _ _ _ h => h) ⟨Or.inl ⟨by rfl, fun w => by go_simp⟩, fun _ => rfl⟩ ?_
      try simp only [Act.put, List.setIfInBounds_toArray, List.set_cons_zero, List.set_cons_succ]
      refine wpAnyIn_take (i := 2) (v := .int .u64 (Go.bits .or .u64 (IntKind.u64.wrap (rest * 4294967296)) (IntKind.u64.wrap l0[x.1]))) rfl rfl (by kernel_rfl) (by kernel_rfl) (by kernel_rfl) (fun _ _ _ h => h) ⟨Or.inl ⟨by rfl, fun w => by go_simp⟩, fun _ => rfl⟩ ?_
      try simp only [Act.put, List.setIfInBounds_toArray, List.set_cons_zero, List.set_cons_succ]
      refine wpAnyIn_take (i := 7) (v := .int .u64 (Go.bits .or .u64 (IntKind.u64.wrap (rest * 4294967296)) (IntKind.u64.wrap l0[x.1]))) rfl rfl (by kernel_rfl) (by kernel_rfl) (by kernel_rfl) (fun _ _ _ h => h) ⟨Or.inl ⟨by rfl, fun w => by go_simp⟩, fun _ => rfl⟩ ?_
      try simp only [Act.put, List.setIfInBounds_toArray, List.set_cons_zero, List.set_cons_succ]
      refine wpAnyIn_ready (rs := [0, 3, 8]) (by kernel_rfl) (by simp) ?_; refine AllReadyIn.cons rfl (fun K hK => ?_) ?_
      · go_simp
        refine hK _ _ ?_; clear hK K; refine wpAnyIn_ready (rs := [3, 8]) (by kernel_rfl) (by simp) ?_; refine AllReadyIn.cons rfl (fun K hK => ?_) ?_
        · go_simp
          refine hK _ _ ?_; clear hK K; refine wpAnyIn_take (i := 4) (v := .int .u64 (IntKind.u64.wrap a1)) rfl rfl (by kernel_rfl) (by kernel_rfl) (by kernel_rfl) (fun _ _ _ h => h) ⟨Or.inl ⟨by rfl, fun w => by go_simp⟩, fun _ => rfl⟩ ?_
          try simp only [Act.put, List.setIfInBounds_toArray, List.set_cons_zero, List.set_cons_succ]
          refine wpAnyIn_take (i := 5) (v := .int .u64 (IntKind.u64.wrap ((Go.bits .or .u64 (IntKind.u64.wrap (rest * 4294967296)) (IntKind.u64.wrap l0[x.1])).tdiv (IntKind.u64.wrap a1)))) rfl rfl (by kernel_rfl) (by kernel_rfl) (by kernel_rfl) (fun _ _ _ h => h) ⟨Or.inl ⟨by rfl, fun w => by go_simp⟩, fun _ => rfl⟩ ?_
          try simp only [Act.put, List.setIfInBounds_toArray, List.set_cons_zero, List.set_cons_succ]
          refine wpAnyIn_take (i := 6) (v := .int .u32 (IntKind.u32.wrap (IntKind.u64.wrap ((Go.bits .or .u64 (IntKind.u64.wrap (rest * 4294967296)) (IntKind.u64.wrap l0[x.1])).tdiv (IntKind.u64.wrap a1))))) rfl rfl (by kernel_rfl) (by kernel_rfl) (by kernel_rfl) (fun _ _ _ h => h) ⟨Or.inl ⟨by rfl, fun w => by go_simp⟩, fun _ => rfl⟩ ?_
          try simp only [Act.put, List.setIfInBounds_toArray, List.set_cons_zero, List.set_cons_succ]
          refine wpAnyIn_take (i := 11) (v := .pointer (some ⟨g, x.1, none⟩)) rfl rfl (by kernel_rfl) (by kernel_rfl) (by kernel_rfl) (fun _ _ _ h => h) ⟨Or.inl ⟨by rfl, fun w => by go_simp⟩, fun _ => rfl⟩ ?_
          try simp only [Act.put, List.setIfInBounds_toArray, List.set_cons_zero, List.set_cons_succ]
          refine wpAnyIn_ready (rs := [8, 12]) (by kernel_rfl) (by simp) ?_; refine AllReadyIn.cons rfl (fun K hK => ?_) ?_
          · go_simp
            refine hK _ _ ?_; clear hK K; refine wpAnyIn_take (i := 9) (v := .int .u64 (IntKind.u64.wrap a1)) rfl rfl (by kernel_rfl) (by kernel_rfl) (by kernel_rfl) (fun _ _ _ h => h) ⟨Or.inl ⟨by rfl, fun w => by go_simp⟩, fun _ => rfl⟩ ?_
            try simp only [Act.put, List.setIfInBounds_toArray, List.set_cons_zero, List.set_cons_succ]
            refine wpAnyIn_take (i := 10) (v := .int .u64 ((Go.bits .or .u64 (IntKind.u64.wrap (rest * 4294967296)) (IntKind.u64.wrap l0[x.1])).tmod (IntKind.u64.wrap a1))) rfl rfl (by kernel_rfl) (by kernel_rfl) (by kernel_rfl) (fun _ _ _ h => h) ⟨Or.inl ⟨by rfl, fun w => by go_simp⟩, fun _ => rfl⟩ ?_
            try simp only [Act.put, List.setIfInBounds_toArray, List.set_cons_zero, List.set_cons_succ]
            refine wpAnyIn_ready (rs := [12]) (by kernel_rfl) (by simp) ?_; refine AllReadyIn.cons rfl (fun K hK => ?_) AllReadyIn.nil
            go_simp
            refine hK _ _ ?_; clear hK K; refine wpAnyIn_ready (rs := [13]) (by kernel_rfl) (by simp) ?_; refine AllReadyIn.cons rfl (fun K hK => ?_) AllReadyIn.nil
            go_simp
            refine hK _ _ ?_; clear hK K; refine wpAnyIn_done (by kernel_rfl) ?_ _
            first | exact rfl | (simp; done)
          refine AllReadyIn.cons rfl (fun K hK => ?_) AllReadyIn.nil
          go_simp
          refine hK _ _ ?_; clear hK K; refine wpAnyIn_ready (rs := [8]) (by kernel_rfl) (by simp) ?_; refine AllReadyIn.cons rfl (fun K hK => ?_) AllReadyIn.nil
          go_simp
          refine hK _ _ ?_; clear hK K; refine wpAnyIn_take (i := 9) (v := .int .u64 (IntKind.u64.wrap a1)) rfl rfl (by kernel_rfl) (by kernel_rfl) (by kernel_rfl) (fun _ _ _ h => h) ⟨Or.inl ⟨by rfl, fun w => by go_simp⟩, fun _ => rfl⟩ ?_
          try simp only [Act.put, List.setIfInBounds_toArray, List.set_cons_zero, List.set_cons_succ]
          refine wpAnyIn_take (i := 10) (v := .int .u64 ((Go.bits .or .u64 (IntKind.u64.wrap (rest * 4294967296)) (IntKind.u64.wrap l0[x.1])).tmod (IntKind.u64.wrap a1))) rfl rfl (by kernel_rfl) (by kernel_rfl) (by kernel_rfl) (fun _ _ _ h => h) ⟨Or.inl ⟨by rfl, fun w => by go_simp⟩, fun _ => rfl⟩ ?_
          try simp only [Act.put, List.setIfInBounds_toArray, List.set_cons_zero, List.set_cons_succ]
          refine wpAnyIn_ready (rs := [13]) (by kernel_rfl) (by simp) ?_; refine AllReadyIn.cons rfl (fun K hK => ?_) AllReadyIn.nil
          go_simp
          refine hK _ _ ?_; clear hK K; refine wpAnyIn_done (by kernel_rfl) ?_ _
          first | exact rfl | (simp; done)
        refine AllReadyIn.cons rfl (fun K hK => ?_) AllReadyIn.nil
        go_simp
        refine hK _ _ ?_; clear hK K; refine wpAnyIn_take (i := 9) (v := .int .u64 (IntKind.u64.wrap a1)) rfl rfl (by kernel_rfl) (by kernel_rfl) (by kernel_rfl) (fun _ _ _ h => h) ⟨Or.inl ⟨by rfl, fun w => by go_simp⟩, fun _ => rfl⟩ ?_
        try simp only [Act.put, List.setIfInBounds_toArray, List.set_cons_zero, List.set_cons_succ]
        refine wpAnyIn_take (i := 10) (v := .int .u64 ((Go.bits .or .u64 (IntKind.u64.wrap (rest * 4294967296)) (IntKind.u64.wrap l0[x.1])).tmod (IntKind.u64.wrap a1))) rfl rfl (by kernel_rfl) (by kernel_rfl) (by kernel_rfl) (fun _ _ _ h => h) ⟨Or.inl ⟨by rfl, fun w => by go_simp⟩, fun _ => rfl⟩ ?_
        try simp only [Act.put, List.setIfInBounds_toArray, List.set_cons_zero, List.set_cons_succ]
        refine wpAnyIn_ready (rs := [3]) (by kernel_rfl) (by simp) ?_; refine AllReadyIn.cons rfl (fun K hK => ?_) AllReadyIn.nil
        go_simp
        refine hK _ _ ?_; clear hK K; refine wpAnyIn_take (i := 4) (v := .int .u64 (IntKind.u64.wrap a1)) rfl rfl (by kernel_rfl) (by kernel_rfl) (by kernel_rfl) (fun _ _ _ h => h) ⟨Or.inl ⟨by rfl, fun w => by go_simp⟩, fun _ => rfl⟩ ?_
        try simp only [Act.put, List.setIfInBounds_toArray, List.set_cons_zero, List.set_cons_succ]
        refine wpAnyIn_take (i := 5) (v := .int .u64 (IntKind.u64.wrap ((Go.bits .or .u64 (IntKind.u64.wrap (rest * 4294967296)) (IntKind.u64.wrap l0[x.1])).tdiv (IntKind.u64.wrap a1)))) rfl rfl (by kernel_rfl) (by kernel_rfl) (by kernel_rfl) (fun _ _ _ h => h) ⟨Or.inl ⟨by rfl, fun w => by go_simp⟩, fun _ => rfl⟩ ?_
        try simp only [Act.put, List.setIfInBounds_toArray, List.set_cons_zero, List.set_cons_succ]
        refine wpAnyIn_take (i := 6) (v := .int .u32 (IntKind.u32.wrap (IntKind.u64.wrap ((Go.bits .or .u64 (IntKind.u64.wrap (rest * 4294967296)) (IntKind.u64.wrap l0[x.1])).tdiv (IntKind.u64.wrap a1))))) rfl rfl (by kernel_rfl) (by kernel_rfl) (by kernel_rfl) (fun _ _ _ h => h) ⟨Or.inl ⟨by rfl, fun w => by go_simp⟩, fun _ => rfl⟩ ?_
        try simp only [Act.put, List.setIfInBounds_toArray, List.set_cons_zero, List.set_cons_succ]
        refine wpAnyIn_take (i := 11) (v := .pointer (some ⟨g, x.1, none⟩)) rfl rfl (by kernel_rfl) (by kernel_rfl) (by kernel_rfl) (fun _ _ _ h => h) ⟨Or.inl ⟨by rfl, fun w => by go_simp⟩, fun _ => rfl⟩ ?_
        try simp only [Act.put, List.setIfInBounds_toArray, List.set_cons_zero, List.set_cons_succ]
        refine wpAnyIn_ready (rs := [12]) (by kernel_rfl) (by simp) ?_; refine AllReadyIn.cons rfl (fun K hK => ?_) AllReadyIn.nil
        go_simp
        refine hK _ _ ?_; clear hK K; refine wpAnyIn_ready (rs := [13]) (by kernel_rfl) (by simp) ?_; refine AllReadyIn.cons rfl (fun K hK => ?_) AllReadyIn.nil
        go_simp
        refine hK _ _ ?_; clear hK K; refine wpAnyIn_done (by kernel_rfl) ?_ _
        first | exact rfl | (simp; done)
      refine AllReadyIn.cons rfl (fun K hK => ?_) ?_
      · go_simp
        refine hK _ _ ?_; clear hK K; refine wpAnyIn_take (i := 4) (v := .int .u64 (IntKind.u64.wrap a1)) rfl rfl (by kernel_rfl) (by kernel_rfl) (by kernel_rfl) (fun _ _ _ h => h) ⟨Or.inl ⟨by rfl, fun w => by go_simp⟩, fun _ => rfl⟩ ?_
        try simp only [Act.put, List.setIfInBounds_toArray, List.set_cons_zero, List.set_cons_succ]
        refine wpAnyIn_take (i := 5) (v := .int .u64 (IntKind.u64.wrap ((Go.bits .or .u64 (IntKind.u64.wrap (rest * 4294967296)) (IntKind.u64.wrap l0[x.1])).tdiv (IntKind.u64.wrap a1)))) rfl rfl (by kernel_rfl) (by kernel_rfl) (by kernel_rfl) (fun _ _ _ h => h) ⟨Or.inl ⟨by rfl, fun w => by go_simp⟩, fun _ => rfl⟩ ?_
        try simp only [Act.put, List.setIfInBounds_toArray, List.set_cons_zero, List.set_cons_succ]
        refine wpAnyIn_take (i := 6) (v := .int .u32 (IntKind.u32.wrap (IntKind.u64.wrap ((Go.bits .or .u64 (IntKind.u64.wrap (rest * 4294967296)) (IntKind.u64.wrap l0[x.1])).tdiv (IntKind.u64.wrap a1))))) rfl rfl (by kernel_rfl) (by kernel_rfl) (by kernel_rfl) (fun _ _ _ h => h) ⟨Or.inl ⟨by rfl, fun w => by go_simp⟩, fun _ => rfl⟩ ?_
        try simp only [Act.put, List.setIfInBounds_toArray, List.set_cons_zero, List.set_cons_succ]
        refine wpAnyIn_ready (rs := [0, 8]) (by kernel_rfl) (by simp) ?_; refine AllReadyIn.cons rfl (fun K hK => ?_) ?_
        · go_simp
          refine hK _ _ ?_; clear hK K; refine wpAnyIn_take (i := 11) (v := .pointer (some ⟨g, x.1, none⟩)) rfl rfl (by kernel_rfl) (by kernel_rfl) (by kernel_rfl) (fun _ _ _ h => h) ⟨Or.inl ⟨by rfl, fun w => by go_simp⟩, fun _ => rfl⟩ ?_
          try simp only [Act.put, List.setIfInBounds_toArray, List.set_cons_zero, List.set_cons_succ]
          refine wpAnyIn_ready (rs := [8, 12]) (by kernel_rfl) (by simp) ?_; refine AllReadyIn.cons rfl (fun K hK => ?_) ?_
          · go_simp
            refine hK _ _ ?_; clear hK K; refine wpAnyIn_take (i := 9) (v := .int .u64 (IntKind.u64.wrap a1)) rfl rfl (by kernel_rfl) (by kernel_rfl) (by kernel_rfl) (fun _ _ _ h => h) ⟨Or.inl ⟨by rfl, fun w => by go_simp⟩, fun _ => rfl⟩ ?_
            try simp only [Act.put, List.setIfInBounds_toArray, List.set_cons_zero, List.set_cons_succ]
            refine wpAnyIn_take (i := 10) (v := .int .u64 ((Go.bits .or .u64 (IntKind.u64.wrap (rest * 4294967296)) (IntKind.u64.wrap l0[x.1])).tmod (IntKind.u64.wrap a1))) rfl rfl (by kernel_rfl) (by kernel_rfl) (by kernel_rfl) (fun _ _ _ h => h) ⟨Or.inl ⟨by rfl, fun w => by go_simp⟩, fun _ => rfl⟩ ?_
            try simp only [Act.put, List.setIfInBounds_toArray, List.set_cons_zero, List.set_cons_succ]
            refine wpAnyIn_ready (rs := [12]) (by kernel_rfl) (by simp) ?_; refine AllReadyIn.cons rfl (fun K hK => ?_) AllReadyIn.nil
            go_simp
            refine hK _ _ ?_; clear hK K; refine wpAnyIn_ready (rs := [13]) (by kernel_rfl) (by simp) ?_; refine AllReadyIn.cons rfl (fun K hK => ?_) AllReadyIn.nil
            go_simp
            refine hK _ _ ?_; clear hK K; refine wpAnyIn_done (by kernel_rfl) ?_ _
            first | exact rfl | (simp; done)
          refine AllReadyIn.cons rfl (fun K hK => ?_) AllReadyIn.nil
          go_simp
          refine hK _ _ ?_; clear hK K; refine wpAnyIn_ready (rs := [8]) (by kernel_rfl) (by simp) ?_; refine AllReadyIn.cons rfl (fun K hK => ?_) AllReadyIn.nil
          go_simp
          refine hK _ _ ?_; clear hK K; refine wpAnyIn_take (i := 9) (v := .int .u64 (IntKind.u64.wrap a1)) rfl rfl (by kernel_rfl) (by kernel_rfl) (by kernel_rfl) (fun _ _ _ h => h) ⟨Or.inl ⟨by rfl, fun w => by go_simp⟩, fun _ => rfl⟩ ?_
          try simp only [Act.put, List.setIfInBounds_toArray, List.set_cons_zero, List.set_cons_succ]
          refine wpAnyIn_take (i := 10) (v := .int .u64 ((Go.bits .or .u64 (IntKind.u64.wrap (rest * 4294967296)) (IntKind.u64.wrap l0[x.1])).tmod (IntKind.u64.wrap a1))) rfl rfl (by kernel_rfl) (by kernel_rfl) (by kernel_rfl) (fun _ _ _ h => h) ⟨Or.inl ⟨by rfl, fun w => by go_simp⟩, fun _ => rfl⟩ ?_
          try simp only [Act.put, List.setIfInBounds_toArray, List.set_cons_zero, List.set_cons_succ]
          refine wpAnyIn_ready (rs := [13]) (by kernel_rfl) (by simp) ?_; refine AllReadyIn.cons rfl (fun K hK => ?_) AllReadyIn.nil
          go_simp
          refine hK _ _ ?_; clear hK K; refine wpAnyIn_done (by kernel_rfl) ?_ _
          first | exact rfl | (simp; done)
        refine AllReadyIn.cons rfl (fun K hK => ?_) AllReadyIn.nil
        go_simp
        refine hK _ _ ?_; clear hK K; refine wpAnyIn_take (i := 9) (v := .int .u64 (IntKind.u64.wrap a1)) rfl rfl (by kernel_rfl) (by kernel_rfl) (by kernel_rfl) (fun _ _ _ h => h) ⟨Or.inl ⟨by rfl, fun w => by go_simp⟩, fun _ => rfl⟩ ?_
        try simp only [Act.put, List.setIfInBounds_toArray, List.set_cons_zero, List.set_cons_succ]
        refine wpAnyIn_take (i := 10) (v := .int .u64 ((Go.bits .or .u64 (IntKind.u64.wrap (rest * 4294967296)) (IntKind.u64.wrap l0[x.1])).tmod (IntKind.u64.wrap a1))) rfl rfl (by kernel_rfl) (by kernel_rfl) (by kernel_rfl) (fun _ _ _ h => h) ⟨Or.inl ⟨by rfl, fun w => by go_simp⟩, fun _ => rfl⟩ ?_
        try simp only [Act.put, List.setIfInBounds_toArray, List.set_cons_zero, List.set_cons_succ]
        refine wpAnyIn_ready (rs := [0]) (by kernel_rfl) (by simp) ?_; refine AllReadyIn.cons rfl (fun K hK => ?_) AllReadyIn.nil
        go_simp
        refine hK _ _ ?_; clear hK K; refine wpAnyIn_take (i := 11) (v := .pointer (some ⟨g, x.1, none⟩)) rfl rfl (by kernel_rfl) (by kernel_rfl) (by kernel_rfl) (fun _ _ _ h => h) ⟨Or.inl ⟨by rfl, fun w => by go_simp⟩, fun _ => rfl⟩ ?_
        try simp only [Act.put, List.setIfInBounds_toArray, List.set_cons_zero, List.set_cons_succ]
        refine wpAnyIn_ready (rs := [12]) (by kernel_rfl) (by simp) ?_; refine AllReadyIn.cons rfl (fun K hK => ?_) AllReadyIn.nil
        go_simp
        refine hK _ _ ?_; clear hK K; refine wpAnyIn_ready (rs := [13]) (by kernel_rfl) (by simp) ?_; refine AllReadyIn.cons rfl (fun K hK => ?_) AllReadyIn.nil
        go_simp
        refine hK _ _ ?_; clear hK K; refine wpAnyIn_done (by kernel_rfl) ?_ _
        first | exact rfl | (simp; done)
      refine AllReadyIn.cons rfl (fun K hK => ?_) AllReadyIn.nil
      go_simp
      refine hK _ _ ?_; clear hK K; refine wpAnyIn_take (i := 9) (v := .int .u64 (IntKind.u64.wrap a1)) rfl rfl (by kernel_rfl) (by kernel_rfl) (by kernel_rfl) (fun _ _ _ h => h) ⟨Or.inl ⟨by rfl, fun w => by go_simp⟩, fun _ => rfl⟩ ?_
      try simp only [Act.put, List.setIfInBounds_toArray, List.set_cons_zero, List.set_cons_succ]
      refine wpAnyIn_take (i := 10) (v := .int .u64 ((Go.bits .or .u64 (IntKind.u64.wrap (rest * 4294967296)) (IntKind.u64.wrap l0[x.1])).tmod (IntKind.u64.wrap a1))) rfl rfl (by kernel_rfl) (by kernel_rfl) (by kernel_rfl) (fun _ _ _ h => h) ⟨Or.inl ⟨by rfl, fun w => by go_simp⟩, fun _ => rfl⟩ ?_
      try simp only [Act.put, List.setIfInBounds_toArray, List.set_cons_zero, List.set_cons_succ]
      refine wpAnyIn_ready (rs := [0, 3]) (by kernel_rfl) (by simp) ?_; refine AllReadyIn.cons rfl (fun K hK => ?_) ?_
      · go_simp
        refine hK _ _ ?_; clear hK K; refine wpAnyIn_ready (rs := [3]) (by kernel_rfl) (by simp) ?_; refine AllReadyIn.cons rfl (fun K hK => ?_) AllReadyIn.nil
        go_simp
        refine hK _ _ ?_; clear hK K; refine wpAnyIn_take (i := 4) (v := .int .u64 (IntKind.u64.wrap a1)) rfl rfl (by kernel_rfl) (by kernel_rfl) (by kernel_rfl) (fun _ _ _ h => h) ⟨Or.inl ⟨by rfl, fun w => by go_simp⟩, fun _ => rfl⟩ ?_
        try simp only [Act.put, List.setIfInBounds_toArray, List.set_cons_zero, List.set_cons_succ]
        refine wpAnyIn_take (i := 5) (v := .int .u64 (IntKind.u64.wrap ((Go.bits .or .u64 (IntKind.u64.wrap (rest * 4294967296)) (IntKind.u64.wrap l0[x.1])).tdiv (IntKind.u64.wrap a1)))) rfl rfl (by kernel_rfl) (by kernel_rfl) (by kernel_rfl) (fun _ _ _ h => h) ⟨Or.inl ⟨by rfl, fun w => by go_simp⟩, fun _ => rfl⟩ ?_
        try simp only [Act.put, List.setIfInBounds_toArray, List.set_cons_zero, List.set_cons_succ]
        refine wpAnyIn_take (i := 6) (v := .int .u32 (IntKind.u32.wrap (IntKind.u64.wrap ((Go.bits .or .u64 (IntKind.u64.wrap (rest * 4294967296)) (IntKind.u64.wrap l0[x.1])).tdiv (IntKind.u64.wrap a1))))) rfl rfl (by kernel_rfl) (by kernel_rfl) (by kernel_rfl) (fun _ _ _ h => h) ⟨Or.inl ⟨by rfl, fun w => by go_simp⟩, fun _ => rfl⟩ ?_
        try simp only [Act.put, List.setIfInBounds_toArray, List.set_cons_zero, List.set_cons_succ]
        refine wpAnyIn_take (i := 11) (v := .pointer (some ⟨g, x.1, none⟩)) rfl rfl (by kernel_rfl) (by kernel_rfl) (by kernel_rfl) (fun _ _ _ h => h) ⟨Or.inl ⟨by rfl, fun w => by go_simp⟩, fun _ => rfl⟩ ?_
        try simp only [Act.put, List.setIfInBounds_toArray, List.set_cons_zero, List.set_cons_succ]
        refine wpAnyIn_ready (rs := [12]) (by kernel_rfl) (by simp) ?_; refine AllReadyIn.cons rfl (fun K hK => ?_) AllReadyIn.nil
        go_simp
        refine hK _ _ ?_; clear hK K; refine wpAnyIn_ready (rs := [13]) (by kernel_rfl) (by simp) ?_; refine AllReadyIn.cons rfl (fun K hK => ?_) AllReadyIn.nil
        go_simp
        refine hK _ _ ?_; clear hK K; refine wpAnyIn_done (by kernel_rfl) ?_ _
        first | exact rfl | (simp; done)
      refine AllReadyIn.cons rfl (fun K hK => ?_) AllReadyIn.nil
      go_simp
      refine hK _ _ ?_; clear hK K; refine wpAnyIn_take (i := 4) (v := .int .u64 (IntKind.u64.wrap a1)) rfl rfl (by kernel_rfl) (by kernel_rfl) (by kernel_rfl) (fun _ _ _ h => h) ⟨Or.inl ⟨by rfl, fun w => by go_simp⟩, fun _ => rfl⟩ ?_
      try simp only [Act.put, List.setIfInBounds_toArray, List.set_cons_zero, List.set_cons_succ]
      refine wpAnyIn_take (i := 5) (v := .int .u64 (IntKind.u64.wrap ((Go.bits .or .u64 (IntKind.u64.wrap (rest * 4294967296)) (IntKind.u64.wrap l0[x.1])).tdiv (IntKind.u64.wrap a1)))) rfl rfl (by kernel_rfl) (by kernel_rfl) (by kernel_rfl) (fun _ _ _ h => h) ⟨Or.inl ⟨by rfl, fun w => by go_simp⟩, fun _ => rfl⟩ ?_
      try simp only [Act.put, List.setIfInBounds_toArray, List.set_cons_zero, List.set_cons_succ]
      refine wpAnyIn_take (i := 6) (v := .int .u32 (IntKind.u32.wrap (IntKind.u64.wrap ((Go.bits .or .u64 (IntKind.u64.wrap (rest * 4294967296)) (IntKind.u64.wrap l0[x.1])).tdiv (IntKind.u64.wrap a1))))) rfl rfl (by kernel_rfl) (by kernel_rfl) (by kernel_rfl) (fun _ _ _ h => h) ⟨Or.inl ⟨by rfl, fun w => by go_simp⟩, fun _ => rfl⟩ ?_
      try simp only [Act.put, List.setIfInBounds_toArray, List.set_cons_zero, List.set_cons_succ]
      refine wpAnyIn_ready (rs := [0]) (by kernel_rfl) (by simp) ?_; refine AllReadyIn.cons rfl (fun K hK => ?_) AllReadyIn.nil
      go_simp
      refine hK _ _ ?_; clear hK K; refine wpAnyIn_take (i := 11) (v := .pointer (some ⟨g, x.1, none⟩)) rfl rfl (by kernel_rfl) (by kernel_rfl) (by kernel_rfl) (fun _ _ _ h => h) ⟨Or.inl ⟨by rfl, fun w => by go_simp⟩, fun _ => rfl⟩ ?_
      try simp only [Act.put, List.setIfInBounds_toArray, List.set_cons_zero, List.set_cons_succ]
      refine wpAnyIn_ready (rs := [12]) (by kernel_rfl) (by simp) ?_; refine AllReadyIn.cons rfl (fun K hK => ?_) AllReadyIn.nil
      go_simp
      refine hK _ _ ?_; clear hK K; refine wpAnyIn_ready (rs := [13]) (by kernel_rfl) (by simp) ?_; refine AllReadyIn.cons rfl (fun K hK => ?_) AllReadyIn.nil
      go_simp
      refine hK _ _ ?_; clear hK K; refine wpAnyIn_done (by kernel_rfl) ?_ _
      first | exact rfl | (simp; done)
  case done =>
    rintro D ys W hD rfl ⟨⟨hR, hb7⟩, hKp, hBw⟩ hK; rw [nat_short.fold_down l0 a1 _ (Nat.le_refl _)] at hR hb7; have b6 : Boxed W s1 _ _ := (hKp.2 s1 (by omega) (by omega) (by omega)).trans bN6; have h6c := b6.cell; have h7c := hb7.cell
    have hV : Kd.V (Kd.int .u32) 70 W W.heap.size (fun q_ => some q_ = some g) (.slice (some ⟨g, 0, none⟩) (nat_short.run l0 a1 l0.length).1.length cap) (nat_short.run l0 a1 l0.length).1 := by
      rw [nat_short.run_length]; exact Kd.R_V hR
    have hrl := nat_short.run_length l0 a1 l0.length
    go_wp2
    refine (wpIn_wide (n := 4)).1 ?_; refine Code.wpIn_mono (Q := nat_short.endsAt (fun a W' => ∃ A9 c9 w9, a.defers = [{ target := .collected D, args := #[] }] ∧ a.tmps.getD 4 undef = .slice A9 t.length c9 ∧ a.tmps.getD 5 undef = .int .u32 (IntKind.u32.wrap (nat_short.run l0 a1 l0.length).2) ∧ W' = w9 ∧ Kd.V (Kd.int .u32) 70 w9 W.drew.heap.size (fun q_ => some q_ = some g ∨ W.drew.heap.size ≤ q_) (.slice A9 t.length c9) t ∧ Below W.drew.heap.size W.drew w9)) ?_ ?_
    · intro e a W5 h5
      cases e with
      | normal =>
        obtain ⟨A9, c9, w9, hd9, h4, h5, rfl, hv9, hb9⟩ := h5; obtain ⟨tm, df⟩ := a; dsimp only at hd9 h4 h5; subst hd9
        go_wp2
        have hDl : D < W.drew.heap.size := (Array.getElem?_eq_some_iff.1 hK).1; have hKD : W5.heap[D]? = some (.deferred (some [])) := (hb9.block D hDl).trans hK; refine ⟨by simp, .inl ⟨_, _, rfl, run_takeDeferred hKD, ?_⟩⟩; refine ⟨.tuple #[.slice A9 t.length c9, .int .u32 (IntKind.u32.wrap (nat_short.run l0 a1 l0.length).2)], ?_, .slice A9 t.length c9, rfl, ?_, ?_⟩
        · have h4' : tm[4]?.getD undef = .slice A9 t.length c9 := by simpa using h4
          have h5' : tm[5]?.getD undef = .int .u32 (IntKind.u32.wrap (nat_short.run l0 a1 l0.length).2) := by simpa using h5
          simp [results, Try.f43, go_sem, h4, h5, h4', h5']
        · have hszW : W4.heap.size ≤ W.drew.heap.size := hKp.1
          exact Kd.V_mono (Kd.V_grown hv9 (grownBy_putObj' _ D (.deferred none)) (fun k_ hk e => by
            cases e
            rcases hk with hk | hk
            · cases hk
              omega
            · omega)) (fun k_ hk => by
            rcases hk with hk | hk
            · cases hk
              omega
            · omega)
        · have hBd : Below w.heap.size w W.drew := below_drew hBw
          exact (hBd.trans (hb9.mono hBd.size)).trans (belowK_b (w := w) (Nat.le_refl _) _ D _ _ (Nat.le_trans hB4.size hD) hKD rfl rfl)
      | _ => exact h5.elim
    · have hcall := nat_trim.calls k (fun q_ => some q_ = some g) _ _ _ t _ (Kd.V_drew hV) ht
      rw [hrl] at hcall; clear hr0 hc0 hlen ht hb1 hg1 hg ho2 bD1 hB1 bD4 hR4 hB4 hglt hs1 bN6 hsz4 bN7 bNI hx4 hKr hKp hBw hR b6 hV hrl; generalize (nat_short.run l0 a1 l0.length).2 = rest at *; refine wpIn_region_any (by kernel_rfl) ?_
      change wpAnyIn _ _ _ _ _ _ _ _ _ (World.drew _)
      refine wpAnyIn_ready (rs := [0, 2]) (by kernel_rfl) (by simp) ?_; refine AllReadyIn.cons rfl (fun K hK => ?_) ?_
      · go_simp
        refine hK _ _ ?_; clear hK K; refine wpAnyIn_ready (rs := [1, 2]) (by kernel_rfl) (by simp) ?_; refine AllReadyIn.cons rfl (fun K hK => ?_) ?_
        · go_simp
          refine ⟨trivial, ?_⟩
          gi_at_call 40
          refine (callsIn_wide.2 hcall).mono ?_; rintro e w9 ⟨v9, rfl, ho9, hb9⟩; obtain ⟨A9, c9, rfl⟩ := Kd.V_slice ho9; have b79 : Boxed w9 _ _ _ := (hb9.block _ hb7.lt).trans hb7; have h79 := b79.cell; refine hK _ _ ?_; clear hK K; refine wpAnyIn_take (i := 4) (v := .slice A9 t.length c9) rfl rfl (by kernel_rfl) (by kernel_rfl) (by kernel_rfl) (fun _ _ _ h => h) ⟨Or.inl ⟨by rfl, fun w => by go_simp⟩, fun _ => rfl⟩ ?_
          try simp only [Act.put, List.setIfInBounds_toArray, List.set_cons_zero, List.set_cons_succ]
          refine wpAnyIn_ready (rs := [2]) (by kernel_rfl) (by simp) ?_; refine AllReadyIn.cons rfl (fun K hK => ?_) AllReadyIn.nil
          go_simp
          refine hK _ _ ?_; clear hK K; refine wpAnyIn_take (i := 3) (v := .int .u32 (IntKind.u32.wrap rest)) rfl rfl (by kernel_rfl) (by kernel_rfl) (by kernel_rfl) (fun _ _ _ h => h) ⟨Or.inl ⟨by rfl, fun w => by go_simp⟩, fun _ => rfl⟩ ?_
          try simp only [Act.put, List.setIfInBounds_toArray, List.set_cons_zero, List.set_cons_succ]
          refine wpAnyIn_ready (rs := [5]) (by kernel_rfl) (by simp) ?_; refine AllReadyIn.cons rfl (fun K hK => ?_) AllReadyIn.nil
          go_simp
          refine hK _ _ ?_; clear hK K; refine wpAnyIn_done (by kernel_rfl) ?_ _; exact ⟨A9, c9, w9, rfl, rfl, rfl, rfl, ho9, hb9⟩
        refine AllReadyIn.cons rfl (fun K hK => ?_) AllReadyIn.nil
        go_simp
        refine hK _ _ ?_; clear hK K; refine wpAnyIn_take (i := 3) (v := .int .u32 (IntKind.u32.wrap rest)) rfl rfl (by kernel_rfl) (by kernel_rfl) (by kernel_rfl) (fun _ _ _ h => h) ⟨Or.inl ⟨by rfl, fun w => by go_simp⟩, fun _ => rfl⟩ ?_
        try simp only [Act.put, List.setIfInBounds_toArray, List.set_cons_zero, List.set_cons_succ]
        refine wpAnyIn_ready (rs := [1]) (by kernel_rfl) (by simp) ?_; refine AllReadyIn.cons rfl (fun K hK => ?_) AllReadyIn.nil
        go_simp
        refine ⟨trivial, ?_⟩
        gi_at_call 40
        refine (callsIn_wide.2 hcall).mono ?_; rintro e w9 ⟨v9, rfl, ho9, hb9⟩; obtain ⟨A9, c9, rfl⟩ := Kd.V_slice ho9; have b79 : Boxed w9 _ _ _ := (hb9.block _ hb7.lt).trans hb7; have h79 := b79.cell; refine hK _ _ ?_; clear hK K; refine wpAnyIn_take (i := 4) (v := .slice A9 t.length c9) rfl rfl (by kernel_rfl) (by kernel_rfl) (by kernel_rfl) (fun _ _ _ h => h) ⟨Or.inl ⟨by rfl, fun w => by go_simp⟩, fun _ => rfl⟩ ?_
        try simp only [Act.put, List.setIfInBounds_toArray, List.set_cons_zero, List.set_cons_succ]
        refine wpAnyIn_ready (rs := [5]) (by kernel_rfl) (by simp) ?_; refine AllReadyIn.cons rfl (fun K hK => ?_) AllReadyIn.nil
        go_simp
        refine hK _ _ ?_; clear hK K; refine wpAnyIn_done (by kernel_rfl) ?_ _; exact ⟨A9, c9, w9, rfl, rfl, rfl, rfl, ho9, hb9⟩
      refine AllReadyIn.cons rfl (fun K hK => ?_) AllReadyIn.nil
      go_simp
      refine hK _ _ ?_; clear hK K; refine wpAnyIn_take (i := 3) (v := .int .u32 (IntKind.u32.wrap rest)) rfl rfl (by kernel_rfl) (by kernel_rfl) (by kernel_rfl) (fun _ _ _ h => h) ⟨Or.inl ⟨by rfl, fun w => by go_simp⟩, fun _ => rfl⟩ ?_
      try simp only [Act.put, List.setIfInBounds_toArray, List.set_cons_zero, List.set_cons_succ]
      refine wpAnyIn_ready (rs := [0]) (by kernel_rfl) (by simp) ?_; refine AllReadyIn.cons rfl (fun K hK => ?_) AllReadyIn.nil
      go_simp
      refine hK _ _ ?_; clear hK K; refine wpAnyIn_ready (rs := [1]) (by kernel_rfl) (by simp) ?_; refine AllReadyIn.cons rfl (fun K hK => ?_) AllReadyIn.nil
      go_simp
      refine ⟨trivial, ?_⟩
      gi_at_call 40
      refine (callsIn_wide.2 hcall).mono ?_; rintro e w9 ⟨v9, rfl, ho9, hb9⟩; obtain ⟨A9, c9, rfl⟩ := Kd.V_slice ho9; have b79 : Boxed w9 _ _ _ := (hb9.block _ hb7.lt).trans hb7; have h79 := b79.cell; refine hK _ _ ?_; clear hK K; refine wpAnyIn_take (i := 4) (v := .slice A9 t.length c9) rfl rfl (by kernel_rfl) (by kernel_rfl) (by kernel_rfl) (fun _ _ _ h => h) ⟨Or.inl ⟨by rfl, fun w => by go_simp⟩, fun _ => rfl⟩ ?_
      try simp only [Act.put, List.setIfInBounds_toArray, List.set_cons_zero, List.set_cons_succ]
      refine wpAnyIn_ready (rs := [5]) (by kernel_rfl) (by simp) ?_; refine AllReadyIn.cons rfl (fun K hK => ?_) AllReadyIn.nil
      go_simp
      refine hK _ _ ?_; clear hK K; refine wpAnyIn_done (by kernel_rfl) ?_ _; exact ⟨A9, c9, w9, rfl, rfl, rfl, rfl, ho9, hb9⟩
  case stop =>
    rintro D c pre W _ _ h _; exact h.elim

/-! ### bits_Len32: function 61 -/
def bits_Len32.f (a0 : Int) : Option Int := if 0 ≤ a0 ∧ a0 ≤ 4294967295 then some (Lib.bitLen a0.toNat : Int) else none
theorem bits_Len32.size : Lib.len8tab.size = 256 := by decide +kernel
theorem bits_Len32.tab : ∀ n : Fin 256, (Lib.len8tab[n.1]'(by rw [bits_Len32.size]; exact n.2)).toNat = Lib.bitLen n.1 := by decide +kernel
theorem bits_Len32.at_ (s b : Int) (h0 : 0 ≤ b) (h1 : b ≤ 255) (hs : 0 ≤ s) (hs1 : s ≤ 100) (p : b.toNat < Lib.len8tab.size) : wrap64 (s + wrap64 ((Lib.len8tab[b.toNat]'p).toNat : Int)) = s + (Lib.bitLen b.toNat : Int) := by
  have e := bits_Len32.tab ⟨b.toNat, by omega⟩; have l := Lib.bitLen_le8' b h0 h1; dsimp only at e; rw [e]
  unfold wrap64
  omega
set_option maxHeartbeats 4000000 in
set_option maxRecDepth 100000 in
theorem bits_Len32.calls (a0 : Int) (r : Int) (w : World) (h : bits_Len32.f a0 = some r) :
    Calls Try.prog 61 #[.int .u32 a0] w fun e w' => e = .returned (.int .i64 r) ∧ Drawn0 w w' := by
  unfold bits_Len32.f at h
  by_cases hr : 0 ≤ a0 ∧ a0 ≤ 4294967295
  · rw [if_pos hr] at h
    obtain rfl := Option.some.inj h; obtain ⟨h0, h1⟩ := hr; clear h; have hsz := bits_Len32.size
    go_enter Try.func61, Try.ntmps61
    go_wp2
    all_goals first
      | (exfalso; rename_i hx; revert hx; rw [hsz]; omega)
      | (go_ret; refine ⟨congrArg Ending.returned (congrArg (Value.int IntKind.i64) ?_), Drawn0.refl _⟩)
    all_goals first
      | (rw [bits_Len32.at_ 24 (a0 / 65536 / 256) (by omega) (by omega) (by omega) (by omega)]
         have e : (a0 / 65536 / 256).toNat = a0.toNat / 16777216 := by omega
         have s := Lib.bitLen_shift24 a0.toNat (by omega) (by omega); rw [e]
         omega)
      | (rw [bits_Len32.at_ 16 (a0 / 65536) (by omega) (by omega) (by omega) (by omega)]
         have e : (a0 / 65536).toNat = a0.toNat / 65536 := by omega
         have s := Lib.bitLen_shift16 a0.toNat (by omega) (by omega); rw [e]
         omega)
      | (rw [bits_Len32.at_ 8 (a0 / 256) (by omega) (by omega) (by omega) (by omega)]
         have e : (a0 / 256).toNat = a0.toNat / 256 := by omega
         have s := Lib.bitLen_shift8 a0.toNat (by omega) (by omega); rw [e]
         omega)
      | (rw [← Int.zero_add (wrap64 _), bits_Len32.at_ 0 a0 (by omega) (by omega) (by omega) (by omega)]
         omega)
      | (have e := bits_Len32.at_ 0 a0 (by omega) (by omega) (by omega) (by omega) (by rw [hsz]; omega)
         rw [Int.zero_add, Int.zero_add] at e
         exact e)
  · rw [if_neg hr] at h
    exact absurd h (by simp)

/-! ### bits_LeadingZeros32: function 44 -/
def bits_LeadingZeros32.f (a0 : Int) : Option (Int) := (bits_Len32.f a0).bind fun t147 => (some (wrap64 (32 - t147)))
set_option maxHeartbeats 8000000 in
set_option maxRecDepth 100000 in
theorem bits_LeadingZeros32.calls (a0 : Int) (r : Int) (w : World) (h : bits_LeadingZeros32.f a0 = some r) :
    Calls Try.prog 44 #[.int .u32 a0] w fun e w' => e = .returned (.int .i64 r) ∧ Drawn0 w w' := by
  have H : ((bits_Len32.f a0).bind fun t147 => (some (wrap64 (32 - t147)))) = some r := h; clear h; replace H := bi H; obtain ⟨t147, A20, H⟩ := H; have A2 := Aside0.mk A20; clear A20; obtain rfl := Option.some.inj H
  go_enter Try.func44, Try.ntmps44
  go_wp2_with (first | ((with_reducible refine gate_callee (f := 61) rfl ?_); refine gL (N := some 4) Try.func61 #[.int .u32 a0] ?_; (with_reducible refine (bits_Len32.calls a0 t147 _ A2.out).mono ?_); rintro e w' ⟨rfl, ⟨nd, rfl⟩⟩; refine ⟨_, rfl, ?_⟩))
  go_ret
  exact ⟨by first | rfl | (simp; done) | (simp [*]; done), by repeat (first | exact Drawn0.refl _ | apply Drawn0.step)⟩

/-! ### nat_left: function 45 -/
def nat_left.l0 : Nat → Int → List Int → List Int → Int → Int → Option (List Int)
  | 0, _, _, _, _, _ => none
  | k + 1, x1, x5, x13, x14, x15 => if x15 < x14 then (if 0 ≤ x15 then (if x15 < (x13.length : Int) then (if 0 ≤ x1 then (if x15 < (x5.length : Int) then (if 0 ≤ (wrap64 (x15 + 1)) then (if (wrap64 (x15 + 1)) < (x5.length : Int) then (nat_left.l0 k x1 ((x5.set (x15 : Int).toNat (Go.bits .or .u32 (rd x5 x15) ((shl .u64 (IntKind.u64.wrap (rd x13 x15)) x1) % 4294967296))).set ((wrap64 (x15 + 1)) : Int).toNat (((shl .u64 (IntKind.u64.wrap (rd x13 x15)) x1) / 4294967296) % 4294967296)) x13 x14 (wrap64 (x15 + 1))) else (none)) else (none)) else (none)) else (none)) else (none)) else (none)) else (some x5)
def nat_left.f (k : Nat) (l0 : List Int) (a1 : Int) : Option (List Int) := if 0 ≤ (wrap64 ((l0.length : Int) + 1)) then (if (wrap64 ((l0.length : Int) + 1) : Int).toNat ≤ 70368744177664 then (nat_left.l0 k a1 (List.replicate (wrap64 ((l0.length : Int) + 1) : Int).toNat 0) l0 (l0.length : Int) 0) else (none)) else (none)
theorem nat_left.mono_l : ∀ k, (∀ y0 y1 y2 y3 y4, LeO (nat_left.l0 k y0 y1 y2 y3 y4) (nat_left.l0 (k + 1) y0 y1 y2 y3 y4))
  | 0 => fun _ _ _ _ _ r h => by simp [nat_left.l0] at h
  | k + 1 => by
    have ih0 := nat_left.mono_l k
    · intro y0 y1 y2 y3 y4
      unfold nat_left.l0
      repeat' with_reducible first | exact ih0 _ _ _ _ _ | exact LeO.refl _ | exact LeO.none _ | refine LeO.ite ?_ ?_ | refine LeO.bind ?_ (fun _ => ?_)
theorem nat_left.mono : ∀ a0 a1 k, LeO (nat_left.f k a0 a1) (nat_left.f (k + 1) a0 a1) := by
  intro a0 a1 k; have ih0 := nat_left.mono_l k
  unfold nat_left.f
  repeat' with_reducible first | exact ih0 _ _ _ _ _ | exact LeO.refl _ | exact LeO.none _ | refine LeO.ite ?_ ?_ | refine LeO.bind ?_ (fun _ => ?_)
set_option maxHeartbeats 8000000 in
set_option maxRecDepth 100000 in
theorem nat_left.calls (k : Nat) (A0 : Option Addr) (c0 : Nat) (l0 : List Int) (a1 : Int) (r : List Int) (w : World) (hr0 : Kd.C (Kd.int .u32) w A0 l0.length l0) (hc0 : l0.length ≤ c0) (h : nat_left.f k l0 a1 = some r) :
    Calls Try.prog 45 #[.slice A0 l0.length c0, .int .u64 a1] w fun e w' => ∃ v0_ : Value, e = .returned (v0_) ∧ Kd.R (Kd.int .u32) 70 w' w.heap.size (fun _ => True) v0_ r ∧ Below w.heap.size w w' := by
  have HR0 := Aside0.mk hr0; have HC0 := Aside0.mk hc0; clear hr0 hc0; have HB := Aside0.mk (Below.refl w.heap.size w); have H : (if 0 ≤ (wrap64 ((l0.length : Int) + 1)) then (if (wrap64 ((l0.length : Int) + 1) : Int).toNat ≤ 70368744177664 then (nat_left.l0 k a1 (List.replicate (wrap64 ((l0.length : Int) + 1) : Int).toNat 0) l0 (l0.length : Int) 0) else (none)) else (none)) = some r := h; clear h; obtain ⟨ji3, hji3⟩ : ∃ j_ : Int, (wrap64 ((l0.length : Int) + 1)) = j_ := ⟨_, rfl⟩
  replace H : (if 0 ≤ (ji3) then (if (ji3 : Int).toNat ≤ 70368744177664 then (nat_left.l0 k a1 (List.replicate (ji3 : Int).toNat 0) l0 (l0.length : Int) 0) else (none)) else (none)) = some r := by first | (rw [hji3] at H; exact H) | (simp only [hji3] at H ⊢; exact H)
  have hji3w : (IntKind.i64.wrap ((l0.length : Int) + 1)) = ji3 := (i64_w _).trans hji3
  by_cases c4 : 0 ≤ (ji3)
  · rw [if_pos c4] at H
    have c4b0 := eq_true c4; have c4b1 : decide (0 ≤ (ji3)) = true := decide_eq_true c4; clear c4
    by_cases c5 : (ji3 : Int).toNat ≤ 70368744177664
    · rw [if_pos c5] at H
      have c5b0 := eq_true c5; have c5b1 : decide ((ji3 : Int).toNat ≤ 70368744177664) = true := decide_eq_true c5; clear c5; obtain ⟨y148, hy148⟩ : ∃ y_ : List Int, y_ = (List.replicate (ji3 : Int).toNat 0) := ⟨_, rfl⟩; replace H : (nat_left.l0 k a1 y148 l0 (l0.length : Int) 0) = some r := ti hy148 H; have Ny148 := Aside0.mk hy148; clear hy148; have H' := Aside0.mk H; clear H
      go_enter Try.func45, Try.ntmps45
      go_wp2_with (first | ((with_reducible refine gate_dst (N := 12) rfl ?_); refine Kd.R_make (Kd.int .u32) _ 70 rfl (N := 12) rfl 22 _ _ rfl ji3 rfl rfl Try.underlying22 (.int .u32 0) 4 info70 rfl (by decide) (by omega) 0 (ok := fun _ => True) (okp := fun _ => True) rfl (fun _ hk => hk) trivial (td) (Nat.le_trans (Nat.mul_le_mul_right _ (td : ji3.toNat ≤ 70368744177664)) (by omega)) (Below.refl _ _) (Nat.le_refl _) ?_; intro v149 w6 ho7 hb hg_ hnew_; clear hg_ hnew_; (first | rw [← Ny148.out] at ho7 | (simp only [Int.reduceToNat] at ho7; rw [← Ny148.out] at ho7)); have HO150 := rl ho7 HB; replace HB := bs HB hb; clear hb ho7))
      go_loopg [15] k (fun kq v15 w' => ∃ (x5_1 : List Int) (x15_1 : Int), v15 = .int .i64 x15_1 ∧ Aside0 (nat_left.l0 kq a1 x5_1 l0 (l0.length : Int) x15_1 = some r) ∧ Aside0 (kq ≤ k) ∧ Aside0 (Kd.R (Kd.int .u32) 70 w' w.heap.size (fun _ => True) v149 x5_1) ∧ Aside0 (Below w.heap.size w w'))
      case atStart => exact ⟨(y148), (0), (by first | rfl | (simp; done) | (simp [*]; done)), H', ⟨Nat.le_refl _⟩, ⟨tq HO150⟩, ⟨tb HB⟩⟩
      case round =>
        clear H'; (try clear p2); (try clear c4); (try clear c4b0); (try clear c4b1); (try clear c5); (try clear c5b0); (try clear c5b1); (try clear p6); obtain ⟨x5_1, x15_1, rfl, HA, HK1, HO_5, HB⟩ := hrel
        cases gk with
        | zero => exact absurd HA.out (by simp [nat_left.l0])
        | succ k1 =>
          have H := HA.out; clear HA; simp only [nat_left.l0] at H
          by_cases c8 : x15_1 < (l0.length : Int)
          · rw [if_pos c8] at H
            have c8b0 : decide (x15_1 < (l0.length : Int)) = true := decide_eq_true c8; clear c8
            by_cases c9 : 0 ≤ x15_1
            · rw [if_pos c9] at H
              have c9b0 : decide (0 ≤ x15_1) = true := decide_eq_true c9; clear c9
              by_cases c10 : x15_1 < (l0.length : Int)
              · rw [if_pos c10] at H
                have c10b0 : decide (x15_1 < (l0.length : Int)) = true := decide_eq_true c10; clear c10
                by_cases c11 : 0 ≤ a1
                · rw [if_pos c11] at H
                  have c11b0 := eq_true c11; have c11b1 : decide (0 ≤ a1) = true := decide_eq_true c11; clear c11; obtain ⟨ji12, hji12⟩ : ∃ j_ : Int, (shl .u64 (IntKind.u64.wrap (rd l0 x15_1)) a1) = j_ := ⟨_, rfl⟩
                  replace H : (if x15_1 < (x5_1.length : Int) then (if 0 ≤ (wrap64 (x15_1 + 1)) then (if (wrap64 (x15_1 + 1)) < (x5_1.length : Int) then (nat_left.l0 k1 a1 ((x5_1.set (x15_1 : Int).toNat (Go.bits .or .u32 (rd x5_1 x15_1) ((ji12) % 4294967296))).set ((wrap64 (x15_1 + 1)) : Int).toNat (((ji12) / 4294967296) % 4294967296)) l0 (l0.length : Int) (wrap64 (x15_1 + 1))) else (none)) else (none)) else (none)) = some r := by first | (rw [hji12] at H; exact H) | (simp only [hji12] at H ⊢; exact H)
                  have hji12_ : (IntKind.u64.wrap ((IntKind.u64.wrap (rd l0 x15_1)) * 2 ^ min a1.toNat 64)) = ji12 := hji12; have hji12z : a1 ≤ 64 → (IntKind.u64.wrap ((IntKind.u64.wrap (rd l0 x15_1)) * 2 ^ a1.toNat)) = ji12 := shl_small hji12
                  by_cases c13 : x15_1 < (x5_1.length : Int)
                  · rw [if_pos c13] at H
                    have c13b0 : decide (x15_1 < (x5_1.length : Int)) = true := decide_eq_true c13; clear c13; obtain ⟨y153, hy153⟩ : ∃ y_ : List Int, y_ = (x5_1.set (x15_1 : Int).toNat (Go.bits .or .u32 (rd x5_1 x15_1) ((ji12) % 4294967296))) := ⟨_, rfl⟩; replace H : (if 0 ≤ (wrap64 (x15_1 + 1)) then (if (wrap64 (x15_1 + 1)) < (x5_1.length : Int) then (nat_left.l0 k1 a1 (y153.set ((wrap64 (x15_1 + 1)) : Int).toNat (((ji12) / 4294967296) % 4294967296)) l0 (l0.length : Int) (wrap64 (x15_1 + 1))) else (none)) else (none)) = some r := ti hy153 H; have Ny153 := Aside0.mk hy153; clear hy153; obtain ⟨ji15, hji15⟩ : ∃ j_ : Int, (wrap64 (x15_1 + 1)) = j_ := ⟨_, rfl⟩
                    replace H : (if 0 ≤ (ji15) then (if (ji15) < (x5_1.length : Int) then (nat_left.l0 k1 a1 (y153.set ((ji15) : Int).toNat (((ji12) / 4294967296) % 4294967296)) l0 (l0.length : Int) ji15) else (none)) else (none)) = some r := by first | (rw [hji15] at H; exact H) | (simp only [hji15] at H ⊢; exact H)
                    have hji15w : (IntKind.i64.wrap (x15_1 + 1)) = ji15 := (i64_w _).trans hji15
                    by_cases c16 : 0 ≤ (ji15)
                    · rw [if_pos c16] at H
                      have c16b0 : decide (0 ≤ (ji15)) = true := decide_eq_true c16; clear c16
                      by_cases c17 : (ji15) < (x5_1.length : Int)
                      · rw [if_pos c17] at H
                        have c17b0 : decide ((ji15) < (x5_1.length : Int)) = true := decide_eq_true c17; clear c17; obtain ⟨y154, hy154⟩ : ∃ y_ : List Int, y_ = (y153.set ((ji15) : Int).toNat (((ji12) / 4294967296) % 4294967296)) := ⟨_, rfl⟩; replace H : (nat_left.l0 k1 a1 y154 l0 (l0.length : Int) ji15) = some r := ti hy154 H; have Ny154 := Aside0.mk hy154; clear hy154; have H' := Aside0.mk H; clear H; have p151 : 0 ≤ (x15_1 : Int) := td; have q151 : x15_1 < (l0.length : Int) := td; obtain ⟨ad151, e151, hx151_0⟩ := Kd.at_int HR0.out x15_1 p151 q151
                        cases e151
                        replace hx151_0 := (HB.out.cell (World.block_lt_of_cell? w _ hx151_0)).trans hx151_0; replace p151 := eq_true p151; replace q151 := eq_true q151; obtain ⟨Ao19, co19, eo19⟩ := Kd.R_slice HO_5.out; subst eo19; have p152 : 0 ≤ (x15_1 : Int) := td; have q152 : x15_1 < (x5_1.length : Int) := td; obtain ⟨ad152, e152, hx152_0⟩ := Kd.at_int (Kd.R_reads' HO_5.out).2.2 x15_1 p152 q152
                        cases e152
                        replace p152 := eq_true p152; replace q152 := eq_true q152; have p14 : 0 ≤ (x15_1 : Int) := td; have q14 : (x15_1 : Int) < ((x5_1.length : Int) : Int) := td; obtain ⟨go14, co14, eo14, gb14, gl14, cl14, HG14⟩ := Kd.R_form HO_5.out (by omega); (first | cases eo14 | (injection eo14 with ea_ en_ ec_; (first | subst ea_ | (injection ea_ with ea_; subst ea_)); subst ec_; clear en_)); have GB14 := Aside0.mk gb14; have GG14 := Aside0.mk HG14; clear gb14 gl14 HG14; (first | simp only [add_plain] at hx152_0 | skip); obtain ⟨hx14_0, hf14_0⟩ := Kd.R_celln 0 HO_5.out (x15_1 : Int) p14 q14; replace p14 := eq_true p14; replace q14 := eq_true q14; have HP20 := Kd.R_putg HO_5.out (x15_1 : Int) (Go.bits .or .u32 (rd x5_1 x15_1) ((ji12) % 4294967296))
                        go_wp2_with (first | ((with_reducible refine gate_store (t := 70) (p := 31) rfl ?_); refine store_event (t := 70) (p := 31) (v := ?vo_w21) (w1 := (wr.setCell ⟨go14, (x15_1 : Int).toNat, none⟩ (.int .u32 (Go.bits .or .u32 (rd x5_1 x15_1) ((ji12) % 4294967296))))) ?hg ?ho ?hn ?hr ?_; (case ho => rfl); (case hg => rfl); (case hn => rfl); (case hr => first | (go_simp; done) | (go_simp; rfl)); intro w21 hw; have hg : wr.grownBy w21 (some go14) := (by rw [hw]; exact HP20.2); have hp_ : Kd.R (Kd.int .u32) 70 w21 w.heap.size (fun _ => True) (.slice (some ⟨go14, 0, none⟩) x5_1.length co19) y153 := (by rw [hw, Ny153.out]; exact HP20.1); clear HP20; replace HO_5 := Aside0.mk (hp_); replace HB := Aside0.mk ((by rw [hw]; exact below_set (HB.out) GB14.out : Below w.heap.size w w21)); clear hg hw hp_; have p18 : 0 ≤ ((ji15) : Int) := td; have q18 : ((ji15) : Int) < ((x5_1.length : Int) : Int) := td; obtain ⟨hx18_0, hf18_0⟩ := Kd.R_celln 0 HO_5.out ((ji15) : Int) p18 q18; replace p18 := eq_true p18; replace q18 := eq_true q18; obtain ⟨hy22_, hz22_⟩ := Kd.R_celln 0 HO_5.out ((ji15) : Int) (td) (td); have HP22 := Kd.R_putg HO_5.out ((ji15) : Int) (((ji12) / 4294967296) % 4294967296)) | ((with_reducible refine gate_store (t := 70) (p := 38) rfl ?_); refine store_event (t := 70) (p := 38) (v := ?vo_w23) (w1 := (w21.setCell ⟨go14, ((ji15) : Int).toNat, none⟩ (.int .u32 (((ji12) / 4294967296) % 4294967296)))) ?hg ?ho ?hn ?hr ?_; (case ho => rfl); (case hg => rfl); (case hn => rfl); (case hr => first | (go_simp; done) | (go_simp; rfl)); intro w23 hw; have hg : w21.grownBy w23 (some go14) := (by rw [hw]; exact HP22.2); have hp_ : Kd.R (Kd.int .u32) 70 w23 w.heap.size (fun _ => True) (.slice (some ⟨go14, 0, none⟩) x5_1.length co19) y154 := (by rw [hw, Ny154.out]; exact HP22.1); clear HP22; replace HO_5 := Aside0.mk (hp_); replace HB := Aside0.mk ((by rw [hw]; exact below_set (HB.out) GB14.out : Below w.heap.size w w23)); clear hg hw hp_))
                        go_roundg k1
                        case measure => have := HK1.out; omega
                        case rel => exact ⟨(y154), (ji15), (by first | rfl | (simp; done) | (simp only [← hji15] <;> (first | rfl | simp)) | (simp [*]; done)), H', ⟨by have := HK1.out; omega⟩, ⟨tq HO_5⟩, ⟨tb HB⟩⟩
                      · rw [if_neg c17] at H
                        exact absurd H (by simp)
                    · rw [if_neg c16] at H
                      exact absurd H (by simp)
                  · rw [if_neg c13] at H
                    exact absurd H (by simp)
                · rw [if_neg c11] at H
                  exact absurd H (by simp)
              · rw [if_neg c10] at H
                exact absurd H (by simp)
            · rw [if_neg c9] at H
              exact absurd H (by simp)
          · rw [if_neg c8] at H
            have c8b0 : decide (x15_1 < (l0.length : Int)) = false := decide_eq_false c8; clear c8; obtain rfl := Option.some.inj H
            go_wp2
            go_ret
            exact ⟨_, by first | rfl | (simp [errW_none, errW_some] <;> rfl) | (simp only [← hji3]; first | rfl | (simp [errW_none, errW_some] <;> rfl)) | (simp [*, errW_none, errW_some] <;> rfl), tq HO_5, tb HB⟩
    · rw [if_neg c5] at H
      exact absurd H (by simp)
  · rw [if_neg c4] at H
    exact absurd H (by simp)

end Go.Proofs.Ytkbefeadmchmbaa.QBigQuotients
