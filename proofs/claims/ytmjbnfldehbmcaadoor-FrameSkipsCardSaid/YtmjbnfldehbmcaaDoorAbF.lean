/-
The walk over the program's texts, told with what its values say: a part of it. No further condition.
-/
import Derived.Test.YtmjbnfldehbmcaaDoorAbE
namespace Go.Proofs.YtmjbnfldehbmcaaDoor.Ab
open Go.RowKit
set_option linter.unusedVariables false
set_option linter.unusedSimpArgs false
section
variable {P : Program} {φ : Phi} {I : Nat → Prop} {σ : St} {w w' : World} {nt : Nat} {env : Env} {a : Act}
theorem Flat.append {z : Nat} {xs ys : List (List V)} {A B : Array Value} (h : Flat φ I w z xs A) (k : Flat φ I w z ys B) (R : Array Value) :
    (∀ e ∈ xs ++ ys, e.length = z) ∧ (xs ++ ys).length * z ≤ (A ++ B ++ R).size ∧ (∀ i j, i < (xs ++ ys).length → j < z → ((A ++ B ++ R).getD (i * z + j) undef).oneCell' = true) ∧
      ∀ i j e v, (xs ++ ys)[i]? = some e → e[j]? = some v → Rel φ I w v ((A ++ B ++ R).getD (i * z + j) undef) := by
  have hl : ∀ i j, i < xs.length → j < z → (A ++ B ++ R).getD (i * z + j) undef = A.getD (i * z + j) undef := fun i j hi hj => by
    have := mul_lt_of hi hj
    have h1 : i * z + j < A.size := by rw [h.size]; exact this
    simp only [Array.getD_eq_getD_getElem?]
    rw [Array.getElem?_append_left (by simp; omega), Array.getElem?_append_left h1]
  have hr : ∀ i j, xs.length ≤ i → i < (xs ++ ys).length → j < z → (A ++ B ++ R).getD (i * z + j) undef = B.getD ((i - xs.length) * z + j) undef := fun i j hi hi2 hj => by
    rw [List.length_append] at hi2
    have h1 := mul_lt_of (n := ys.length) (i := i - xs.length) (z := z) (by omega) hj
    have h2 : (i - xs.length) * z + xs.length * z = i * z := by rw [← Nat.add_mul]; congr 1; omega
    simp only [Array.getD_eq_getD_getElem?]
    rw [Array.getElem?_append_left (by rw [Array.size_append, h.size, k.size]; omega), Array.getElem?_append_right (by rw [h.size]; omega), h.size]
    congr 2; omega
  refine ⟨fun e he => ?_, ?_, fun i j hi hj => ?_, fun i j e v h1 h2 => ?_⟩
  · rcases List.mem_append.1 he with h' | h'
    · exact h.len e h'
    · exact k.len e h'
  · rw [List.length_append, Nat.add_mul, Array.size_append, Array.size_append, h.size, k.size]; omega
  · by_cases hx : i < xs.length
    · rw [hl i j hx hj]; exact h.one i j hx hj
    · rw [hr i j (by omega) hi hj]; rw [List.length_append] at hi; exact k.one _ j (by omega) hj
  · have hi := (List.getElem?_eq_some_iff.1 h1).1
    have hjl := (List.getElem?_eq_some_iff.1 h2).1
    by_cases hx : i < xs.length
    · rw [List.getElem?_append_left hx] at h1
      have hj : j < z := by rw [← h.len e (List.mem_of_getElem? h1)]; exact hjl
      rw [hl i j hx hj]
      exact h.rel i j e v h1 h2
    · rw [List.getElem?_append_right (by omega)] at h1
      have hj : j < z := by rw [← k.len e (List.mem_of_getElem? h1)]; exact hjl
      rw [hr i j (by omega) hi hj]
      exact k.rel _ j e v h1 h2
theorem Flat.scal {z : Nat} {ys : List (List V)} {B : Array Value} (k : Flat φ I w z ys B) : ∀ v ∈ B.toList, v.oneCell' = true := fun v hv => by
  obtain ⟨i, hi, rfl⟩ := List.mem_iff_getElem.1 hv
  have hi' : i < ys.length * z := by rw [← k.size]; simpa using hi
  obtain ⟨h1, h2, h3⟩ := divmod_lt hi'
  have hz : 0 < z := by
    rcases Nat.eq_zero_or_pos z with h | h
    · subst h; simp at hi'
    · exact h
  have := k.one (i / z) (i % z) h1 (h2 hz)
  rw [h3] at this
  have hg : B.getD i undef = B.toList[i] := by simp [show i < B.size by simpa using hi]
  rwa [hg] at this
/-- The row behind an append in its place. -/
theorem put_row {z n : Nat} {es ys : List (List V)} {arr arr' B : Array Value} {base : Nat} (hz : ∀ e ∈ es, e.length = z) (hsz : base + es.length * z ≤ arr.size)
    (ho : ∀ i j, i < es.length → j < z → (arr.getD (base + i * z + j) undef).oneCell' = true) (hr : ∀ i j e v, es[i]? = some e → e[j]? = some v → Rel φ I w v (arr.getD (base + i * z + j) undef))
    (k : Flat φ I w z ys B) (hn : n ≤ es.length) (hs : base + (n + ys.length) * z ≤ arr'.size) (hsame : arr'.size = arr.size)
    (hg : ∀ i, arr'.getD i undef = if base + n * z ≤ i ∧ i < base + n * z + B.size then B.getD (i - (base + n * z)) undef else arr.getD i undef) :
    (∀ e ∈ es.take n ++ ys ++ es.drop (n + ys.length), e.length = z) ∧ base + (es.take n ++ ys ++ es.drop (n + ys.length)).length * z ≤ arr'.size ∧
      (∀ i j, i < (es.take n ++ ys ++ es.drop (n + ys.length)).length → j < z → (arr'.getD (base + i * z + j) undef).oneCell' = true) ∧
      ∀ i j e v, (es.take n ++ ys ++ es.drop (n + ys.length))[i]? = some e → e[j]? = some v → Rel φ I w v (arr'.getD (base + i * z + j) undef) := by
  have hlen : (es.take n ++ ys ++ es.drop (n + ys.length)).length = max es.length (n + ys.length) := by simp; omega
  have hmem : ∀ e ∈ es.take n ++ ys ++ es.drop (n + ys.length), e.length = z := fun e he => by
    simp only [List.mem_append] at he
    rcases he with (he | he) | he
    · exact hz e (List.mem_of_mem_take he)
    · exact k.len e he
    · exact hz e (List.mem_of_mem_drop he)
  have hget : ∀ i, (es.take n ++ ys ++ es.drop (n + ys.length))[i]? = if n ≤ i ∧ i < n + ys.length then ys[i - n]? else es[i]? := fun i => by
    rw [List.append_assoc, List.getElem?_append, List.length_take, Nat.min_eq_left hn]
    by_cases h1 : i < n
    · rw [if_pos h1, if_neg (by omega), List.getElem?_take, if_pos h1]
    · rw [if_neg h1, List.getElem?_append]
      by_cases h2 : i - n < ys.length
      · rw [if_pos h2, if_pos (by omega)]
      · rw [if_neg h2, if_neg (by omega), List.getElem?_drop]
        congr 1; omega
  have hin : ∀ i j, n ≤ i → i < n + ys.length → j < z → arr'.getD (base + i * z + j) undef = B.getD ((i - n) * z + j) undef := fun i j h1 h2 hj => by
    have h3 := mul_lt_of (n := ys.length) (i := i - n) (z := z) (by omega) hj
    have h4 : (i - n) * z + n * z = i * z := by rw [← Nat.add_mul]; congr 1; omega
    rw [hg, if_pos (by rw [k.size]; omega)]
    congr 1; omega
  have hout : ∀ i j, ¬ (n ≤ i ∧ i < n + ys.length) → j < z → arr'.getD (base + i * z + j) undef = arr.getD (base + i * z + j) undef := fun i j h1 hj => by
    rw [hg, if_neg]
    rw [k.size]
    intro ⟨h2, h3⟩
    rcases Nat.lt_or_ge i n with h4 | h4
    · have : (i + 1) * z ≤ n * z := Nat.mul_le_mul_right z h4
      rw [Nat.add_mul] at this; omega
    · have : (n + ys.length) * z ≤ i * z := Nat.mul_le_mul_right z (by omega)
      rw [Nat.add_mul] at this; omega
  refine ⟨hmem, ?_, fun i j hi hj => ?_, fun i j e v h1 h2 => ?_⟩
  · rw [hlen]
    rcases Nat.le_total es.length (n + ys.length) with h | h
    · rw [Nat.max_eq_right h]; exact hs
    · rw [Nat.max_eq_left h, hsame]; exact hsz
  · by_cases h1 : n ≤ i ∧ i < n + ys.length
    · rw [hin i j h1.1 h1.2 hj]; exact k.one _ j (by omega) hj
    · rw [hout i j h1 hj]; rw [hlen] at hi; exact ho i j (by omega) hj
  · have hj : j < z := by rw [← hmem e (List.mem_of_getElem? h1)]; exact (List.getElem?_eq_some_iff.1 h2).1
    rw [hget] at h1
    split at h1
    · rename_i h3
      rw [hin i j h3.1 h3.2 hj]; exact k.rel _ j e v h1 h2
    · rename_i h3
      rw [hout i j h3 hj]; exact hr i j e v h1 h2
theorem Flat.mono {φ' : Phi} {w' : World} {z : Nat} {ys : List (List V)} {B : Array Value} (k : Flat φ I w z ys B) (h : ∀ {v c}, Rel φ I w v c → Rel φ' I w' v c) : Flat φ' I w' z ys B :=
  ⟨k.size, k.len, k.one, fun i j e v h1 h2 => h (k.rel i j e v h1 h2)⟩
theorem acts_app {o : Oper} {c : Call} {t u e : TypeId} {ud : TypeDesc} {inf : TypeInfo} {x y : Operand} {x' y' : Opd} {v : V} {σ' : St} (ho : o.op = .call c) (hc : c.callee = .builtin .append) (h0 : c.argTypes[0]? = some t) (h1 : c.argTypes[1]? = some u)
    (ha : c.args.toList = [x, y]) (ht : P.underlying t = some (.slice e)) (hu : P.underlying u = some ud) (hud : isIntD ud = false) (hi : P.info? e = some inf) (hzp : 0 < inf.size) (hb0 : 0 < inf.bytes) (hb1 : inf.bytes ≤ 65536) (hzs : (inf.zero.map fun z => z.cells.size) = some inf.size)
    (hs : Sim φ I σ w) (hf : EnvR φ I w nt env a) (hx : cOpd nt x = some x') (hy : cOpd nt y = some y') (he : evI env σ (.app inf.bytes inf.size x' y') = some (v, σ')) : Acts P φ I σ w a o v σ' := by
  have q1 := cOpd_rel hf hx
  have q2 := cOpd_rel hf hy
  obtain ⟨zv, hzv, hzz⟩ := Option.map_eq_some_iff.1 hzs
  obtain ⟨dst, op', ty, pos, after, guard⟩ := o
  simp only at ho; subst ho
  obtain ⟨cal, args, ts⟩ := c
  simp only at hc h0 h1 ha; subst hc
  obtain rfl : args = #[x, y] := by cases args; simp_all
  have hrun : ∀ {V' : Value} {W : World}, (Builtin.append_ ts ty #[a.eval x, a.eval y]).run P w = .ok V' W → (execOp a.eval ⟨dst, .call ⟨.builtin .append, #[x, y], ts⟩, ty, pos, after, guard⟩).run P w = .ok (.value V') W := fun h => by
    have hm : Array.map a.eval #[x, y] = #[a.eval x, a.eval y] := by simp
    simp only [execOp, resolve, Sem.run_bind, Sem.run_pure, Result.andThen_ok, invoke, builtin, hm, h]
  simp only [evI] at he
  simp only [Option.bind_eq_some_iff] at he
  obtain ⟨ys, hys, he⟩ := he
  obtain ⟨new, hnew, hlenY, hfirst⟩ := first_run (P := P) hs q2 hys
  have hnew0 : ys = [] → new = #[] := fun e => by
    have := hnew.size
    rw [e] at this
    simpa using this
  have zsize : ∀ n, (Builtin.zeroCells zv.cells n).size = n * inf.size := fun n => by simp [Builtin.zeroCells, hzz]
  have stay : ∀ {b : Option Addr} {n k : Nat}, a.eval x = .slice b n k → n ≤ k → ys = [] → Acts P φ I σ w a ⟨dst, .call ⟨.builtin .append, #[x, y], ts⟩, ty, pos, after, guard⟩ (x'.ev env) σ := fun hq hnk e0 => by
    refine Quiet.acts hs ⟨a.eval x, ?_, q1⟩
    have h2 := hlenY w
    have h3 := hfirst w rfl
    rw [e0] at h2 h3
    rw [hq]
    have h4 := hrun (V' := a.eval x) (W := w) (by rw [hq]; exact run_app_room0 h0 h1 ht hu hud hi h2 h3 hnk (hnew0 e0))
    rw [hq] at h4
    exact h4
  split at he
  · rename_i e1
    split at he
    · rename_i e0
      simp only [Option.some.injEq, Prod.mk.injEq] at he
      obtain ⟨rfl, rfl⟩ := he
      rw [← e1]
      generalize hq : a.eval x = q at q1
      rw [e1] at q1
      cases q1
      exact stay hq (Nat.le_refl _) e0
    · rename_i e0
      split at he <;> simp only [Option.some.injEq, Prod.mk.injEq, reduceCtorEq] at he
      rename_i hlim
      obtain ⟨rfl, rfl⟩ := he
      generalize hq : a.eval x = q at q1
      rw [e1] at q1
      cases q1
      have hpos : 0 < ys.length := List.length_pos_iff.2 e0
      obtain ⟨cap, hcap, hrn⟩ := run_app_grow (P := P) (w := w) (ts := ts) (ty := ty) (base := none) (sLen := 0) (sCap := 0) (old := #[]) h0 h1 ht hu hud hi (hlenY w) (by omega)
        (bytes_le (by omega) hb1 (by rw [Nat.zero_add]; exact hlim.1)) hb0 hzv (fun wx _ => by simp [Builtin.firstCells]) hfirst
      rw [Nat.zero_add] at hcap hrn
      obtain ⟨f1, f2, f3, f4⟩ := Flat.append (xs := []) (A := #[]) ⟨by simp, fun e h => by simp at h, fun i j h => by simp at h, fun i j e v h => by simp at h⟩ hnew (Builtin.zeroCells zv.cells (cap - ys.length))
      rw [List.nil_append] at f1 f2 f3 f4
      obtain ⟨s1, s2⟩ := row_new (w' := { w with heap := w.heap.push (.cells (#[] ++ new ++ Builtin.zeroCells zv.cells (cap - ys.length)) e (0, 0)), drawn := w.drawn + 1 }) hs rfl ⟨rfl, rfl, rfl⟩ (fits_none _) hzp f1 f2 f3 f4
      refine ⟨_, _, _, _, .inl (hrun (by rw [hq]; exact hrn)), new_rel (t := e) (fz := (0, 0)) hs rfl hcap ?_, s1, s2⟩
      rw [Array.size_append, Array.size_append, hnew.size, zsize, Array.size_empty, Nat.zero_add, ← Nat.add_mul]
      congr 1; omega
  · rename_i z' es e1
    split at he <;> simp only [Option.some.injEq, Prod.mk.injEq, reduceCtorEq] at he
    rename_i e0
    obtain ⟨rfl, rfl⟩ := he
    rw [← e1]
    generalize hq : a.eval x = q at q1
    rw [e1] at q1
    cases q1
    exact stay hq (by assumption) e0
  · rename_i l off len e1
    split at he
    · rename_i e0
      simp only [Option.some.injEq, Prod.mk.injEq] at he
      obtain ⟨rfl, rfl⟩ := he
      rw [← e1]
      generalize hq : a.eval x = q at q1
      rw [e1] at q1
      cases q1
      exact stay hq (by assumption) e0
    · rename_i e0
      split at he <;> (try (simp only [reduceCtorEq] at he; done))
      rename_i z' es hH
      split at he <;> (try (simp only [reduceCtorEq] at he; done))
      rename_i hlim
      obtain ⟨rfl, hl1, hl2⟩ := hlim
      have hpos : 0 < ys.length := List.length_pos_iff.2 e0
      obtain ⟨b, base, arr, t', fz, hφ, hh, hfz, hzpos, hz, hsz, ho1, hr⟩ := hs.row hH
      generalize hq : a.eval x = q at q1
      have q1' := q1
      rw [e1] at q1
      cases q1 with
      | slc hφ' hlc hN had =>
        rename_i b' base' z2 cap ad
        rw [hφ] at hφ'
        simp only [Option.some.injEq, Prod.mk.injEq] at hφ'
        obtain ⟨rfl, rfl, rfl⟩ := hφ'
        have hcell : cellsOf w b = arr.size := by simp [cellsOf, hh]
        have hlv : (σ.H l).isSome = true := by rw [hH]; rfl
        have hcapm : (off + cap) * inf.size = off * inf.size + cap * inf.size := Nat.add_mul _ _ _
        -- in its place
        have place : len + ys.length ≤ cap → ∃ w1 arr', (execOp a.eval ⟨dst, .call ⟨.builtin .append, #[x, y], ts⟩, ty, pos, after, guard⟩).run P w = .ok (.value (.slice (some ad) (len + ys.length) cap)) w1 ∧ w1.heap[b]? = some (.cells arr' t' fz) ∧ arr'.size = arr.size ∧ w1.heap.size = w.heap.size ∧
            (∀ k, k ≠ b → w1.heap[k]? = w.heap[k]?) ∧ Same w w1 ∧ ∀ k, arr'.getD k undef = if base + (off + len) * inf.size ≤ k ∧ k < base + (off + len) * inf.size + new.size then new.getD (k - (base + (off + len) * inf.size)) undef else arr.getD k undef := fun hroom => by
          have hm : (len + ys.length) * inf.size ≤ cap * inf.size := Nat.mul_le_mul_right _ hroom
          rw [Nat.add_mul] at hm
          have hm2 : (off + len) * inf.size = off * inf.size + len * inf.size := Nat.add_mul _ _ _
          obtain ⟨w1, arr', r1, r2, r3, r4, r5, r6, r7⟩ := run_storeCells (P := P) new.toList (base + (off + len) * inf.size) 0 arr w hh hfz (by rw [Array.length_toList, hnew.size]; omega) hnew.scal
          have hst : (storeCells (ad.add (len * inf.size)) new.toList 0).run P w = .ok () w1 := by
            rw [had (by omega), Addr.add_lit, show base + off * inf.size + len * inf.size = base + (off + len) * inf.size by omega]
            exact r1
          refine ⟨w1, arr', hrun (by rw [hq]; exact run_app_room h0 h1 ht hu hud hi (hlenY w) (hfirst w rfl) hroom hst), r2, r3, r4, r5, r6, fun k => ?_⟩
          rw [r7 k, Array.length_toList, Nat.add_zero]
          simp
        split at he
        · rename_i hle
          simp only [Option.some.injEq, Prod.mk.injEq] at he
          obtain ⟨rfl, rfl⟩ := he
          have hroom : len + ys.length ≤ cap := by
            have h5 : es.length * inf.size ≤ (off + cap) * inf.size := by omega
            have := Nat.le_of_mul_le_mul_right h5 hzpos
            omega
          obtain ⟨w1, arr', g1, g2, g3, g4, g5, g6, g7⟩ := place hroom
          have hN1 : cellsOf w1 b = cellsOf w b := by simp [cellsOf, g2, hh, g3]
          have kp : ∀ {v : V} {c : Value}, Rel φ I w v c → Rel φ I w1 v c := fun h => rel_turn hs hlv hφ g5 hN1 (fun _ _ h => h) h
          have hm3 : (off + len + ys.length) * inf.size ≤ es.length * inf.size := Nat.mul_le_mul_right _ hle
          obtain ⟨p1, p2, p3, p4⟩ := put_row (w := w1) (n := off + len) hz hsz ho1 (fun i j e v h1 h2 => kp (hr i j e v h1 h2)) (hnew.mono kp) (by omega) (by omega) g3 g7
          obtain ⟨s1, s2⟩ := sim_turn hs hlv hφ g5 g4 hN1 g6 (.row g2 (hfz.size (by omega)) hzpos p1 p2 p3 p4)
          refine ⟨_, w1, φ, I, .inl g1, .slc hφ hroom (hN.trans hN1.symm) had, s1, s2⟩
        · split at he <;> simp only [Option.some.injEq, Prod.mk.injEq, reduceCtorEq] at he
          rename_i hend
          obtain ⟨rfl, rfl⟩ := he
          by_cases hroom : len + ys.length ≤ cap
          · obtain ⟨w1, arr', g1, g2, g3, g4, g5, g6, g7⟩ := place hroom
            have hN1 : cellsOf w1 b = cellsOf w b := by simp [cellsOf, g2, hh, g3]
            have hm : (len + ys.length) * inf.size ≤ cap * inf.size := Nat.mul_le_mul_right _ hroom
            have hm1 : (off + len + ys.length) * inf.size = off * inf.size + (len + ys.length) * inf.size := by rw [Nat.add_assoc, Nat.add_mul]
            have kp : ∀ {φ' : Phi}, (∀ l y, φ l = some y → φ' l = some y) → ∀ {v : V} {c : Value}, Rel φ I w v c → Rel φ' I w1 v c := fun hφ' _ _ h => rel_turn hs hlv hφ g5 hN1 hφ' h
            obtain ⟨s1, s2⟩ := sim_move (y := (b, base + off * inf.size, inf.size)) hs hlv hφ rfl g5 g4 hN1 g6 (blk := .row inf.size (es.drop off ++ ys)) (fun φ' hφ' => by
              obtain ⟨p1, p2, p3, p4⟩ := put_row (φ := φ') (w := w1) (n := off + len) hz hsz ho1 (fun i j e v h1 h2 => kp hφ' (hr i j e v h1 h2)) (hnew.mono (kp hφ')) (by omega) (by omega) g3 g7
              have hes : es.take (off + len) ++ ys ++ es.drop (off + len + ys.length) = es ++ ys := by
                rw [hend, List.take_length, List.drop_eq_nil_of_le (by omega), List.append_nil]
              rw [hes] at p1 p2 p3 p4
              have hidx : ∀ i j, base + off * inf.size + i * inf.size + j = base + (off + i) * inf.size + j := fun i j => by rw [Nat.add_mul]; omega
              have hgi : ∀ i, (es.drop off ++ ys)[i]? = (es ++ ys)[off + i]? := fun i => by
                rw [← List.getElem?_drop, List.drop_append_of_le_length (by omega)]
              refine .row g2 (hfz.size (by omega)) hzpos (fun e he => p1 e ?_) ?_ (fun i j hi hj => ?_) (fun i j e v h1 h2 => ?_)
              · rcases List.mem_append.1 he with h | h
                · exact List.mem_append_left _ (List.mem_of_mem_drop h)
                · exact List.mem_append_right _ h
              · rw [List.length_append, List.length_drop]
                rw [List.length_append] at p2
                have : (es.length - off + ys.length) * inf.size + off * inf.size = (es.length + ys.length) * inf.size := by rw [← Nat.add_mul]; congr 1; omega
                omega
              · rw [hidx]; rw [List.length_append, List.length_drop] at hi; exact p3 _ j (by rw [List.length_append]; omega) hj
              · rw [hidx]; rw [hgi] at h1; exact p4 _ j e v h1 h2)
            refine ⟨_, w1, _, I, .inl g1, .slc (b := b) (base := base + off * inf.size) (z := inf.size) (by simp [Phi.put]) hroom ?_ (fun hne => ?_), s1, s2⟩
            · rw [hN1, ← hN, hcapm]; simp; omega
            · rw [had hne]; simp
          · -- none: a new row
            have hct : cont σ inf.size (.slc l off len) = some ((es.drop off).take len) := by
              simp [cont, hH]
              omega
            have hdrop : (es.drop off).take len = es.drop off := List.take_of_length_le (by rw [List.length_drop]; omega)
            rw [hdrop] at hct
            rw [e1] at q1'
            obtain ⟨old, hold, _, hfo⟩ := first_run (P := P) hs q1' (ys := es.drop off) (by unfold srcOf; exact hct)
            have hdl : (es.drop off).length = len := by rw [List.length_drop]; omega
            rw [hdl] at hfo
            obtain ⟨cap2, hcap, hrn⟩ := run_app_grow (P := P) (w := w) (ts := ts) (ty := ty) (base := some ad) (sLen := len) (sCap := cap) (old := old) h0 h1 ht hu hud hi (hlenY w) hroom
              (bytes_le (by omega) hb1 hl1) hb0 hzv hfo hfirst
            obtain ⟨k1, k2⟩ := sim_kill hs l
            obtain ⟨f1, f2, f3, f4⟩ := Flat.append hold hnew (Builtin.zeroCells zv.cells (cap2 - (len + ys.length)))
            obtain ⟨s1, s2⟩ := row_new (w' := { w with heap := w.heap.push (.cells (old ++ new ++ Builtin.zeroCells zv.cells (cap2 - (len + ys.length))) e (0, 0)), drawn := w.drawn + 1 }) k2 rfl ⟨rfl, rfl, rfl⟩ (fits_none _) hzpos f1 f2 f3 f4
            refine ⟨_, _, _, _, .inl (hrun (by rw [hq]; exact hrn)), ?_, k1.trans s1, s2⟩
            have := new_rel (t := e) (fz := (0, 0)) (len := len + ys.length) (cap := cap2) (z := inf.size) (w' := { w with heap := w.heap.push (.cells (old ++ new ++ Builtin.zeroCells zv.cells (cap2 - (len + ys.length))) e (0, 0)), drawn := w.drawn + 1 }) k2 rfl hcap (by
              rw [Array.size_append, Array.size_append, hold.size, hnew.size, zsize, hdl, ← Nat.add_mul, ← Nat.add_mul]
              congr 1; omega)
            exact this
  · simp at he
end
end Go.Proofs.YtmjbnfldehbmcaaDoor.Ab
