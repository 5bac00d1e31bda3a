/-
The walk over the program's texts, told with what its values say: a part of it. No further condition.
-/
import Derived.Test.YticpkoakbneefaaAbC
namespace Go.Proofs.Yticpkoakbneefaa.Ab
open Go.RowKit
set_option linter.unusedVariables false
set_option linter.unusedSimpArgs false
section
variable {P : Program} {φ : Phi} {I : Nat → Prop} {σ : St} {w w' : World} {nt : Nat} {env : Env} {a : Act}
theorem bytes_row (s : ByteArray) (rest : Array Value) : (∀ i j e v, (s.data.toList.map byteE)[i]? = some e → e[j]? = some v → Rel φ I w v (((s.data.map fun b => Value.int .u8 b.toNat) ++ rest).getD (i * 1 + j) undef)) ∧
    (∀ i j, i < (s.data.toList.map byteE).length → j < 1 → (((s.data.map fun b => Value.int .u8 b.toNat) ++ rest).getD (i * 1 + j) undef).oneCell' = true) ∧ (∀ e ∈ s.data.toList.map byteE, e.length = 1) := by
  have hg : ∀ i, (hi : i < s.data.size) → ((s.data.map fun b => Value.int .u8 b.toNat) ++ rest).getD i undef = .int .u8 s.data[i].toNat := fun i hi => by
    have hi2 : i < s.size := hi
    simp [Array.getElem?_append, hi, hi2]
  refine ⟨fun i j e v h1 h2 => ?_, fun i j h1 h2 => ?_, fun e he => ?_⟩
  · simp only [List.getElem?_map, Option.map_eq_some_iff] at h1
    obtain ⟨b, hb, rfl⟩ := h1
    obtain ⟨hi, hbe⟩ := List.getElem?_eq_some_iff.1 hb
    have hi' : i < s.data.size := by simpa using hi
    cases j with
    | zero =>
      simp [byteE] at h2
      subst h2
      rw [Nat.mul_one, Nat.add_zero, hg i hi']
      have : s.data[i] = b := by simpa using hbe
      rw [this]
      exact .int _ _
    | succ j => simp [byteE] at h2
  · have hi' : i < s.data.size := by simpa using h1
    have : j = 0 := by omega
    subst this
    rw [Nat.mul_one, Nat.add_zero, hg i hi']
    rfl
  · simp only [List.mem_map] at he
    obtain ⟨b, _, rfl⟩ := he
    rfl
theorem acts_s2b {o : Oper} {s t e : TypeId} {x : Operand} {x' : Opd} {v : V} {σ' : St} (ho : o.op = .convert s t x) (hs : P.underlying s = some .string) (ht : P.underlying t = some (.slice e)) (he8 : P.underlying e = some (.int .u8))
    (hS : Sim φ I σ w) (hf : EnvR φ I w nt env a) (hx : cOpd nt x = some x') (he : evI env σ (.s2b x') = some (v, σ')) : Acts P φ I σ w a o v σ' := by
  have h := cOpd_rel hf hx
  obtain ⟨dst, op', ty, pos, after, guard⟩ := o
  simp only at ho; subst ho
  simp only [evI] at he
  split at he <;> simp only [Option.some.injEq, Prod.mk.injEq, reduceCtorEq] at he
  rename_i l e1
  rw [e1] at h
  obtain ⟨b, hb, rfl⟩ := h.str_inv
  obtain ⟨rfl, rfl⟩ := he
  let q : Question := .appendCap b.size 0 e
  let cap := q.cut (w.tape w.drawn q)
  have hcap : b.size ≤ cap := by show b.size ≤ b.size + _; exact Nat.le_add_right _ _
  let arr : Array Value := (b.data.map fun b => Value.int .u8 b.toNat) ++ Array.replicate (cap - b.size) (.int .u8 0)
  have hasz : arr.size = cap := by simp only [arr, Array.size_append, Array.size_map, Array.size_replicate]; have : b.data.size = b.size := rfl; omega
  let w1 : World := { w with heap := w.heap.push (.cells arr e (arr.size, arr.size + 1)), drawn := w.drawn + 1 }
  obtain ⟨c1, c2, c3⟩ := bytes_row (φ := φ) (I := I) (w := w) b (Array.replicate (cap - b.size) (.int .u8 0))
  obtain ⟨q1, q2⟩ := row_new (w' := w1) (t := e) (fz := (arr.size, arr.size + 1)) hS rfl ⟨rfl, rfl, rfl⟩ (.inr (Nat.le_refl _)) (z := 1) (by omega) c3 (by rw [hasz]; simp; exact hcap) c2 c1
  have hlen : b.data.toList.length = b.size := by simp
  have hrel := new_rel (w' := w1) (t := e) (fz := (arr.size, arr.size + 1)) (z := 1) (len := b.size) (cap := cap) hS rfl hcap (by rw [hasz, Nat.mul_one])
  refine ⟨.slice (some ⟨w.heap.size, 0, none⟩) b.size cap, w1, _, _, .inl ?_, by rw [hlen]; exact hrel, q1, q2⟩
  have hfo : q.forced = false := rfl
  have hrun : (Conv.stringToBytes e b).run P w = .ok (.slice (some ⟨w.heap.size, 0, none⟩) b.size cap) w1 := by
    unfold Conv.stringToBytes
    rw [Sem.run_bind, run_choose, if_neg (by show ¬ (q.forced = true); rw [hfo]; simp)]
    simp only [Result.andThen_ok, newRow, Sem.run_bind, run_newObj, Sem.run_pure, markStringish, run_shape]
    have hsh : World.shape? { heap := w.heap.push (.cells arr e (0, 0)), tape := w.tape, drawn := w.drawn + 1, os := w.os, output := w.output } w.heap.size = some (e, arr.size) := by simp [World.shape?]
    have hfz : World.freeze { heap := w.heap.push (.cells arr e (0, 0)), tape := w.tape, drawn := w.drawn + 1, os := w.os, output := w.output } ⟨w.heap.size, arr.size, none⟩ 1 = w1 := by
      unfold World.freeze
      rw [if_neg (by simp)]
      simp only [w1]
      congr 1
      apply Array.ext_getElem?
      intro i
      simp only [Array.getElem?_modify, Array.getElem?_push]
      by_cases hi : w.heap.size = i
      · subst hi; simp
      · simp [hi, Ne.symm hi]
    show (Sem.run P (match World.shape? { heap := w.heap.push (.cells arr e (0, 0)), tape := w.tape, drawn := w.drawn + 1, os := w.os, output := w.output } w.heap.size with | some (_, n) => freeze ⟨w.heap.size, n, none⟩ 1 | x => pure ()) _).andThen _ = _
    rw [hsh]
    simp only [run_freeze, Result.andThen_ok]
    rw [hfz]
  simp only [execOp, hb, convert, Sem.run_bind, run_underlying hs, run_underlying ht, Result.andThen_ok, run_underlying he8]
  rw [hrun]
  rfl
theorem set_same {σ : St} {l : Nat} {b : Blk} (h : σ.H l = some b) : σ.set l b = σ := by
  cases σ with
  | mk H n W =>
    simp only [St.set, St.mk.injEq, and_true]
    funext k
    simp only [upd]
    split
    · rename_i e; rw [e]; exact h.symm
    · rfl
theorem acts_b2b {o : Oper} {s e e' : TypeId} {x : Operand} {x' : Opd} {v : V} {σ' : St} (ho : o.op = .convert s s x) (hs1 : P.underlying s = some (.slice e')) (hs2 : P.underlying s = some (.slice e)) (he8 : P.underlying e = some (.int .u8))
    (hs : Sim φ I σ w) (hf : EnvR φ I w nt env a) (hx : cOpd nt x = some x') (he : evI env σ (.b2b x') = some (v, σ')) : Acts P φ I σ w a o v σ' := by
  have h := cOpd_rel hf hx
  obtain ⟨dst, op', ty, pos, after, guard⟩ := o
  simp only at ho; subst ho
  simp only [evI] at he
  split at he <;> (try (simp only [reduceCtorEq] at he; done))
  rename_i l off len e1
  split at he <;> (try (simp only [reduceCtorEq] at he; done))
  rename_i z es hH
  split at he <;> simp only [Option.some.injEq, Prod.mk.injEq, reduceCtorEq] at he
  rename_i hpos
  obtain ⟨rfl, rfl⟩ := he
  rw [e1] at h
  have h' := h
  generalize hq : a.eval x = q at h h'
  cases h with
  | slc hφ hl hN ha =>
    rename_i b base z' cap ad
    obtain ⟨b', base', arr, t, fz, q1, hh, hfz, hz, hzz, hsz, ho1, hr⟩ := hs.row hH
    rw [hφ] at q1
    simp only [Option.some.injEq, Prod.mk.injEq] at q1
    obtain ⟨rfl, rfl, rfl⟩ := q1
    have had := ha (by omega)
    subst had
    let fz' : Nat × Nat := if fz.1 == fz.2 then (arr.size, arr.size + 1) else (min fz.1 arr.size, max fz.2 (arr.size + 1))
    have hfz' : fits arr fz' := by
      unfold fits
      simp only [fz']
      rcases hfz with h | h
      · simp [h]
      · split
        · exact .inr (Nat.le_refl _)
        · right; simp; omega
    let w1 := w.freeze ⟨b, arr.size, none⟩ 1
    have g1 : w1.heap[b]? = some (.cells arr t fz') := by
      simp only [w1, World.freeze]
      rw [if_neg (by simp)]
      simp only [Array.getElem?_modify, if_true, hh, Option.map_some, fz']
    have g2 : ∀ k, k ≠ b → w1.heap[k]? = w.heap[k]? := fun k hk => by
      simp only [w1, World.freeze]
      rw [if_neg (by simp)]
      simp only [Array.getElem?_modify, if_neg (Ne.symm hk)]
    have g3 : w1.heap.size = w.heap.size := by
      simp only [w1, World.freeze]
      rw [if_neg (by simp)]
      simp
    have hNN : cellsOf w1 b = cellsOf w b := by simp [cellsOf, g1, hh]
    have hlv : (σ.H l).isSome = true := by rw [hH]; rfl
    have g6 : Same w w1 := by
      simp only [w1, World.freeze]
      rw [if_neg (by simp)]
      exact ⟨rfl, rfl, rfl⟩
    have kp : ∀ {v : V} {c : Value}, Rel φ I w v c → Rel φ I w1 v c := fun h => rel_turn hs hlv hφ g2 hNN (fun _ _ h => h) h
    obtain ⟨s1, s2⟩ := sim_turn hs hlv hφ g2 g3 hNN g6 (.row g1 hfz' hz hzz hsz ho1 fun i j e v h1 h2 => kp (hr i j e v h1 h2)) (.cells hh g2)
    rw [set_same hH] at s1 s2
    refine ⟨_, w1, φ, I, .inl ?_, kp h', s1, s2⟩
    have hsh : w.shape? b = some (t, arr.size) := by simp [World.shape?, hh]
    simp only [execOp, hq, convert, Sem.run_bind, run_underlying hs1, Result.andThen_ok]
    rw [hs1] at hs2
    obtain rfl : e' = e := by simpa using hs2
    simp [run_underlying he8, markStringish, hsh, Sem.run_bind]
    rfl
end
end Go.Proofs.Yticpkoakbneefaa.Ab
namespace Go.Proofs.Yticpkoakbneefaa.Ab
open Go.RowKit
set_option linter.unusedVariables false
set_option linter.unusedSimpArgs false
section
variable {P : Program} {φ : Phi} {I : Nat → Prop} {σ : St} {w w' : World} {nt : Nat} {env : Env} {a : Act}
/-- An array's cells are those of a row. -/
structure Flat (φ : Phi) (I : Nat → Prop) (w : World) (z : Nat) (ys : List (List V)) (arr : Array Value) : Prop where
  size : arr.size = ys.length * z
  len : ∀ e ∈ ys, e.length = z
  one : ∀ i j, i < ys.length → j < z → (arr.getD (i * z + j) undef).oneCell' = true
  rel : ∀ i j e v, ys[i]? = some e → e[j]? = some v → Rel φ I w v (arr.getD (i * z + j) undef)
theorem divmod_lt {k n z : Nat} (h : k < n * z) : k / z < n ∧ (0 < z → k % z < z) ∧ k / z * z + k % z = k := by
  refine ⟨Nat.div_lt_of_lt_mul (by rw [Nat.mul_comm]; exact h), fun hz => Nat.mod_lt _ hz, ?_⟩
  rw [Nat.mul_comm]; exact Nat.div_add_mod k z
/-- A slice's cells are loaded. -/
theorem load_flat {z : Nat} {ad : Addr} {ys : List (List V)} (hz : ∀ e ∈ ys, e.length = z) (hc : ∀ i j e u, ys[i]? = some e → e[j]? = some u → ∃ x, w.cell? (ad.add (i * z + j)) = some x ∧ x.oneCell' = true ∧ Rel φ I w u x) :
    ∃ arr, Flat φ I w z ys arr ∧ ∀ wx : World, wx.heap = w.heap → (loadCells ad (ys.length * z)).run P wx = .ok arr wx := by
  have hk : ∀ k, k < ys.length * z → ∃ x, w.cell? (ad.add k) = some x ∧ x.oneCell' = true ∧ ∀ e u, ys[k / z]? = some e → e[k % z]? = some u → Rel φ I w u x := fun k hk => by
    obtain ⟨h1, h2, h3⟩ := divmod_lt hk
    have hzp : 0 < z := by
      rcases Nat.eq_zero_or_pos z with h | h
      · subst h; simp at hk
      · exact h
    have hi : ys[k / z]? = some ys[k / z] := List.getElem?_eq_getElem h1
    have hel := hz _ (List.mem_of_getElem? hi)
    have hj : (ys[k / z])[k % z]? = some ((ys[k / z])[k % z]'(by rw [hel]; exact h2 hzp)) := List.getElem?_eq_getElem _
    obtain ⟨x, hx, ho, hr⟩ := hc _ _ _ _ hi hj
    rw [h3] at hx
    exact ⟨x, hx, ho, fun e u he hu => by rw [hi] at he; cases he; rw [hj] at hu; cases hu; exact hr⟩
  let f : Nat → Value := fun k => if h : k < ys.length * z then (hk k h).choose else undef
  have hf : ∀ k, (h : k < ys.length * z) → f k = (hk k h).choose := fun k h => by simp [f, h]
  have hg : ∀ k, k < ys.length * z → ((List.range (ys.length * z)).map f).toArray.getD k undef = f k := fun k h => by simp [h]
  have hidx : ∀ i j, i < ys.length → j < z → i * z + j < ys.length * z ∧ (i * z + j) / z = i ∧ (i * z + j) % z = j := fun i j hi hj =>
    ⟨mul_lt_of hi hj, by rw [Nat.mul_comm, Nat.mul_add_div (by omega), Nat.div_eq_of_lt hj, Nat.add_zero], by rw [Nat.mul_comm, Nat.mul_add_mod, Nat.mod_eq_of_lt hj]⟩
  refine ⟨((List.range (ys.length * z)).map f).toArray, ⟨by simp, hz, fun i j hi hj => ?_, fun i j e v h1 h2 => ?_⟩, fun wx hw => ?_⟩
  · obtain ⟨g1, _, _⟩ := hidx i j hi hj
    rw [hg _ g1, hf _ g1]
    exact (hk _ g1).choose_spec.2.1
  · have hi := (List.getElem?_eq_some_iff.1 h1).1
    have hj := (List.getElem?_eq_some_iff.1 h2).1
    rw [hz e (List.mem_of_getElem? h1)] at hj
    obtain ⟨g1, g2, g3⟩ := hidx i j hi hj
    rw [hg _ g1, hf _ g1]
    exact (hk _ g1).choose_spec.2.2 e v (by rw [g2]; exact h1) (by rw [g3]; exact h2)
  · refine loadCells_of (f := f) (fun k h => ?_)
    rw [hf k h, ← (hk k h).choose_spec.1]
    exact cell?_of_heap (by rw [hw])
theorem first_run (hs : Sim φ I σ w) {z : Nat} {v : V} {Y : Value} (h : Rel φ I w v Y) {ys : List (List V)} (he : srcOf σ z v = some ys) :
    ∃ new, Flat φ I w z ys new ∧ (∀ wx : World, (Builtin.lenOf Y).run P wx = .ok ys.length wx) ∧ ∀ wx : World, wx.heap = w.heap → (Builtin.firstCells z ys.length Y).run P wx = .ok new wx := by
  unfold srcOf at he
  split at he
  · split at he <;> simp at he
    rename_i s hz
    subst hz; subst he
    obtain ⟨b, rfl, rfl⟩ := h.str_inv
    obtain ⟨c1, c2, c3⟩ := bytes_row (φ := φ) (I := I) (w := w) b #[]
    rw [Array.append_empty] at c1 c2
    refine ⟨b.data.map fun b => Value.int .u8 b.toNat, ⟨by simp, c3, c2, c1⟩, fun wx => by simp [Builtin.lenOf], fun wx _ => ?_⟩
    simp only [Builtin.firstCells, Sem.run_pure]
    have : (b.extract 0 (b.data.toList.map byteE).length).data = b.data := by
      rw [ByteArray.data_extract]
      simp
    rw [this]
  · rcases cont_cells hs h he with ⟨rfl, rfl⟩ | ⟨ad, cap, rfl, hcap, hz, hcell⟩
    · refine ⟨#[], ⟨by simp, fun e h => by simp at h, fun i j h => by simp at h, fun i j e v h => by simp at h⟩, fun wx => by simp [Builtin.lenOf], fun wx _ => by simp [Builtin.firstCells]⟩
    · obtain ⟨arr, hfl, hrun⟩ := load_flat (P := P) hz hcell
      exact ⟨arr, hfl, fun wx => by simp [Builtin.lenOf], fun wx hw => by simp only [Builtin.firstCells]; exact hrun wx hw⟩
theorem growBy_le (need : Nat) : ∀ (r c : Nat), c ≤ need → Builtin.growBy need r c ≤ need + (need + 768) / 4
  | 0, c, h => by simp only [Builtin.growBy]; omega
  | r + 1, c, h => by
    simp only [Builtin.growBy]
    split
    · omega
    · by_cases h2 : c + (c + 768) / 4 ≤ need
      · exact growBy_le need r _ h2
      · have : ∀ r c, need ≤ c → Builtin.growBy need r c = c := fun r c h => by cases r <;> simp [Builtin.growBy]; omega
        rw [this _ _ (by omega)]
        omega
theorem next_le {need cap : Nat} (h : cap < need) : Builtin.nextslicecap need cap ≤ 2 * need + 192 := by
  unfold Builtin.nextslicecap
  split
  · omega
  · split
    · omega
    · have := growBy_le need 4 cap (by omega)
      omega
theorem bytes_le {need cap bytes : Nat} (h : cap < need) (hb : bytes ≤ 65536) (hr : need * bytes ≤ reach) : Builtin.nextslicecap need cap * bytes ≤ 2 ^ 48 := by
  have h1 := Nat.mul_le_mul_right bytes (next_le h)
  rw [Nat.add_mul, Nat.mul_assoc] at h1
  simp only [reach] at hr
  omega
section app
variable {ts : Array TypeId} {ty t u e : TypeId} {ud : TypeDesc} {inf : TypeInfo} {base : Option Addr} {sLen sCap : Nat} {x : Value}
/-- There is room. -/
theorem run_app_room (h0 : ts[0]? = some t) (h1 : ts[1]? = some u) (ht : P.underlying t = some (.slice e)) (hu : P.underlying u = some ud) (hud : isIntD ud = false) (hi : P.info? e = some inf) {n : Nat} {new : Array Value} {ad : Addr}
    (hl : (Builtin.lenOf x).run P w = .ok n w) (hf : (Builtin.firstCells inf.size n x).run P w = .ok new w) (hroom : sLen + n ≤ sCap) (hst : (storeCells (ad.add (sLen * inf.size)) new.toList 0).run P w = .ok () w') :
    (Builtin.append_ ts ty #[.slice (some ad) sLen sCap, x]).run P w = .ok (.slice (some ad) (sLen + n) sCap) w' := by
  unfold Builtin.append_
  simp only [h0, h1, List.getElem?_toArray, List.getElem?_cons_zero, List.getElem?_cons_succ]
  rw [Sem.run_bind, run_underlying ht]
  simp only [Result.andThen_ok]
  rw [Sem.run_bind, run_sizeOf (n := inf.size) (by simp [sizeD, hi])]
  simp only [Result.andThen_ok]
  rw [Sem.run_bind, run_underlying hu]
  cases ud <;> first | (simp [isIntD] at hud; done) | skip
  all_goals
    simp only [Result.andThen_ok, Sem.run_bind, Sem.run_pure, Bool.false_eq_true, if_false, hl, hroom, if_true, Bool.not_false, hf, hst]
theorem run_app_room0 (h0 : ts[0]? = some t) (h1 : ts[1]? = some u) (ht : P.underlying t = some (.slice e)) (hu : P.underlying u = some ud) (hud : isIntD ud = false) (hi : P.info? e = some inf) {new : Array Value}
    (hl : (Builtin.lenOf x).run P w = .ok 0 w) (hf : (Builtin.firstCells inf.size 0 x).run P w = .ok new w) (hroom : sLen ≤ sCap) (hnew : new = #[]) :
    (Builtin.append_ ts ty #[.slice base sLen sCap, x]).run P w = .ok (.slice base sLen sCap) w := by
  unfold Builtin.append_
  simp only [h0, h1, List.getElem?_toArray, List.getElem?_cons_zero, List.getElem?_cons_succ]
  rw [Sem.run_bind, run_underlying ht]
  simp only [Result.andThen_ok]
  rw [Sem.run_bind, run_sizeOf (n := inf.size) (by simp [sizeD, hi])]
  simp only [Result.andThen_ok]
  rw [Sem.run_bind, run_underlying hu]
  subst hnew
  cases ud <;> first | (simp [isIntD] at hud; done) | skip
  all_goals
    cases base <;> simp only [Result.andThen_ok, Sem.run_bind, Sem.run_pure, Bool.false_eq_true, if_false, hl, Nat.add_zero, hroom, if_true, Bool.not_false, hf, storeCells]
/-- There is none. -/
theorem run_app_grow (h0 : ts[0]? = some t) (h1 : ts[1]? = some u) (ht : P.underlying t = some (.slice e)) (hu : P.underlying u = some ud) (hud : isIntD ud = false) (hi : P.info? e = some inf) {n : Nat} {old new : Array Value} {zv : Value}
    (hl : (Builtin.lenOf x).run P w = .ok n w) (hroom : ¬ sLen + n ≤ sCap) (hb : Builtin.nextslicecap (sLen + n) sCap * inf.bytes ≤ 2 ^ 48) (hb0 : 0 < inf.bytes) (hz : inf.zero = some zv)
    (ho : ∀ wx : World, wx.heap = w.heap → (Builtin.firstCells inf.size sLen (.slice base sLen sCap)).run P wx = .ok old wx) (hf : ∀ wx : World, wx.heap = w.heap → (Builtin.firstCells inf.size n x).run P wx = .ok new wx) :
    ∃ cap, sLen + n ≤ cap ∧ (Builtin.append_ ts ty #[.slice base sLen sCap, x]).run P w = .ok (.slice (some ⟨w.heap.size, 0, none⟩) (sLen + n) cap)
      { w with heap := w.heap.push (.cells (old ++ new ++ Builtin.zeroCells zv.cells (cap - (sLen + n))) e (0, 0)), drawn := w.drawn + 1 } := by
  let q : Question := .appendCap (sLen + n) sCap e
  let cap := q.cut (w.tape w.drawn q)
  have hcap : sLen + n ≤ cap := by show sLen + n ≤ sLen + n + _; exact Nat.le_add_right _ _
  refine ⟨cap, hcap, ?_⟩
  have hti : ∀ wx : World, (typeInfo e).run P wx = .ok inf wx := fun wx => by simp [typeInfo, hi]
  have hzv : ∀ wx : World, (zeroValue e).run P wx = .ok zv wx := fun wx => by simp [zeroValue, typeInfo, hi, hz]
  have hch : ∀ wx : World, (choose q).run P wx = .ok (q.cut (wx.tape wx.drawn q)) { wx with drawn := wx.drawn + 1 } := fun wx => by
    rw [run_choose, if_neg (by show ¬ (q.forced = true); rw [show q.forced = false from rfl]; simp)]
  have hb2 : ¬ (Builtin.nextslicecap (sLen + n) sCap * inf.bytes > 2 ^ 48) := by omega
  have hb3 : ¬ (inf.bytes = 0) := by omega
  unfold Builtin.append_
  simp only [h0, h1, List.getElem?_toArray, List.getElem?_cons_zero, List.getElem?_cons_succ]
  rw [Sem.run_bind, run_underlying ht]
  simp only [Result.andThen_ok]
  rw [Sem.run_bind, run_sizeOf (n := inf.size) (by simp [sizeD, hi])]
  simp only [Result.andThen_ok]
  rw [Sem.run_bind, run_underlying hu]
  have hch' := hch w
  simp only [q] at hch'
  have ho' := ho { w with drawn := w.drawn + 1 } rfl
  have hf' := hf { w with drawn := w.drawn + 1 } rfl
  cases ud <;> first | (simp [isIntD] at hud; done) | skip
  all_goals
    simp only [Result.andThen_ok, Sem.run_bind, Sem.run_pure, Bool.false_eq_true, if_false, hl, hroom, if_true, Bool.not_false, hti, hb3, or_self, and_false, hb2, hch', run_askRoom, ho', hf', hzv, newRow, run_newObj]
    rfl
end app
end
end Go.Proofs.Yticpkoakbneefaa.Ab
namespace Go.Proofs.Yticpkoakbneefaa.Ab
open Go.RowKit
set_option linter.unusedVariables false
set_option linter.unusedSimpArgs false
section
variable {P : Program} {φ : Phi} {I : Nat → Prop} {σ : St} {w w' : World} {nt : Nat} {env : Env} {a : Act}
theorem Flat.append {z : Nat} {xs ys : List (List V)} {A B : Array Value} (h : Flat φ I w z xs A) (k : Flat φ I w z ys B) (R : Array Value) :
    (∀ e ∈ xs ++ ys, e.length = z) ∧ (xs ++ ys).length * z ≤ (A ++ B ++ R).size ∧ (∀ i j, i < (xs ++ ys).length → j < z → ((A ++ B ++ R).getD (i * z + j) undef).oneCell' = true) ∧
      ∀ i j e v, (xs ++ ys)[i]? = some e → e[j]? = some v → Rel φ I w v ((A ++ B ++ R).getD (i * z + j) undef) := by
  have hl : ∀ i j, i < xs.length → j < z → (A ++ B ++ R).getD (i * z + j) undef = A.getD (i * z + j) undef := fun i j hi hj => by
    have := mul_lt_of hi hj
    have h1 : i * z + j < A.size := by rw [h.size]; exact this
    simp only [Array.getD_eq_getD_getElem?]
    rw [Array.getElem?_append_left (by simp; omega), Array.getElem?_append_left h1]
  have hr : ∀ i j, xs.length ≤ i → i < (xs ++ ys).length → j < z → (A ++ B ++ R).getD (i * z + j) undef = B.getD ((i - xs.length) * z + j) undef := fun i j hi hi2 hj => by
    rw [List.length_append] at hi2
    have h1 := mul_lt_of (n := ys.length) (i := i - xs.length) (z := z) (by omega) hj
    have h2 : (i - xs.length) * z + xs.length * z = i * z := by rw [← Nat.add_mul]; congr 1; omega
    simp only [Array.getD_eq_getD_getElem?]
    rw [Array.getElem?_append_left (by rw [Array.size_append, h.size, k.size]; omega), Array.getElem?_append_right (by rw [h.size]; omega), h.size]
    congr 2; omega
  refine ⟨fun e he => ?_, ?_, fun i j hi hj => ?_, fun i j e v h1 h2 => ?_⟩
  · rcases List.mem_append.1 he with h' | h'
    · exact h.len e h'
    · exact k.len e h'
  · rw [List.length_append, Nat.add_mul, Array.size_append, Array.size_append, h.size, k.size]; omega
  · by_cases hx : i < xs.length
    · rw [hl i j hx hj]; exact h.one i j hx hj
    · rw [hr i j (by omega) hi hj]; rw [List.length_append] at hi; exact k.one _ j (by omega) hj
  · have hi := (List.getElem?_eq_some_iff.1 h1).1
    have hjl := (List.getElem?_eq_some_iff.1 h2).1
    by_cases hx : i < xs.length
    · rw [List.getElem?_append_left hx] at h1
      have hj : j < z := by rw [← h.len e (List.mem_of_getElem? h1)]; exact hjl
      rw [hl i j hx hj]
      exact h.rel i j e v h1 h2
    · rw [List.getElem?_append_right (by omega)] at h1
      have hj : j < z := by rw [← k.len e (List.mem_of_getElem? h1)]; exact hjl
      rw [hr i j (by omega) hi hj]
      exact k.rel _ j e v h1 h2
theorem Flat.scal {z : Nat} {ys : List (List V)} {B : Array Value} (k : Flat φ I w z ys B) : ∀ v ∈ B.toList, v.oneCell' = true := fun v hv => by
  obtain ⟨i, hi, rfl⟩ := List.mem_iff_getElem.1 hv
  have hi' : i < ys.length * z := by rw [← k.size]; simpa using hi
  obtain ⟨h1, h2, h3⟩ := divmod_lt hi'
  have hz : 0 < z := by
    rcases Nat.eq_zero_or_pos z with h | h
    · subst h; simp at hi'
    · exact h
  have := k.one (i / z) (i % z) h1 (h2 hz)
  rw [h3] at this
  have hg : B.getD i undef = B.toList[i] := by simp [show i < B.size by simpa using hi]
  rwa [hg] at this
/-- The row behind an append in its place. -/
theorem put_row {z n : Nat} {es ys : List (List V)} {arr arr' B : Array Value} {base : Nat} (hz : ∀ e ∈ es, e.length = z) (hsz : base + es.length * z ≤ arr.size)
    (ho : ∀ i j, i < es.length → j < z → (arr.getD (base + i * z + j) undef).oneCell' = true) (hr : ∀ i j e v, es[i]? = some e → e[j]? = some v → Rel φ I w v (arr.getD (base + i * z + j) undef))
    (k : Flat φ I w z ys B) (hn : n ≤ es.length) (hs : base + (n + ys.length) * z ≤ arr'.size) (hsame : arr'.size = arr.size)
    (hg : ∀ i, arr'.getD i undef = if base + n * z ≤ i ∧ i < base + n * z + B.size then B.getD (i - (base + n * z)) undef else arr.getD i undef) :
    (∀ e ∈ es.take n ++ ys ++ es.drop (n + ys.length), e.length = z) ∧ base + (es.take n ++ ys ++ es.drop (n + ys.length)).length * z ≤ arr'.size ∧
      (∀ i j, i < (es.take n ++ ys ++ es.drop (n + ys.length)).length → j < z → (arr'.getD (base + i * z + j) undef).oneCell' = true) ∧
      ∀ i j e v, (es.take n ++ ys ++ es.drop (n + ys.length))[i]? = some e → e[j]? = some v → Rel φ I w v (arr'.getD (base + i * z + j) undef) := by
  have hlen : (es.take n ++ ys ++ es.drop (n + ys.length)).length = max es.length (n + ys.length) := by simp; omega
  have hmem : ∀ e ∈ es.take n ++ ys ++ es.drop (n + ys.length), e.length = z := fun e he => by
    simp only [List.mem_append] at he
    rcases he with (he | he) | he
    · exact hz e (List.mem_of_mem_take he)
    · exact k.len e he
    · exact hz e (List.mem_of_mem_drop he)
  have hget : ∀ i, (es.take n ++ ys ++ es.drop (n + ys.length))[i]? = if n ≤ i ∧ i < n + ys.length then ys[i - n]? else es[i]? := fun i => by
    rw [List.append_assoc, List.getElem?_append, List.length_take, Nat.min_eq_left hn]
    by_cases h1 : i < n
    · rw [if_pos h1, if_neg (by omega), List.getElem?_take, if_pos h1]
    · rw [if_neg h1, List.getElem?_append]
      by_cases h2 : i - n < ys.length
      · rw [if_pos h2, if_pos (by omega)]
      · rw [if_neg h2, if_neg (by omega), List.getElem?_drop]
        congr 1; omega
  have hin : ∀ i j, n ≤ i → i < n + ys.length → j < z → arr'.getD (base + i * z + j) undef = B.getD ((i - n) * z + j) undef := fun i j h1 h2 hj => by
    have h3 := mul_lt_of (n := ys.length) (i := i - n) (z := z) (by omega) hj
    have h4 : (i - n) * z + n * z = i * z := by rw [← Nat.add_mul]; congr 1; omega
    rw [hg, if_pos (by rw [k.size]; omega)]
    congr 1; omega
  have hout : ∀ i j, ¬ (n ≤ i ∧ i < n + ys.length) → j < z → arr'.getD (base + i * z + j) undef = arr.getD (base + i * z + j) undef := fun i j h1 hj => by
    rw [hg, if_neg]
    rw [k.size]
    intro ⟨h2, h3⟩
    rcases Nat.lt_or_ge i n with h4 | h4
    · have : (i + 1) * z ≤ n * z := Nat.mul_le_mul_right z h4
      rw [Nat.add_mul] at this; omega
    · have : (n + ys.length) * z ≤ i * z := Nat.mul_le_mul_right z (by omega)
      rw [Nat.add_mul] at this; omega
  refine ⟨hmem, ?_, fun i j hi hj => ?_, fun i j e v h1 h2 => ?_⟩
  · rw [hlen]
    rcases Nat.le_total es.length (n + ys.length) with h | h
    · rw [Nat.max_eq_right h]; exact hs
    · rw [Nat.max_eq_left h, hsame]; exact hsz
  · by_cases h1 : n ≤ i ∧ i < n + ys.length
    · rw [hin i j h1.1 h1.2 hj]; exact k.one _ j (by omega) hj
    · rw [hout i j h1 hj]; rw [hlen] at hi; exact ho i j (by omega) hj
  · have hj : j < z := by rw [← hmem e (List.mem_of_getElem? h1)]; exact (List.getElem?_eq_some_iff.1 h2).1
    rw [hget] at h1
    split at h1
    · rename_i h3
      rw [hin i j h3.1 h3.2 hj]; exact k.rel _ j e v h1 h2
    · rename_i h3
      rw [hout i j h3 hj]; exact hr i j e v h1 h2
theorem Flat.mono {φ' : Phi} {w' : World} {z : Nat} {ys : List (List V)} {B : Array Value} (k : Flat φ I w z ys B) (h : ∀ {v c}, Rel φ I w v c → Rel φ' I w' v c) : Flat φ' I w' z ys B :=
  ⟨k.size, k.len, k.one, fun i j e v h1 h2 => h (k.rel i j e v h1 h2)⟩
theorem acts_app {o : Oper} {c : Call} {t u e : TypeId} {ud : TypeDesc} {inf : TypeInfo} {x y : Operand} {x' y' : Opd} {v : V} {σ' : St} (ho : o.op = .call c) (hc : c.callee = .builtin .append) (h0 : c.argTypes[0]? = some t) (h1 : c.argTypes[1]? = some u)
    (ha : c.args.toList = [x, y]) (ht : P.underlying t = some (.slice e)) (hu : P.underlying u = some ud) (hud : isIntD ud = false) (hi : P.info? e = some inf) (hzp : 0 < inf.size) (hb0 : 0 < inf.bytes) (hb1 : inf.bytes ≤ 65536) (hzs : (inf.zero.map fun z => z.cells.size) = some inf.size)
    (hs : Sim φ I σ w) (hf : EnvR φ I w nt env a) (hx : cOpd nt x = some x') (hy : cOpd nt y = some y') (he : evI env σ (.app inf.bytes inf.size x' y') = some (v, σ')) : Acts P φ I σ w a o v σ' := by
  have q1 := cOpd_rel hf hx
  have q2 := cOpd_rel hf hy
  obtain ⟨zv, hzv, hzz⟩ := Option.map_eq_some_iff.1 hzs
  obtain ⟨dst, op', ty, pos, after, guard⟩ := o
  simp only at ho; subst ho
  obtain ⟨cal, args, ts⟩ := c
  simp only at hc h0 h1 ha; subst hc
  obtain rfl : args = #[x, y] := by cases args; simp_all
  have hrun : ∀ {V' : Value} {W : World}, (Builtin.append_ ts ty #[a.eval x, a.eval y]).run P w = .ok V' W → (execOp a.eval ⟨dst, .call ⟨.builtin .append, #[x, y], ts⟩, ty, pos, after, guard⟩).run P w = .ok (.value V') W := fun h => by
    have hm : Array.map a.eval #[x, y] = #[a.eval x, a.eval y] := by simp
    simp only [execOp, resolve, Sem.run_bind, Sem.run_pure, Result.andThen_ok, invoke, builtin, hm, h]
  simp only [evI] at he
  simp only [Option.bind_eq_some_iff] at he
  obtain ⟨ys, hys, he⟩ := he
  obtain ⟨new, hnew, hlenY, hfirst⟩ := first_run (P := P) hs q2 hys
  have hnew0 : ys = [] → new = #[] := fun e => by
    have := hnew.size
    rw [e] at this
    simpa using this
  have zsize : ∀ n, (Builtin.zeroCells zv.cells n).size = n * inf.size := fun n => by simp [Builtin.zeroCells, hzz]
  have stay : ∀ {b : Option Addr} {n k : Nat}, a.eval x = .slice b n k → n ≤ k → ys = [] → Acts P φ I σ w a ⟨dst, .call ⟨.builtin .append, #[x, y], ts⟩, ty, pos, after, guard⟩ (x'.ev env) σ := fun hq hnk e0 => by
    refine Quiet.acts hs ⟨a.eval x, ?_, q1⟩
    have h2 := hlenY w
    have h3 := hfirst w rfl
    rw [e0] at h2 h3
    rw [hq]
    have h4 := hrun (V' := a.eval x) (W := w) (by rw [hq]; exact run_app_room0 h0 h1 ht hu hud hi h2 h3 hnk (hnew0 e0))
    rw [hq] at h4
    exact h4
  split at he
  · rename_i e1
    split at he
    · rename_i e0
      simp only [Option.some.injEq, Prod.mk.injEq] at he
      obtain ⟨rfl, rfl⟩ := he
      rw [← e1]
      generalize hq : a.eval x = q at q1
      rw [e1] at q1
      cases q1
      exact stay hq (Nat.le_refl _) e0
    · rename_i e0
      split at he <;> simp only [Option.some.injEq, Prod.mk.injEq, reduceCtorEq] at he
      rename_i hlim
      obtain ⟨rfl, rfl⟩ := he
      generalize hq : a.eval x = q at q1
      rw [e1] at q1
      cases q1
      have hpos : 0 < ys.length := List.length_pos_iff.2 e0
      obtain ⟨cap, hcap, hrn⟩ := run_app_grow (P := P) (w := w) (ts := ts) (ty := ty) (base := none) (sLen := 0) (sCap := 0) (old := #[]) h0 h1 ht hu hud hi (hlenY w) (by omega)
        (bytes_le (by omega) hb1 (by rw [Nat.zero_add]; exact hlim.1)) hb0 hzv (fun wx _ => by simp [Builtin.firstCells]) hfirst
      rw [Nat.zero_add] at hcap hrn
      obtain ⟨f1, f2, f3, f4⟩ := Flat.append (xs := []) (A := #[]) ⟨by simp, fun e h => by simp at h, fun i j h => by simp at h, fun i j e v h => by simp at h⟩ hnew (Builtin.zeroCells zv.cells (cap - ys.length))
      rw [List.nil_append] at f1 f2 f3 f4
      obtain ⟨s1, s2⟩ := row_new (w' := { w with heap := w.heap.push (.cells (#[] ++ new ++ Builtin.zeroCells zv.cells (cap - ys.length)) e (0, 0)), drawn := w.drawn + 1 }) hs rfl ⟨rfl, rfl, rfl⟩ (fits_none _) hzp f1 f2 f3 f4
      refine ⟨_, _, _, _, .inl (hrun (by rw [hq]; exact hrn)), new_rel (t := e) (fz := (0, 0)) hs rfl hcap ?_, s1, s2⟩
      rw [Array.size_append, Array.size_append, hnew.size, zsize, Array.size_empty, Nat.zero_add, ← Nat.add_mul]
      congr 1; omega
  · rename_i z' es e1
    split at he <;> simp only [Option.some.injEq, Prod.mk.injEq, reduceCtorEq] at he
    rename_i e0
    obtain ⟨rfl, rfl⟩ := he
    rw [← e1]
    generalize hq : a.eval x = q at q1
    rw [e1] at q1
    cases q1
    exact stay hq (by assumption) e0
  · rename_i l off len e1
    split at he
    · rename_i e0
      simp only [Option.some.injEq, Prod.mk.injEq] at he
      obtain ⟨rfl, rfl⟩ := he
      rw [← e1]
      generalize hq : a.eval x = q at q1
      rw [e1] at q1
      cases q1
      exact stay hq (by assumption) e0
    · rename_i e0
      split at he <;> (try (simp only [reduceCtorEq] at he; done))
      rename_i z' es hH
      split at he <;> (try (simp only [reduceCtorEq] at he; done))
      rename_i hlim
      obtain ⟨rfl, hl1, hl2⟩ := hlim
      have hpos : 0 < ys.length := List.length_pos_iff.2 e0
      obtain ⟨b, base, arr, t', fz, hφ, hh, hfz, hzpos, hz, hsz, ho1, hr⟩ := hs.row hH
      generalize hq : a.eval x = q at q1
      have q1' := q1
      rw [e1] at q1
      cases q1 with
      | slc hφ' hlc hN had =>
        rename_i b' base' z2 cap ad
        rw [hφ] at hφ'
        simp only [Option.some.injEq, Prod.mk.injEq] at hφ'
        obtain ⟨rfl, rfl, rfl⟩ := hφ'
        have hcell : cellsOf w b = arr.size := by simp [cellsOf, hh]
        have hlv : (σ.H l).isSome = true := by rw [hH]; rfl
        have hcapm : (off + cap) * inf.size = off * inf.size + cap * inf.size := Nat.add_mul _ _ _
        -- in its place
        have place : len + ys.length ≤ cap → ∃ w1 arr', (execOp a.eval ⟨dst, .call ⟨.builtin .append, #[x, y], ts⟩, ty, pos, after, guard⟩).run P w = .ok (.value (.slice (some ad) (len + ys.length) cap)) w1 ∧ w1.heap[b]? = some (.cells arr' t' fz) ∧ arr'.size = arr.size ∧ w1.heap.size = w.heap.size ∧
            (∀ k, k ≠ b → w1.heap[k]? = w.heap[k]?) ∧ Same w w1 ∧ ∀ k, arr'.getD k undef = if base + (off + len) * inf.size ≤ k ∧ k < base + (off + len) * inf.size + new.size then new.getD (k - (base + (off + len) * inf.size)) undef else arr.getD k undef := fun hroom => by
          have hm : (len + ys.length) * inf.size ≤ cap * inf.size := Nat.mul_le_mul_right _ hroom
          rw [Nat.add_mul] at hm
          have hm2 : (off + len) * inf.size = off * inf.size + len * inf.size := Nat.add_mul _ _ _
          obtain ⟨w1, arr', r1, r2, r3, r4, r5, r6, r7⟩ := run_storeCells (P := P) new.toList (base + (off + len) * inf.size) 0 arr w hh hfz (by rw [Array.length_toList, hnew.size]; omega) hnew.scal
          have hst : (storeCells (ad.add (len * inf.size)) new.toList 0).run P w = .ok () w1 := by
            rw [had (by omega), Addr.add_lit, show base + off * inf.size + len * inf.size = base + (off + len) * inf.size by omega]
            exact r1
          refine ⟨w1, arr', hrun (by rw [hq]; exact run_app_room h0 h1 ht hu hud hi (hlenY w) (hfirst w rfl) hroom hst), r2, r3, r4, r5, r6, fun k => ?_⟩
          rw [r7 k, Array.length_toList, Nat.add_zero]
          simp
        split at he
        · rename_i hle
          simp only [Option.some.injEq, Prod.mk.injEq] at he
          obtain ⟨rfl, rfl⟩ := he
          have hroom : len + ys.length ≤ cap := by
            have h5 : es.length * inf.size ≤ (off + cap) * inf.size := by omega
            have := Nat.le_of_mul_le_mul_right h5 hzpos
            omega
          obtain ⟨w1, arr', g1, g2, g3, g4, g5, g6, g7⟩ := place hroom
          have hN1 : cellsOf w1 b = cellsOf w b := by simp [cellsOf, g2, hh, g3]
          have kp : ∀ {v : V} {c : Value}, Rel φ I w v c → Rel φ I w1 v c := fun h => rel_turn hs hlv hφ g5 hN1 (fun _ _ h => h) h
          have hm3 : (off + len + ys.length) * inf.size ≤ es.length * inf.size := Nat.mul_le_mul_right _ hle
          obtain ⟨p1, p2, p3, p4⟩ := put_row (w := w1) (n := off + len) hz hsz ho1 (fun i j e v h1 h2 => kp (hr i j e v h1 h2)) (hnew.mono kp) (by omega) (by omega) g3 g7
          obtain ⟨s1, s2⟩ := sim_turn hs hlv hφ g5 g4 hN1 g6 (.row g2 (hfz.size (by omega)) hzpos p1 p2 p3 p4) (.cells hh g5)
          refine ⟨_, w1, φ, I, .inl g1, .slc hφ hroom (hN.trans hN1.symm) had, s1, s2⟩
        · split at he <;> simp only [Option.some.injEq, Prod.mk.injEq, reduceCtorEq] at he
          rename_i hend
          obtain ⟨rfl, rfl⟩ := he
          by_cases hroom : len + ys.length ≤ cap
          · obtain ⟨w1, arr', g1, g2, g3, g4, g5, g6, g7⟩ := place hroom
            have hN1 : cellsOf w1 b = cellsOf w b := by simp [cellsOf, g2, hh, g3]
            have hm : (len + ys.length) * inf.size ≤ cap * inf.size := Nat.mul_le_mul_right _ hroom
            have hm1 : (off + len + ys.length) * inf.size = off * inf.size + (len + ys.length) * inf.size := by rw [Nat.add_assoc, Nat.add_mul]
            have kp : ∀ {φ' : Phi}, (∀ l y, φ l = some y → φ' l = some y) → ∀ {v : V} {c : Value}, Rel φ I w v c → Rel φ' I w1 v c := fun hφ' _ _ h => rel_turn hs hlv hφ g5 hN1 hφ' h
            obtain ⟨s1, s2⟩ := sim_move (y := (b, base + off * inf.size, inf.size)) hs hlv hφ rfl g5 g4 hN1 g6 (blk := .row inf.size (es.drop off ++ ys)) (fun φ' hφ' => by
              obtain ⟨p1, p2, p3, p4⟩ := put_row (φ := φ') (w := w1) (n := off + len) hz hsz ho1 (fun i j e v h1 h2 => kp hφ' (hr i j e v h1 h2)) (hnew.mono (kp hφ')) (by omega) (by omega) g3 g7
              have hes : es.take (off + len) ++ ys ++ es.drop (off + len + ys.length) = es ++ ys := by
                rw [hend, List.take_length, List.drop_eq_nil_of_le (by omega), List.append_nil]
              rw [hes] at p1 p2 p3 p4
              have hidx : ∀ i j, base + off * inf.size + i * inf.size + j = base + (off + i) * inf.size + j := fun i j => by rw [Nat.add_mul]; omega
              have hgi : ∀ i, (es.drop off ++ ys)[i]? = (es ++ ys)[off + i]? := fun i => by
                rw [← List.getElem?_drop, List.drop_append_of_le_length (by omega)]
              refine .row g2 (hfz.size (by omega)) hzpos (fun e he => p1 e ?_) ?_ (fun i j hi hj => ?_) (fun i j e v h1 h2 => ?_)
              · rcases List.mem_append.1 he with h | h
                · exact List.mem_append_left _ (List.mem_of_mem_drop h)
                · exact List.mem_append_right _ h
              · rw [List.length_append, List.length_drop]
                rw [List.length_append] at p2
                have : (es.length - off + ys.length) * inf.size + off * inf.size = (es.length + ys.length) * inf.size := by rw [← Nat.add_mul]; congr 1; omega
                omega
              · rw [hidx]; rw [List.length_append, List.length_drop] at hi; exact p3 _ j (by rw [List.length_append]; omega) hj
              · rw [hidx]; rw [hgi] at h1; exact p4 _ j e v h1 h2) (.cells hh g5)
            refine ⟨_, w1, _, I, .inl g1, .slc (b := b) (base := base + off * inf.size) (z := inf.size) (by simp [Phi.put]) hroom ?_ (fun hne => ?_), s1, s2⟩
            · rw [hN1, ← hN, hcapm]; simp; omega
            · rw [had hne]; simp
          · -- none: a new row
            have hct : cont σ inf.size (.slc l off len) = some ((es.drop off).take len) := by
              simp [cont, hH]
              omega
            have hdrop : (es.drop off).take len = es.drop off := List.take_of_length_le (by rw [List.length_drop]; omega)
            rw [hdrop] at hct
            rw [e1] at q1'
            obtain ⟨old, hold, _, hfo⟩ := first_run (P := P) hs q1' (ys := es.drop off) (by unfold srcOf; exact hct)
            have hdl : (es.drop off).length = len := by rw [List.length_drop]; omega
            rw [hdl] at hfo
            obtain ⟨cap2, hcap, hrn⟩ := run_app_grow (P := P) (w := w) (ts := ts) (ty := ty) (base := some ad) (sLen := len) (sCap := cap) (old := old) h0 h1 ht hu hud hi (hlenY w) hroom
              (bytes_le (by omega) hb1 hl1) hb0 hzv hfo hfirst
            obtain ⟨k1, k2⟩ := sim_kill hs l
            obtain ⟨f1, f2, f3, f4⟩ := Flat.append hold hnew (Builtin.zeroCells zv.cells (cap2 - (len + ys.length)))
            obtain ⟨s1, s2⟩ := row_new (w' := { w with heap := w.heap.push (.cells (old ++ new ++ Builtin.zeroCells zv.cells (cap2 - (len + ys.length))) e (0, 0)), drawn := w.drawn + 1 }) k2 rfl ⟨rfl, rfl, rfl⟩ (fits_none _) hzpos f1 f2 f3 f4
            refine ⟨_, _, _, _, .inl (hrun (by rw [hq]; exact hrn)), ?_, k1.trans s1, s2⟩
            have := new_rel (t := e) (fz := (0, 0)) (len := len + ys.length) (cap := cap2) (z := inf.size) (w' := { w with heap := w.heap.push (.cells (old ++ new ++ Builtin.zeroCells zv.cells (cap2 - (len + ys.length))) e (0, 0)), drawn := w.drawn + 1 }) k2 rfl hcap (by
              rw [Array.size_append, Array.size_append, hold.size, hnew.size, zsize, hdl, ← Nat.add_mul, ← Nat.add_mul]
              congr 1; omega)
            exact this
  · simp at he
end
end Go.Proofs.Yticpkoakbneefaa.Ab
namespace Go.Proofs.Yticpkoakbneefaa.Ab
open Go.RowKit
set_option linter.unusedVariables false
set_option linter.unusedSimpArgs false
/-- It reads, at most. -/
def Ins.quiet : Ins → Bool
  | .new _ | .box _ | .bslice _ _ _ | .st _ _ _ | .s2b _ | .b2b _ | .mkmap | .mksl _ _ _ _ | .app _ _ _ _ | .call _ _ | .callv _ _ | .defer _ _ | .panic _ | .recover => false
  | _ => true
section
variable {P : Program} {φ : Phi} {I : Nat → Prop} {σ : St} {w w' : World} {nt : Nat} {env : Env} {a : Act}
theorem op_okP {o : Oper} {ins : Ins} {v : V} {σ' : St} (hc : compP P nt o = some ins) (hs : Sim φ I σ w) (hf : EnvR φ I w nt env a) (he : evI env σ ins = some (v, σ')) :
    Acts P φ I σ w a o v σ' ∧ (ins.quiet = true → σ' = σ ∧ Quiet P φ I w a o v) := by
  have qu : (σ' = σ ∧ Quiet P φ I w a o v) → Acts P φ I σ w a o v σ' ∧ (ins.quiet = true → σ' = σ ∧ Quiet P φ I w a o v) := fun h => ⟨by obtain ⟨rfl, h2⟩ := h; exact h2.acts hs, fun _ => h⟩
  have ac : ins.quiet = false → Acts P φ I σ w a o v σ' → Acts P φ I σ w a o v σ' ∧ (ins.quiet = true → σ' = σ ∧ Quiet P φ I w a o v) := fun h k => ⟨k, fun h' => by rw [h] at h'; simp at h'⟩
  unfold compP at hc
  split at hc
  case h_1 x ho => -- move
    simp only [Option.map_eq_some_iff] at hc
    obtain ⟨y, hy, rfl⟩ := hc
    simp only [evI, Option.some.injEq, Prod.mk.injEq] at he
    obtain ⟨rfl, rfl⟩ := he
    exact qu ⟨rfl, quiet_mv (.inl ho) hf hy⟩
  case h_2 x ho =>
    simp only [Option.map_eq_some_iff] at hc
    obtain ⟨y, hy, rfl⟩ := hc
    simp only [evI, Option.some.injEq, Prod.mk.injEq] at he
    obtain ⟨rfl, rfl⟩ := he
    exact qu ⟨rfl, quiet_mv (.inr ho) hf hy⟩
  case h_3 c x y ho =>
    simp only [Option.bind_eq_some_iff, Option.map_eq_some_iff] at hc
    obtain ⟨c', hc1, x', hx, y', hy, rfl⟩ := hc
    simp only [evI] at he
    split at he <;> simp only [Option.some.injEq, Prod.mk.injEq, reduceCtorEq] at he
    rename_i b hb
    obtain ⟨rfl, rfl⟩ := he
    exact qu ⟨rfl, quiet_pick ho hf hc1 hx hy hb rfl⟩
  case h_4 t ho =>
    simp only [Option.map_eq_some_iff] at hc
    obtain ⟨z, hz, rfl⟩ := hc
    exact ac rfl (acts_new ho hz hs he)
  case h_5 t x ho =>
    simp only [Option.map_eq_some_iff] at hc
    obtain ⟨y, hy, rfl⟩ := hc
    exact ac rfl (acts_box ho hs hf hy he)
  case h_6 t parts ho =>
    split at hc
    · rename_i fs hu
      simp only [Option.bind_eq_some_iff, Option.map_eq_some_iff] at hc
      obtain ⟨z, hz, ps, hps, hc⟩ := hc
      split at hc
      · rename_i hall
        subst hc
        exact qu (quiet_build ho hu hz hall hps hf he)
      · subst hc; simp [evI] at he
    · simp at hc
  case h_7 t len parts ho =>
    split at hc
    · rename_i e hu
      simp only [Option.bind_eq_some_iff] at hc
      obtain ⟨z, hz, hc⟩ := hc
      split at hc
      · rename_i hlim
        simp only [Option.map_eq_some_iff] at hc
        obtain ⟨ps, hps, rfl⟩ := hc
        exact ac rfl (acts_bslice ho hu hz hlim (by simpa only [Option.map_eq_map] using hps) hs hf he)
      · simp at hc
    · simp at hc
  case h_8 t x ho =>
    simp only [Option.bind_eq_some_iff] at hc
    obtain ⟨d, hd, hc⟩ := hc
    split at hc
    · rename_i hag
      simp only [Option.bind_eq_some_iff, Option.map_eq_some_iff] at hc
      obtain ⟨n, hn, x', hx, rfl⟩ := hc
      exact qu (quiet_lda ho hd hag hn hs hf hx he)
    · rename_i hag
      simp only [Option.map_eq_some_iff] at hc
      obtain ⟨x', hx, rfl⟩ := hc
      exact qu (quiet_ld ho hd (by simpa using hag) hs hf hx he)
  case h_9 t x y ho =>
    simp only [Option.bind_eq_some_iff, Option.map_eq_some_iff] at hc
    obtain ⟨n, hn, x', hx, y', hy, rfl⟩ := hc
    exact ac rfl (acts_st ho hn hs hf hx hy he)
  case h_10 x ho =>
    simp only [Option.map_eq_some_iff] at hc
    obtain ⟨x', hx, rfl⟩ := hc
    exact qu (quiet_nilck ho hf hx he)
  case h_11 op t x y u ho =>
    simp only [Option.bind_eq_some_iff] at hc
    obtain ⟨x', hx, y', hy, hc⟩ := hc
    unfold compBin at hc
    have hcase : ∀ neg : Bool, op = (if neg then .neq else .eql) → ((P.underlying t).bind fun
      | .int _ | .string => some (.bin op x' y')
      | .bool => some (.beq neg x' y')
      | .pointer _ => some (.nq neg 1 x' y')
      | .slice _ => some (.nq neg 2 x' y')
      | .func _ _ _ => some (.nq neg 3 x' y')
      | .interface _ => if (isConstO x || isConstO y) then some (.nq neg 4 x' y') else none
      | .map _ _ => some (.nq neg 5 x' y')
      | .struct _ => (kinds P 20 t).bind fun ks => if P.eqGuardType P.depth t = false then some (.eqa neg ks x' y') else none
      | _ => none) = some ins → Acts P φ I σ w a o v σ' ∧ (ins.quiet = true → σ' = σ ∧ Quiet P φ I w a o v) := fun neg hop hc => by
      simp only [Option.bind_eq_some_iff] at hc
      obtain ⟨d, hd, hc⟩ := hc
      split at hc
      · simp only [Option.some.injEq] at hc; subst hc; exact qu (quiet_bin ho hf hx hy he)
      · simp only [Option.some.injEq] at hc; subst hc; exact qu (quiet_bin ho hf hx hy he)
      · simp only [Option.some.injEq] at hc; subst hc; exact qu (quiet_beq ho hop hd hf hx hy he)
      · simp only [Option.some.injEq] at hc; subst hc; exact qu (quiet_nq (fam := 1) ho hop hd rfl (by decide) (fun h => by simp at h) hf hx hy he)
      · simp only [Option.some.injEq] at hc; subst hc; exact qu (quiet_nq (fam := 2) ho hop hd rfl (by decide) (fun h => by simp at h) hf hx hy he)
      · simp only [Option.some.injEq] at hc; subst hc; exact qu (quiet_nq (fam := 3) ho hop hd rfl (by decide) (fun h => by simp at h) hf hx hy he)
      · split at hc <;> simp only [Option.some.injEq, reduceCtorEq] at hc
        rename_i hcc
        subst hc; exact qu (quiet_nq (fam := 4) ho hop hd rfl (by decide) (fun _ => hcc) hf hx hy he)
      · simp only [Option.some.injEq] at hc; subst hc; exact qu (quiet_nq (fam := 5) ho hop hd rfl (by decide) (fun h => by simp at h) hf hx hy he)
      · simp only [Option.bind_eq_some_iff] at hc
        obtain ⟨ks, hks, hc⟩ := hc
        split at hc <;> simp only [Option.some.injEq, reduceCtorEq] at hc
        rename_i hg
        subst hc
        exact qu (quiet_eqa ho hop hd hks hg hf hx hy he)
      · simp at hc
    split at hc
    · exact hcase false rfl hc
    · exact hcase true rfl hc
    · simp only [Option.some.injEq] at hc; subst hc; exact qu (quiet_bin ho hf hx hy he)
  case h_12 op t x ho =>
    simp only [Option.map_eq_some_iff] at hc
    obtain ⟨x', hx, rfl⟩ := hc
    exact qu (quiet_un ho hf hx he)
  case h_13 s t x ho =>
    simp only [Option.bind_eq_some_iff] at hc
    obtain ⟨x', hx, hc⟩ := hc
    unfold compConv at hc
    split at hc
    · rename_i ks k hs1 ht1
      simp only [Option.some.injEq] at hc; subst hc
      exact qu (quiet_cvi ho hs1 ht1 hf hx he)
    · rename_i hs1 ht1
      simp only [Option.some.injEq] at hc; subst hc
      exact qu (quiet_cvs ho hs1 ht1 hf hx he)
    · rename_i e hs1 ht1
      split at hc <;> simp only [Option.some.injEq, reduceCtorEq] at hc
      rename_i h8 hsz
      subst hc
      exact ac rfl (acts_s2b ho hs1 ht1 h8 hs hf hx he)
    · rename_i e hs1 ht1
      split at hc <;> simp only [Option.some.injEq, reduceCtorEq] at hc
      rename_i h8
      subst hc
      exact qu (quiet_b2s ho hs1 h8 ht1 hs hf hx he)
    · rename_i e' e hs1 ht1
      split at hc <;> (try (simp only [reduceCtorEq] at hc; done))
      rename_i h8
      split at hc <;> simp only [Option.some.injEq, reduceCtorEq] at hc
      rename_i heq
      subst hc
      subst heq
      exact ac rfl (acts_b2b ho hs1 ht1 h8 hs hf hx he)
    · simp at hc
  case h_14 t x ho =>
    split at hc
    · simp at hc
    · simp at hc
    · rename_i hd1 hd2
      simp only [Option.map_eq_some_iff] at hc
      obtain ⟨x', hx, rfl⟩ := hc
      cases hd : P.underlying t with
      | none => exact absurd hd hd2
      | some d => exact qu (quiet_mki ho hd (fun ms e => hd1 ms (by rw [hd, e])) hf hx he)
  case h_15 fn xs ys ho =>
    simp only [Option.bind_eq_some_iff, Option.map_eq_some_iff] at hc
    obtain ⟨x', hx, y', hy, rfl⟩ := hc
    exact qu (quiet_mkf ho hf hx hy he)
  case h_16 t ho =>
    simp only [Option.some.injEq] at hc; subst hc
    exact ac rfl (acts_mkmap ho hs he)
  case h_17 t l c ho =>
    split at hc
    · rename_i e hu
      simp only [Option.bind_eq_some_iff] at hc
      obtain ⟨z, hz, i, hi, hc⟩ := hc
      split at hc
      · rename_i hb
        simp only [Option.bind_eq_some_iff, Option.map_eq_some_iff] at hc
        obtain ⟨l', hl, c', hc1, rfl⟩ := hc
        exact ac rfl (acts_mksl ho hu hz hi hb hs hf hl hc1 he)
      · simp at hc
    · simp at hc
  case h_18 t x lo hi ho =>
    split at hc
    · rename_i hu
      simp only [Option.bind_eq_some_iff, Option.map_eq_some_iff] at hc
      obtain ⟨x', hx, lo', hlo, hi', hhi, rfl⟩ := hc
      exact qu (quiet_ssl ho hu hf hx hlo hhi he)
    · rename_i e hu
      simp only [Option.bind_eq_some_iff] at hc
      obtain ⟨z, hz, hc⟩ := hc
      split at hc
      · rename_i hzp
        simp only [Option.bind_eq_some_iff, Option.map_eq_some_iff] at hc
        obtain ⟨x', hx, lo', hlo, hi', hhi, rfl⟩ := hc
        exact qu (quiet_lsl ho hu hz hzp hs hf hx hlo hhi he)
      · simp at hc
    · simp at hc
  case h_19 s x f ho =>
    simp only [Option.bind_eq_some_iff] at hc
    obtain ⟨d, hd, hc⟩ := hc
    split at hc
    · rename_i hn
      simp only [Option.map_eq_some_iff] at hc
      obtain ⟨x', hx, rfl⟩ := hc
      exact qu (quiet_fa ho hd hn hf hx he)
    · simp at hc
  case h_20 s x f ho =>
    simp only [Option.bind_eq_some_iff, Option.map_eq_some_iff] at hc
    obtain ⟨d, hd, u, hu, x', hx, rfl⟩ := hc
    exact qu (quiet_fld ho hd hu hf hx he)
  case h_21 t x i ho =>
    simp only [Option.bind_eq_some_iff] at hc
    obtain ⟨x', hx, i', hi, hc⟩ := hc
    split at hc
    · rename_i e hu
      simp only [Option.bind_eq_some_iff] at hc
      obtain ⟨z, hz, hc⟩ := hc
      split at hc <;> simp only [Option.some.injEq, reduceCtorEq] at hc
      subst hc
      exact qu (quiet_ia ho hu hz hs hf hx hi he)
    · rename_i n e hu
      simp only [Option.map_eq_some_iff] at hc
      obtain ⟨z, hz, rfl⟩ := hc
      exact qu (quiet_aa ho hu hz hf hx hi he)
    · simp at hc
  case h_22 t x i ho =>
    split at hc
    · rename_i hu
      simp only [Option.bind_eq_some_iff, Option.map_eq_some_iff] at hc
      obtain ⟨x', hx, i', hi, rfl⟩ := hc
      exact qu (quiet_sx ho hu hf hx hi he)
    · simp at hc
  case h_23 x s t ok ho =>
    split at hc
    · simp at hc
    · simp at hc
    · rename_i hd1 hd2
      simp only [Option.bind_eq_some_iff, Option.map_eq_some_iff] at hc
      obtain ⟨z, hz, x', hx, rfl⟩ := hc
      cases hd : P.underlying t with
      | none => exact absurd hd hd2
      | some d => exact qu (quiet_tas ho hd (fun ms e => hd1 ms (by rw [hd, e])) hz hf hx he)
  case h_24 x i ho =>
    simp only [Option.map_eq_some_iff] at hc
    obtain ⟨x', hx, rfl⟩ := hc
    exact qu (quiet_ext ho hf hx he)
  case h_25 c ho =>
    unfold compB at hc
    split at hc
    · rename_i hcal
      split at hc
      · rename_i t x ht ha
        split at hc
        · rename_i hu
          simp only [Option.map_eq_some_iff] at hc
          obtain ⟨x', hx, rfl⟩ := hc
          exact qu (quiet_slen ho hcal ht ha hu hf hx he)
        · rename_i e hu
          simp only [Option.map_eq_some_iff] at hc
          obtain ⟨x', hx, rfl⟩ := hc
          exact qu (quiet_llen ho hcal ht ha hu hf hx he)
        · simp at hc
      · simp at hc
    · rename_i hcal
      split at hc
      · rename_i t u x y ht hu ha
        split at hc
        · rename_i e ud hte hud
          split at hc
          · rename_i i hi
            split at hc
            · rename_i hcond
              simp only [Option.bind_eq_some_iff, Option.map_eq_some_iff] at hc
              obtain ⟨x', hx, y', hy, rfl⟩ := hc
              exact ac rfl (acts_app ho hcal ht hu ha hte hud hcond.1 hi hcond.2.1 hcond.2.2.1 hcond.2.2.2.1 hcond.2.2.2.2 hs hf hx hy he)
            · simp at hc
          · simp at hc
        · simp at hc
      · simp at hc
    · rename_i hcal
      simp only [Option.map_eq_some_iff] at hc
      obtain ⟨xs, hxs, rfl⟩ := hc
      exact qu (quiet_mm (isMax := true) ho hcal hxs hf he)
    · rename_i hcal
      simp only [Option.map_eq_some_iff] at hc
      obtain ⟨xs, hxs, rfl⟩ := hc
      exact qu (quiet_mm (isMax := false) ho hcal hxs hf he)
    · simp at hc
  case h_26 => simp at hc
theorem plain_of {i : Option Ins} {ins : Ins} (h : onlyPlain i = some ins) : i = some ins ∧ ins.plain = true := by
  unfold onlyPlain at h
  simp only [Option.bind_eq_some_iff] at h
  obtain ⟨j, hj, h⟩ := h
  split at h <;> simp at h
  subst h
  exact ⟨hj, by assumption⟩
theorem op_ok {o : Oper} {ins : Ins} {v : V} {σ' : St} (hc : compOp P nt o = some ins) (hs : Sim φ I σ w) (hf : EnvR φ I w nt env a) (he : evI env σ ins = some (v, σ')) :
    Acts P φ I σ w a o v σ' ∧ (ins.quiet = true → σ' = σ ∧ Quiet P φ I w a o v) := by
  unfold compOp at hc
  split at hc
  · split at hc
    · split at hc <;> simp at hc
      obtain ⟨_, _, rfl⟩ := hc
      simp [evI] at he
    · simp only [Option.bind_eq_some_iff, Option.map_eq_some_iff] at hc
      obtain ⟨_, _, _, _, rfl⟩ := hc
      simp [evI] at he
    · simp at hc; subst hc; simp [evI] at he
    · exact op_okP (plain_of hc).1 hs hf he
  · split at hc
    · simp only [Option.bind_eq_some_iff, Option.map_eq_some_iff] at hc
      obtain ⟨_, _, _, _, rfl⟩ := hc
      simp [evI] at he
    · simp at hc
  · simp only [Option.map_eq_some_iff] at hc
    obtain ⟨_, _, rfl⟩ := hc
    simp [evI] at he
  · exact op_okP (plain_of hc).1 hs hf he
end
end Go.Proofs.Yticpkoakbneefaa.Ab
