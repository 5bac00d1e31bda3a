/-
The walk over the program's texts, told with what its values say: a part of it. No further condition.
-/
import Derived.Test.YtmkgmjdbgjiehaaDoorAbC
import Derived.RangeFuncIn
import Derived.RangeFuncRecord
import Derived.RangeFuncLeaves
import Derived.OrdersIn
import Derived.RecoverIn
import Derived.LoopNIn
namespace Go.Proofs.YtmkgmjdbgjiehaaDoor.Ab
open Go.RowKit
set_option linter.unusedVariables false
set_option linter.unusedSimpArgs false
section
variable {P : Program} {φ : Phi} {I : Nat → Prop} {σ : St} {w w' : World} {nt : Nat} {env : Env} {a : Act}
theorem bytes_row (s : ByteArray) (rest : Array Value) : (∀ i j e v, (s.data.toList.map byteE)[i]? = some e → e[j]? = some v → Rel φ I w v (((s.data.map fun b => Value.int .u8 b.toNat) ++ rest).getD (i * 1 + j) undef)) ∧
    (∀ i j, i < (s.data.toList.map byteE).length → j < 1 → (((s.data.map fun b => Value.int .u8 b.toNat) ++ rest).getD (i * 1 + j) undef).oneCell' = true) ∧ (∀ e ∈ s.data.toList.map byteE, e.length = 1) := by
  have hg : ∀ i, (hi : i < s.data.size) → ((s.data.map fun b => Value.int .u8 b.toNat) ++ rest).getD i undef = .int .u8 s.data[i].toNat := fun i hi => by
    have hi2 : i < s.size := hi
    simp [Array.getElem?_append, hi, hi2]
  refine ⟨fun i j e v h1 h2 => ?_, fun i j h1 h2 => ?_, fun e he => ?_⟩
  · simp only [List.getElem?_map, Option.map_eq_some_iff] at h1
    obtain ⟨b, hb, rfl⟩ := h1
    obtain ⟨hi, hbe⟩ := List.getElem?_eq_some_iff.1 hb
    have hi' : i < s.data.size := by simpa using hi
    cases j with
    | zero =>
      simp [byteE] at h2
      subst h2
      rw [Nat.mul_one, Nat.add_zero, hg i hi']
      have : s.data[i] = b := by simpa using hbe
      rw [this]
      exact .int _ _
    | succ j => simp [byteE] at h2
  · have hi' : i < s.data.size := by simpa using h1
    have : j = 0 := by omega
    subst this
    rw [Nat.mul_one, Nat.add_zero, hg i hi']
    rfl
  · simp only [List.mem_map] at he
    obtain ⟨b, _, rfl⟩ := he
    rfl
theorem acts_s2b {o : Oper} {s t e : TypeId} {x : Operand} {x' : Opd} {v : V} {σ' : St} (ho : o.op = .convert s t x) (hs : P.underlying s = some .string) (ht : P.underlying t = some (.slice e)) (he8 : P.underlying e = some (.int .u8))
    (hS : Sim φ I σ w) (hf : EnvR φ I w nt env a) (hx : cOpd nt x = some x') (he : evI env σ (.s2b x') = some (v, σ')) : Acts P φ I σ w a o v σ' := by
  have h := cOpd_rel hf hx
  obtain ⟨dst, op', ty, pos, after, guard⟩ := o
  simp only at ho; subst ho
  simp only [evI] at he
  split at he <;> simp only [Option.some.injEq, Prod.mk.injEq, reduceCtorEq] at he
  rename_i l e1
  rw [e1] at h
  obtain ⟨b, hb, rfl⟩ := h.str_inv
  obtain ⟨rfl, rfl⟩ := he
  let q : Question := .appendCap b.size 0 e
  let cap := q.cut (w.tape w.drawn q)
  have hcap : b.size ≤ cap := by show b.size ≤ b.size + _; exact Nat.le_add_right _ _
  let arr : Array Value := (b.data.map fun b => Value.int .u8 b.toNat) ++ Array.replicate (cap - b.size) (.int .u8 0)
  have hasz : arr.size = cap := by simp only [arr, Array.size_append, Array.size_map, Array.size_replicate]; have : b.data.size = b.size := rfl; omega
  let w1 : World := { w with heap := w.heap.push (.cells arr e (arr.size, arr.size + 1)), drawn := w.drawn + 1 }
  obtain ⟨c1, c2, c3⟩ := bytes_row (φ := φ) (I := I) (w := w) b (Array.replicate (cap - b.size) (.int .u8 0))
  obtain ⟨q1, q2⟩ := row_new (w' := w1) (t := e) (fz := (arr.size, arr.size + 1)) hS rfl ⟨rfl, rfl, rfl⟩ (.inr (Nat.le_refl _)) (z := 1) (by omega) c3 (by rw [hasz]; simp; exact hcap) c2 c1
  have hlen : b.data.toList.length = b.size := by simp
  have hrel := new_rel (w' := w1) (t := e) (fz := (arr.size, arr.size + 1)) (z := 1) (len := b.size) (cap := cap) hS rfl hcap (by rw [hasz, Nat.mul_one])
  refine ⟨.slice (some ⟨w.heap.size, 0, none⟩) b.size cap, w1, _, _, .inl ?_, by rw [hlen]; exact hrel, q1, q2⟩
  have hfo : q.forced = false := rfl
  have hrun : (Conv.stringToBytes e b).run P w = .ok (.slice (some ⟨w.heap.size, 0, none⟩) b.size cap) w1 := by
    unfold Conv.stringToBytes
    rw [Sem.run_bind, run_choose, if_neg (by show ¬ (q.forced = true); rw [hfo]; simp)]
    simp only [Result.andThen_ok, newRow, Sem.run_bind, run_newObj, Sem.run_pure, markStringish, run_shape]
    have hsh : World.shape? { heap := w.heap.push (.cells arr e (0, 0)), tape := w.tape, drawn := w.drawn + 1, os := w.os, output := w.output } w.heap.size = some (e, arr.size) := by simp [World.shape?]
    have hfz : World.freeze { heap := w.heap.push (.cells arr e (0, 0)), tape := w.tape, drawn := w.drawn + 1, os := w.os, output := w.output } ⟨w.heap.size, arr.size, none⟩ 1 = w1 := by
      unfold World.freeze
      rw [if_neg (by simp)]
      simp only [w1]
      congr 1
      apply Array.ext_getElem?
      intro i
      simp only [Array.getElem?_modify, Array.getElem?_push]
      by_cases hi : w.heap.size = i
      · subst hi; simp
      · simp [hi, Ne.symm hi]
    show (Sem.run P (match World.shape? { heap := w.heap.push (.cells arr e (0, 0)), tape := w.tape, drawn := w.drawn + 1, os := w.os, output := w.output } w.heap.size with | some (_, n) => freeze ⟨w.heap.size, n, none⟩ 1 | x => pure ()) _).andThen _ = _
    rw [hsh]
    simp only [run_freeze, Result.andThen_ok]
    rw [hfz]
  simp only [execOp, hb, convert, Sem.run_bind, run_underlying hs, run_underlying ht, Result.andThen_ok, run_underlying he8]
  rw [hrun]
  rfl
theorem set_same {σ : St} {l : Nat} {b : Blk} (h : σ.H l = some b) : σ.set l b = σ := by
  cases σ with
  | mk H n W =>
    simp only [St.set, St.mk.injEq, and_true]
    funext k
    simp only [upd]
    split
    · rename_i e; rw [e]; exact h.symm
    · rfl
theorem acts_b2b {o : Oper} {s e e' : TypeId} {x : Operand} {x' : Opd} {v : V} {σ' : St} (ho : o.op = .convert s s x) (hs1 : P.underlying s = some (.slice e')) (hs2 : P.underlying s = some (.slice e)) (he8 : P.underlying e = some (.int .u8))
    (hs : Sim φ I σ w) (hf : EnvR φ I w nt env a) (hx : cOpd nt x = some x') (he : evI env σ (.b2b x') = some (v, σ')) : Acts P φ I σ w a o v σ' := by
  have h := cOpd_rel hf hx
  obtain ⟨dst, op', ty, pos, after, guard⟩ := o
  simp only at ho; subst ho
  simp only [evI] at he
  split at he <;> (try (simp only [reduceCtorEq] at he; done))
  rename_i l off len e1
  split at he <;> (try (simp only [reduceCtorEq] at he; done))
  rename_i z es hH
  split at he <;> simp only [Option.some.injEq, Prod.mk.injEq, reduceCtorEq] at he
  rename_i hpos
  obtain ⟨rfl, rfl⟩ := he
  rw [e1] at h
  have h' := h
  generalize hq : a.eval x = q at h h'
  cases h with
  | slc hφ hl hN ha =>
    rename_i b base z' cap ad
    obtain ⟨b', base', arr, t, fz, q1, hh, hfz, hz, hzz, hsz, ho1, hr⟩ := hs.row hH
    rw [hφ] at q1
    simp only [Option.some.injEq, Prod.mk.injEq] at q1
    obtain ⟨rfl, rfl, rfl⟩ := q1
    have had := ha (by omega)
    subst had
    let fz' : Nat × Nat := if fz.1 == fz.2 then (arr.size, arr.size + 1) else (min fz.1 arr.size, max fz.2 (arr.size + 1))
    have hfz' : fits arr fz' := by
      unfold fits
      simp only [fz']
      rcases hfz with h | h
      · simp [h]
      · split
        · exact .inr (Nat.le_refl _)
        · right; simp; omega
    let w1 := w.freeze ⟨b, arr.size, none⟩ 1
    have g1 : w1.heap[b]? = some (.cells arr t fz') := by
      simp only [w1, World.freeze]
      rw [if_neg (by simp)]
      simp only [Array.getElem?_modify, if_true, hh, Option.map_some, fz']
    have g2 : ∀ k, k ≠ b → w1.heap[k]? = w.heap[k]? := fun k hk => by
      simp only [w1, World.freeze]
      rw [if_neg (by simp)]
      simp only [Array.getElem?_modify, if_neg (Ne.symm hk)]
    have g3 : w1.heap.size = w.heap.size := by
      simp only [w1, World.freeze]
      rw [if_neg (by simp)]
      simp
    have hNN : cellsOf w1 b = cellsOf w b := by simp [cellsOf, g1, hh]
    have hlv : (σ.H l).isSome = true := by rw [hH]; rfl
    have g6 : Same w w1 := by
      simp only [w1, World.freeze]
      rw [if_neg (by simp)]
      exact ⟨rfl, rfl, rfl⟩
    have kp : ∀ {v : V} {c : Value}, Rel φ I w v c → Rel φ I w1 v c := fun h => rel_turn hs hlv hφ g2 hNN (fun _ _ h => h) h
    obtain ⟨s1, s2⟩ := sim_turn hs hlv hφ g2 g3 hNN g6 (.row g1 hfz' hz hzz hsz ho1 fun i j e v h1 h2 => kp (hr i j e v h1 h2)) (.cells hh g2)
    rw [set_same hH] at s1 s2
    refine ⟨_, w1, φ, I, .inl ?_, kp h', s1, s2⟩
    have hsh : w.shape? b = some (t, arr.size) := by simp [World.shape?, hh]
    simp only [execOp, hq, convert, Sem.run_bind, run_underlying hs1, Result.andThen_ok]
    rw [hs1] at hs2
    obtain rfl : e' = e := by simpa using hs2
    simp [run_underlying he8, markStringish, hsh, Sem.run_bind]
    rfl
end
end Go.Proofs.YtmkgmjdbgjiehaaDoor.Ab
namespace Go.Proofs.YtmkgmjdbgjiehaaDoor.Ab
open Go.RowKit
set_option linter.unusedVariables false
set_option linter.unusedSimpArgs false
section
variable {P : Program} {φ : Phi} {I : Nat → Prop} {σ : St} {w w' : World} {nt : Nat} {env : Env} {a : Act}
structure Flat (φ : Phi) (I : Nat → Prop) (w : World) (z : Nat) (ys : List (List V)) (arr : Array Value) : Prop where
  size : arr.size = ys.length * z
  len : ∀ e ∈ ys, e.length = z
  one : ∀ i j, i < ys.length → j < z → (arr.getD (i * z + j) undef).oneCell' = true
  rel : ∀ i j e v, ys[i]? = some e → e[j]? = some v → Rel φ I w v (arr.getD (i * z + j) undef)
theorem divmod_lt {k n z : Nat} (h : k < n * z) : k / z < n ∧ (0 < z → k % z < z) ∧ k / z * z + k % z = k := by
  refine ⟨Nat.div_lt_of_lt_mul (by rw [Nat.mul_comm]; exact h), fun hz => Nat.mod_lt _ hz, ?_⟩
  rw [Nat.mul_comm]; exact Nat.div_add_mod k z
theorem load_flat {z : Nat} {ad : Addr} {ys : List (List V)} (hz : ∀ e ∈ ys, e.length = z) (hc : ∀ i j e u, ys[i]? = some e → e[j]? = some u → ∃ x, w.cell? (ad.add (i * z + j)) = some x ∧ x.oneCell' = true ∧ Rel φ I w u x) :
    ∃ arr, Flat φ I w z ys arr ∧ ∀ wx : World, wx.heap = w.heap → (loadCells ad (ys.length * z)).run P wx = .ok arr wx := by
  have hk : ∀ k, k < ys.length * z → ∃ x, w.cell? (ad.add k) = some x ∧ x.oneCell' = true ∧ ∀ e u, ys[k / z]? = some e → e[k % z]? = some u → Rel φ I w u x := fun k hk => by
    obtain ⟨h1, h2, h3⟩ := divmod_lt hk
    have hzp : 0 < z := by
      rcases Nat.eq_zero_or_pos z with h | h
      · subst h; simp at hk
      · exact h
    have hi : ys[k / z]? = some ys[k / z] := List.getElem?_eq_getElem h1
    have hel := hz _ (List.mem_of_getElem? hi)
    have hj : (ys[k / z])[k % z]? = some ((ys[k / z])[k % z]'(by rw [hel]; exact h2 hzp)) := List.getElem?_eq_getElem _
    obtain ⟨x, hx, ho, hr⟩ := hc _ _ _ _ hi hj
    rw [h3] at hx
    exact ⟨x, hx, ho, fun e u he hu => by rw [hi] at he; cases he; rw [hj] at hu; cases hu; exact hr⟩
  let f : Nat → Value := fun k => if h : k < ys.length * z then (hk k h).choose else undef
  have hf : ∀ k, (h : k < ys.length * z) → f k = (hk k h).choose := fun k h => by simp [f, h]
  have hg : ∀ k, k < ys.length * z → ((List.range (ys.length * z)).map f).toArray.getD k undef = f k := fun k h => by simp [h]
  have hidx : ∀ i j, i < ys.length → j < z → i * z + j < ys.length * z ∧ (i * z + j) / z = i ∧ (i * z + j) % z = j := fun i j hi hj =>
    ⟨mul_lt_of hi hj, by rw [Nat.mul_comm, Nat.mul_add_div (by omega), Nat.div_eq_of_lt hj, Nat.add_zero], by rw [Nat.mul_comm, Nat.mul_add_mod, Nat.mod_eq_of_lt hj]⟩
  refine ⟨((List.range (ys.length * z)).map f).toArray, ⟨by simp, hz, fun i j hi hj => ?_, fun i j e v h1 h2 => ?_⟩, fun wx hw => ?_⟩
  · obtain ⟨g1, _, _⟩ := hidx i j hi hj
    rw [hg _ g1, hf _ g1]
    exact (hk _ g1).choose_spec.2.1
  · have hi := (List.getElem?_eq_some_iff.1 h1).1
    have hj := (List.getElem?_eq_some_iff.1 h2).1
    rw [hz e (List.mem_of_getElem? h1)] at hj
    obtain ⟨g1, g2, g3⟩ := hidx i j hi hj
    rw [hg _ g1, hf _ g1]
    exact (hk _ g1).choose_spec.2.2 e v (by rw [g2]; exact h1) (by rw [g3]; exact h2)
  · refine loadCells_of (f := f) (fun k h => ?_)
    rw [hf k h, ← (hk k h).choose_spec.1]
    exact cell?_of_heap (by rw [hw])
theorem first_run (hs : Sim φ I σ w) {z : Nat} {v : V} {Y : Value} (h : Rel φ I w v Y) {ys : List (List V)} (he : srcOf σ z v = some ys) :
    ∃ new, Flat φ I w z ys new ∧ (∀ wx : World, (Builtin.lenOf Y).run P wx = .ok ys.length wx) ∧ ∀ wx : World, wx.heap = w.heap → (Builtin.firstCells z ys.length Y).run P wx = .ok new wx := by
  unfold srcOf at he
  split at he
  · split at he <;> simp at he
    rename_i s hz
    subst hz; subst he
    obtain ⟨b, rfl, rfl⟩ := h.str_inv
    obtain ⟨c1, c2, c3⟩ := bytes_row (φ := φ) (I := I) (w := w) b #[]
    rw [Array.append_empty] at c1 c2
    refine ⟨b.data.map fun b => Value.int .u8 b.toNat, ⟨by simp, c3, c2, c1⟩, fun wx => by simp [Builtin.lenOf], fun wx _ => ?_⟩
    simp only [Builtin.firstCells, Sem.run_pure]
    have : (b.extract 0 (b.data.toList.map byteE).length).data = b.data := by
      rw [ByteArray.data_extract]
      simp
    rw [this]
  · rcases cont_cells hs h he with ⟨rfl, rfl⟩ | ⟨ad, cap, rfl, hcap, hz, hcell⟩
    · refine ⟨#[], ⟨by simp, fun e h => by simp at h, fun i j h => by simp at h, fun i j e v h => by simp at h⟩, fun wx => by simp [Builtin.lenOf], fun wx _ => by simp [Builtin.firstCells]⟩
    · obtain ⟨arr, hfl, hrun⟩ := load_flat (P := P) hz hcell
      exact ⟨arr, hfl, fun wx => by simp [Builtin.lenOf], fun wx hw => by simp only [Builtin.firstCells]; exact hrun wx hw⟩
theorem growBy_le (need : Nat) : ∀ (r c : Nat), c ≤ need → Builtin.growBy need r c ≤ need + (need + 768) / 4
  | 0, c, h => by simp only [Builtin.growBy]; omega
  | r + 1, c, h => by
    simp only [Builtin.growBy]
    split
    · omega
    · by_cases h2 : c + (c + 768) / 4 ≤ need
      · exact growBy_le need r _ h2
      · have : ∀ r c, need ≤ c → Builtin.growBy need r c = c := fun r c h => by cases r <;> simp [Builtin.growBy]; omega
        rw [this _ _ (by omega)]
        omega
theorem next_le {need cap : Nat} (h : cap < need) : Builtin.nextslicecap need cap ≤ 2 * need + 192 := by
  unfold Builtin.nextslicecap
  split
  · omega
  · split
    · omega
    · have := growBy_le need 4 cap (by omega)
      omega
theorem bytes_le {need cap bytes : Nat} (h : cap < need) (hb : bytes ≤ 65536) (hr : need * bytes ≤ reach) : Builtin.nextslicecap need cap * bytes ≤ 2 ^ 48 := by
  have h1 := Nat.mul_le_mul_right bytes (next_le h)
  rw [Nat.add_mul, Nat.mul_assoc] at h1
  simp only [reach] at hr
  omega
section app
variable {ts : Array TypeId} {ty t u e : TypeId} {ud : TypeDesc} {inf : TypeInfo} {base : Option Addr} {sLen sCap : Nat} {x : Value}
theorem run_app_room (h0 : ts[0]? = some t) (h1 : ts[1]? = some u) (ht : P.underlying t = some (.slice e)) (hu : P.underlying u = some ud) (hud : isIntD ud = false) (hi : P.info? e = some inf) {n : Nat} {new : Array Value} {ad : Addr}
    (hl : (Builtin.lenOf x).run P w = .ok n w) (hf : (Builtin.firstCells inf.size n x).run P w = .ok new w) (hroom : sLen + n ≤ sCap) (hst : (storeCells (ad.add (sLen * inf.size)) new.toList 0).run P w = .ok () w') :
    (Builtin.append_ ts ty #[.slice (some ad) sLen sCap, x]).run P w = .ok (.slice (some ad) (sLen + n) sCap) w' := by
  unfold Builtin.append_
  simp only [h0, h1, List.getElem?_toArray, List.getElem?_cons_zero, List.getElem?_cons_succ]
  rw [Sem.run_bind, run_underlying ht]
  simp only [Result.andThen_ok]
  rw [Sem.run_bind, run_sizeOf (n := inf.size) (by simp [sizeD, hi])]
  simp only [Result.andThen_ok]
  rw [Sem.run_bind, run_underlying hu]
  cases ud <;> first | (simp [isIntD] at hud; done) | skip
  all_goals
    simp only [Result.andThen_ok, Sem.run_bind, Sem.run_pure, Bool.false_eq_true, if_false, hl, hroom, if_true, Bool.not_false, hf, hst]
theorem run_app_room0 (h0 : ts[0]? = some t) (h1 : ts[1]? = some u) (ht : P.underlying t = some (.slice e)) (hu : P.underlying u = some ud) (hud : isIntD ud = false) (hi : P.info? e = some inf) {new : Array Value}
    (hl : (Builtin.lenOf x).run P w = .ok 0 w) (hf : (Builtin.firstCells inf.size 0 x).run P w = .ok new w) (hroom : sLen ≤ sCap) (hnew : new = #[]) :
    (Builtin.append_ ts ty #[.slice base sLen sCap, x]).run P w = .ok (.slice base sLen sCap) w := by
  unfold Builtin.append_
  simp only [h0, h1, List.getElem?_toArray, List.getElem?_cons_zero, List.getElem?_cons_succ]
  rw [Sem.run_bind, run_underlying ht]
  simp only [Result.andThen_ok]
  rw [Sem.run_bind, run_sizeOf (n := inf.size) (by simp [sizeD, hi])]
  simp only [Result.andThen_ok]
  rw [Sem.run_bind, run_underlying hu]
  subst hnew
  cases ud <;> first | (simp [isIntD] at hud; done) | skip
  all_goals
    cases base <;> simp only [Result.andThen_ok, Sem.run_bind, Sem.run_pure, Bool.false_eq_true, if_false, hl, Nat.add_zero, hroom, if_true, Bool.not_false, hf, storeCells]
theorem run_app_grow (h0 : ts[0]? = some t) (h1 : ts[1]? = some u) (ht : P.underlying t = some (.slice e)) (hu : P.underlying u = some ud) (hud : isIntD ud = false) (hi : P.info? e = some inf) {n : Nat} {old new : Array Value} {zv : Value}
    (hl : (Builtin.lenOf x).run P w = .ok n w) (hroom : ¬ sLen + n ≤ sCap) (hb : Builtin.nextslicecap (sLen + n) sCap * inf.bytes ≤ 2 ^ 48) (hb0 : 0 < inf.bytes) (hz : inf.zero = some zv)
    (ho : ∀ wx : World, wx.heap = w.heap → (Builtin.firstCells inf.size sLen (.slice base sLen sCap)).run P wx = .ok old wx) (hf : ∀ wx : World, wx.heap = w.heap → (Builtin.firstCells inf.size n x).run P wx = .ok new wx) :
    ∃ cap, sLen + n ≤ cap ∧ (Builtin.append_ ts ty #[.slice base sLen sCap, x]).run P w = .ok (.slice (some ⟨w.heap.size, 0, none⟩) (sLen + n) cap)
      { w with heap := w.heap.push (.cells (old ++ new ++ Builtin.zeroCells zv.cells (cap - (sLen + n))) e (0, 0)), drawn := w.drawn + 1 } := by
  let q : Question := .appendCap (sLen + n) sCap e
  let cap := q.cut (w.tape w.drawn q)
  have hcap : sLen + n ≤ cap := by show sLen + n ≤ sLen + n + _; exact Nat.le_add_right _ _
  refine ⟨cap, hcap, ?_⟩
  have hti : ∀ wx : World, (typeInfo e).run P wx = .ok inf wx := fun wx => by simp [typeInfo, hi]
  have hzv : ∀ wx : World, (zeroValue e).run P wx = .ok zv wx := fun wx => by simp [zeroValue, typeInfo, hi, hz]
  have hch : ∀ wx : World, (choose q).run P wx = .ok (q.cut (wx.tape wx.drawn q)) { wx with drawn := wx.drawn + 1 } := fun wx => by
    rw [run_choose, if_neg (by show ¬ (q.forced = true); rw [show q.forced = false from rfl]; simp)]
  have hb2 : ¬ (Builtin.nextslicecap (sLen + n) sCap * inf.bytes > 2 ^ 48) := by omega
  have hb3 : ¬ (inf.bytes = 0) := by omega
  unfold Builtin.append_
  simp only [h0, h1, List.getElem?_toArray, List.getElem?_cons_zero, List.getElem?_cons_succ]
  rw [Sem.run_bind, run_underlying ht]
  simp only [Result.andThen_ok]
  rw [Sem.run_bind, run_sizeOf (n := inf.size) (by simp [sizeD, hi])]
  simp only [Result.andThen_ok]
  rw [Sem.run_bind, run_underlying hu]
  have hch' := hch w
  simp only [q] at hch'
  have ho' := ho { w with drawn := w.drawn + 1 } rfl
  have hf' := hf { w with drawn := w.drawn + 1 } rfl
  cases ud <;> first | (simp [isIntD] at hud; done) | skip
  all_goals
    simp only [Result.andThen_ok, Sem.run_bind, Sem.run_pure, Bool.false_eq_true, if_false, hl, hroom, if_true, Bool.not_false, hti, hb3, or_self, and_false, hb2, hch', run_askRoom, ho', hf', hzv, newRow, run_newObj]
    rfl
end app
end
end Go.Proofs.YtmkgmjdbgjiehaaDoor.Ab
namespace Go.Proofs.YtmkgmjdbgjiehaaDoor.Ab
open Go.RowKit
set_option linter.unusedVariables false
set_option linter.unusedSimpArgs false
section
variable {P : Program} {φ : Phi} {I : Nat → Prop} {σ : St} {w w' : World} {nt : Nat} {env : Env} {a : Act}
theorem Flat.append {z : Nat} {xs ys : List (List V)} {A B : Array Value} (h : Flat φ I w z xs A) (k : Flat φ I w z ys B) (R : Array Value) :
    (∀ e ∈ xs ++ ys, e.length = z) ∧ (xs ++ ys).length * z ≤ (A ++ B ++ R).size ∧ (∀ i j, i < (xs ++ ys).length → j < z → ((A ++ B ++ R).getD (i * z + j) undef).oneCell' = true) ∧
      ∀ i j e v, (xs ++ ys)[i]? = some e → e[j]? = some v → Rel φ I w v ((A ++ B ++ R).getD (i * z + j) undef) := by
  have hl : ∀ i j, i < xs.length → j < z → (A ++ B ++ R).getD (i * z + j) undef = A.getD (i * z + j) undef := fun i j hi hj => by
    have := mul_lt_of hi hj
    have h1 : i * z + j < A.size := by rw [h.size]; exact this
    simp only [Array.getD_eq_getD_getElem?]
    rw [Array.getElem?_append_left (by simp; omega), Array.getElem?_append_left h1]
  have hr : ∀ i j, xs.length ≤ i → i < (xs ++ ys).length → j < z → (A ++ B ++ R).getD (i * z + j) undef = B.getD ((i - xs.length) * z + j) undef := fun i j hi hi2 hj => by
    rw [List.length_append] at hi2
    have h1 := mul_lt_of (n := ys.length) (i := i - xs.length) (z := z) (by omega) hj
    have h2 : (i - xs.length) * z + xs.length * z = i * z := by rw [← Nat.add_mul]; congr 1; omega
    simp only [Array.getD_eq_getD_getElem?]
    rw [Array.getElem?_append_left (by rw [Array.size_append, h.size, k.size]; omega), Array.getElem?_append_right (by rw [h.size]; omega), h.size]
    congr 2; omega
  refine ⟨fun e he => ?_, ?_, fun i j hi hj => ?_, fun i j e v h1 h2 => ?_⟩
  · rcases List.mem_append.1 he with h' | h'
    · exact h.len e h'
    · exact k.len e h'
  · rw [List.length_append, Nat.add_mul, Array.size_append, Array.size_append, h.size, k.size]; omega
  · by_cases hx : i < xs.length
    · rw [hl i j hx hj]; exact h.one i j hx hj
    · rw [hr i j (by omega) hi hj]; rw [List.length_append] at hi; exact k.one _ j (by omega) hj
  · have hi := (List.getElem?_eq_some_iff.1 h1).1
    have hjl := (List.getElem?_eq_some_iff.1 h2).1
    by_cases hx : i < xs.length
    · rw [List.getElem?_append_left hx] at h1
      have hj : j < z := by rw [← h.len e (List.mem_of_getElem? h1)]; exact hjl
      rw [hl i j hx hj]
      exact h.rel i j e v h1 h2
    · rw [List.getElem?_append_right (by omega)] at h1
      have hj : j < z := by rw [← k.len e (List.mem_of_getElem? h1)]; exact hjl
      rw [hr i j (by omega) hi hj]
      exact k.rel _ j e v h1 h2
theorem Flat.scal {z : Nat} {ys : List (List V)} {B : Array Value} (k : Flat φ I w z ys B) : ∀ v ∈ B.toList, v.oneCell' = true := fun v hv => by
  obtain ⟨i, hi, rfl⟩ := List.mem_iff_getElem.1 hv
  have hi' : i < ys.length * z := by rw [← k.size]; simpa using hi
  obtain ⟨h1, h2, h3⟩ := divmod_lt hi'
  have hz : 0 < z := by
    rcases Nat.eq_zero_or_pos z with h | h
    · subst h; simp at hi'
    · exact h
  have := k.one (i / z) (i % z) h1 (h2 hz)
  rw [h3] at this
  have hg : B.getD i undef = B.toList[i] := by simp [show i < B.size by simpa using hi]
  rwa [hg] at this
theorem put_row {z n : Nat} {es ys : List (List V)} {arr arr' B : Array Value} {base : Nat} (hz : ∀ e ∈ es, e.length = z) (hsz : base + es.length * z ≤ arr.size)
    (ho : ∀ i j, i < es.length → j < z → (arr.getD (base + i * z + j) undef).oneCell' = true) (hr : ∀ i j e v, es[i]? = some e → e[j]? = some v → Rel φ I w v (arr.getD (base + i * z + j) undef))
    (k : Flat φ I w z ys B) (hn : n ≤ es.length) (hs : base + (n + ys.length) * z ≤ arr'.size) (hsame : arr'.size = arr.size)
    (hg : ∀ i, arr'.getD i undef = if base + n * z ≤ i ∧ i < base + n * z + B.size then B.getD (i - (base + n * z)) undef else arr.getD i undef) :
    (∀ e ∈ es.take n ++ ys ++ es.drop (n + ys.length), e.length = z) ∧ base + (es.take n ++ ys ++ es.drop (n + ys.length)).length * z ≤ arr'.size ∧
      (∀ i j, i < (es.take n ++ ys ++ es.drop (n + ys.length)).length → j < z → (arr'.getD (base + i * z + j) undef).oneCell' = true) ∧
      ∀ i j e v, (es.take n ++ ys ++ es.drop (n + ys.length))[i]? = some e → e[j]? = some v → Rel φ I w v (arr'.getD (base + i * z + j) undef) := by
  have hlen : (es.take n ++ ys ++ es.drop (n + ys.length)).length = max es.length (n + ys.length) := by simp; omega
  have hmem : ∀ e ∈ es.take n ++ ys ++ es.drop (n + ys.length), e.length = z := fun e he => by
    simp only [List.mem_append] at he
    rcases he with (he | he) | he
    · exact hz e (List.mem_of_mem_take he)
    · exact k.len e he
    · exact hz e (List.mem_of_mem_drop he)
  have hget : ∀ i, (es.take n ++ ys ++ es.drop (n + ys.length))[i]? = if n ≤ i ∧ i < n + ys.length then ys[i - n]? else es[i]? := fun i => by
    rw [List.append_assoc, List.getElem?_append, List.length_take, Nat.min_eq_left hn]
    by_cases h1 : i < n
    · rw [if_pos h1, if_neg (by omega), List.getElem?_take, if_pos h1]
    · rw [if_neg h1, List.getElem?_append]
      by_cases h2 : i - n < ys.length
      · rw [if_pos h2, if_pos (by omega)]
      · rw [if_neg h2, if_neg (by omega), List.getElem?_drop]
        congr 1; omega
  have hin : ∀ i j, n ≤ i → i < n + ys.length → j < z → arr'.getD (base + i * z + j) undef = B.getD ((i - n) * z + j) undef := fun i j h1 h2 hj => by
    have h3 := mul_lt_of (n := ys.length) (i := i - n) (z := z) (by omega) hj
    have h4 : (i - n) * z + n * z = i * z := by rw [← Nat.add_mul]; congr 1; omega
    rw [hg, if_pos (by rw [k.size]; omega)]
    congr 1; omega
  have hout : ∀ i j, ¬ (n ≤ i ∧ i < n + ys.length) → j < z → arr'.getD (base + i * z + j) undef = arr.getD (base + i * z + j) undef := fun i j h1 hj => by
    rw [hg, if_neg]
    rw [k.size]
    intro ⟨h2, h3⟩
    rcases Nat.lt_or_ge i n with h4 | h4
    · have : (i + 1) * z ≤ n * z := Nat.mul_le_mul_right z h4
      rw [Nat.add_mul] at this; omega
    · have : (n + ys.length) * z ≤ i * z := Nat.mul_le_mul_right z (by omega)
      rw [Nat.add_mul] at this; omega
  refine ⟨hmem, ?_, fun i j hi hj => ?_, fun i j e v h1 h2 => ?_⟩
  · rw [hlen]
    rcases Nat.le_total es.length (n + ys.length) with h | h
    · rw [Nat.max_eq_right h]; exact hs
    · rw [Nat.max_eq_left h, hsame]; exact hsz
  · by_cases h1 : n ≤ i ∧ i < n + ys.length
    · rw [hin i j h1.1 h1.2 hj]; exact k.one _ j (by omega) hj
    · rw [hout i j h1 hj]; rw [hlen] at hi; exact ho i j (by omega) hj
  · have hj : j < z := by rw [← hmem e (List.mem_of_getElem? h1)]; exact (List.getElem?_eq_some_iff.1 h2).1
    rw [hget] at h1
    split at h1
    · rename_i h3
      rw [hin i j h3.1 h3.2 hj]; exact k.rel _ j e v h1 h2
    · rename_i h3
      rw [hout i j h3 hj]; exact hr i j e v h1 h2
theorem Flat.mono {φ' : Phi} {w' : World} {z : Nat} {ys : List (List V)} {B : Array Value} (k : Flat φ I w z ys B) (h : ∀ {v c}, Rel φ I w v c → Rel φ' I w' v c) : Flat φ' I w' z ys B :=
  ⟨k.size, k.len, k.one, fun i j e v h1 h2 => h (k.rel i j e v h1 h2)⟩
theorem acts_app {o : Oper} {c : Call} {t u e : TypeId} {ud : TypeDesc} {inf : TypeInfo} {x y : Operand} {x' y' : Opd} {v : V} {σ' : St} (ho : o.op = .call c) (hc : c.callee = .builtin .append) (h0 : c.argTypes[0]? = some t) (h1 : c.argTypes[1]? = some u)
    (ha : c.args.toList = [x, y]) (ht : P.underlying t = some (.slice e)) (hu : P.underlying u = some ud) (hud : isIntD ud = false) (hi : P.info? e = some inf) (hzp : 0 < inf.size) (hb0 : 0 < inf.bytes) (hb1 : inf.bytes ≤ 65536) (hzs : (inf.zero.map fun z => z.cells.size) = some inf.size)
    (hs : Sim φ I σ w) (hf : EnvR φ I w nt env a) (hx : cOpd nt x = some x') (hy : cOpd nt y = some y') (he : evI env σ (.app inf.bytes inf.size x' y') = some (v, σ')) : Acts P φ I σ w a o v σ' := by
  have q1 := cOpd_rel hf hx
  have q2 := cOpd_rel hf hy
  obtain ⟨zv, hzv, hzz⟩ := Option.map_eq_some_iff.1 hzs
  obtain ⟨dst, op', ty, pos, after, guard⟩ := o
  simp only at ho; subst ho
  obtain ⟨cal, args, ts⟩ := c
  simp only at hc h0 h1 ha; subst hc
  obtain rfl : args = #[x, y] := by cases args; simp_all
  have hrun : ∀ {V' : Value} {W : World}, (Builtin.append_ ts ty #[a.eval x, a.eval y]).run P w = .ok V' W → (execOp a.eval ⟨dst, .call ⟨.builtin .append, #[x, y], ts⟩, ty, pos, after, guard⟩).run P w = .ok (.value V') W := fun h => by
    have hm : Array.map a.eval #[x, y] = #[a.eval x, a.eval y] := by simp
    simp only [execOp, resolve, Sem.run_bind, Sem.run_pure, Result.andThen_ok, invoke, builtin, hm, h]
  simp only [evI] at he
  simp only [Option.bind_eq_some_iff] at he
  obtain ⟨ys, hys, he⟩ := he
  obtain ⟨new, hnew, hlenY, hfirst⟩ := first_run (P := P) hs q2 hys
  have hnew0 : ys = [] → new = #[] := fun e => by
    have := hnew.size
    rw [e] at this
    simpa using this
  have zsize : ∀ n, (Builtin.zeroCells zv.cells n).size = n * inf.size := fun n => by simp [Builtin.zeroCells, hzz]
  have stay : ∀ {b : Option Addr} {n k : Nat}, a.eval x = .slice b n k → n ≤ k → ys = [] → Acts P φ I σ w a ⟨dst, .call ⟨.builtin .append, #[x, y], ts⟩, ty, pos, after, guard⟩ (x'.ev env) σ := fun hq hnk e0 => by
    refine Quiet.acts hs ⟨a.eval x, ?_, q1⟩
    have h2 := hlenY w
    have h3 := hfirst w rfl
    rw [e0] at h2 h3
    rw [hq]
    have h4 := hrun (V' := a.eval x) (W := w) (by rw [hq]; exact run_app_room0 h0 h1 ht hu hud hi h2 h3 hnk (hnew0 e0))
    rw [hq] at h4
    exact h4
  split at he
  · rename_i e1
    split at he
    · rename_i e0
      simp only [Option.some.injEq, Prod.mk.injEq] at he
      obtain ⟨rfl, rfl⟩ := he
      rw [← e1]
      generalize hq : a.eval x = q at q1
      rw [e1] at q1
      cases q1
      exact stay hq (Nat.le_refl _) e0
    · rename_i e0
      split at he <;> simp only [Option.some.injEq, Prod.mk.injEq, reduceCtorEq] at he
      rename_i hlim
      obtain ⟨rfl, rfl⟩ := he
      generalize hq : a.eval x = q at q1
      rw [e1] at q1
      cases q1
      have hpos : 0 < ys.length := List.length_pos_iff.2 e0
      obtain ⟨cap, hcap, hrn⟩ := run_app_grow (P := P) (w := w) (ts := ts) (ty := ty) (base := none) (sLen := 0) (sCap := 0) (old := #[]) h0 h1 ht hu hud hi (hlenY w) (by omega)
        (bytes_le (by omega) hb1 (by rw [Nat.zero_add]; exact hlim.1)) hb0 hzv (fun wx _ => by simp [Builtin.firstCells]) hfirst
      rw [Nat.zero_add] at hcap hrn
      obtain ⟨f1, f2, f3, f4⟩ := Flat.append (xs := []) (A := #[]) ⟨by simp, fun e h => by simp at h, fun i j h => by simp at h, fun i j e v h => by simp at h⟩ hnew (Builtin.zeroCells zv.cells (cap - ys.length))
      rw [List.nil_append] at f1 f2 f3 f4
      obtain ⟨s1, s2⟩ := row_new (w' := { w with heap := w.heap.push (.cells (#[] ++ new ++ Builtin.zeroCells zv.cells (cap - ys.length)) e (0, 0)), drawn := w.drawn + 1 }) hs rfl ⟨rfl, rfl, rfl⟩ (fits_none _) hzp f1 f2 f3 f4
      refine ⟨_, _, _, _, .inl (hrun (by rw [hq]; exact hrn)), new_rel (t := e) (fz := (0, 0)) hs rfl hcap ?_, s1, s2⟩
      rw [Array.size_append, Array.size_append, hnew.size, zsize, Array.size_empty, Nat.zero_add, ← Nat.add_mul]
      congr 1; omega
  · rename_i z' es e1
    split at he <;> simp only [Option.some.injEq, Prod.mk.injEq, reduceCtorEq] at he
    rename_i e0
    obtain ⟨rfl, rfl⟩ := he
    rw [← e1]
    generalize hq : a.eval x = q at q1
    rw [e1] at q1
    cases q1
    exact stay hq (by assumption) e0
  · rename_i l off len e1
    split at he
    · rename_i e0
      simp only [Option.some.injEq, Prod.mk.injEq] at he
      obtain ⟨rfl, rfl⟩ := he
      rw [← e1]
      generalize hq : a.eval x = q at q1
      rw [e1] at q1
      cases q1
      exact stay hq (by assumption) e0
    · rename_i e0
      split at he <;> (try (simp only [reduceCtorEq] at he; done))
      rename_i z' es hH
      split at he <;> (try (simp only [reduceCtorEq] at he; done))
      rename_i hlim
      obtain ⟨rfl, hl1, hl2⟩ := hlim
      have hpos : 0 < ys.length := List.length_pos_iff.2 e0
      obtain ⟨b, base, arr, t', fz, hφ, hh, hfz, hzpos, hz, hsz, ho1, hr⟩ := hs.row hH
      generalize hq : a.eval x = q at q1
      have q1' := q1
      rw [e1] at q1
      cases q1 with
      | slc hφ' hlc hN had =>
        rename_i b' base' z2 cap ad
        rw [hφ] at hφ'
        simp only [Option.some.injEq, Prod.mk.injEq] at hφ'
        obtain ⟨rfl, rfl, rfl⟩ := hφ'
        have hcell : cellsOf w b = arr.size := by simp [cellsOf, hh]
        have hlv : (σ.H l).isSome = true := by rw [hH]; rfl
        have hcapm : (off + cap) * inf.size = off * inf.size + cap * inf.size := Nat.add_mul _ _ _
        -- in its place
        have place : len + ys.length ≤ cap → ∃ w1 arr', (execOp a.eval ⟨dst, .call ⟨.builtin .append, #[x, y], ts⟩, ty, pos, after, guard⟩).run P w = .ok (.value (.slice (some ad) (len + ys.length) cap)) w1 ∧ w1.heap[b]? = some (.cells arr' t' fz) ∧ arr'.size = arr.size ∧ w1.heap.size = w.heap.size ∧
            (∀ k, k ≠ b → w1.heap[k]? = w.heap[k]?) ∧ Same w w1 ∧ ∀ k, arr'.getD k undef = if base + (off + len) * inf.size ≤ k ∧ k < base + (off + len) * inf.size + new.size then new.getD (k - (base + (off + len) * inf.size)) undef else arr.getD k undef := fun hroom => by
          have hm : (len + ys.length) * inf.size ≤ cap * inf.size := Nat.mul_le_mul_right _ hroom
          rw [Nat.add_mul] at hm
          have hm2 : (off + len) * inf.size = off * inf.size + len * inf.size := Nat.add_mul _ _ _
          obtain ⟨w1, arr', r1, r2, r3, r4, r5, r6, r7⟩ := run_storeCells (P := P) new.toList (base + (off + len) * inf.size) 0 arr w hh hfz (by rw [Array.length_toList, hnew.size]; omega) hnew.scal
          have hst : (storeCells (ad.add (len * inf.size)) new.toList 0).run P w = .ok () w1 := by
            rw [had (by omega), Addr.add_lit, show base + off * inf.size + len * inf.size = base + (off + len) * inf.size by omega]
            exact r1
          refine ⟨w1, arr', hrun (by rw [hq]; exact run_app_room h0 h1 ht hu hud hi (hlenY w) (hfirst w rfl) hroom hst), r2, r3, r4, r5, r6, fun k => ?_⟩
          rw [r7 k, Array.length_toList, Nat.add_zero]
          simp
        split at he
        · rename_i hle
          simp only [Option.some.injEq, Prod.mk.injEq] at he
          obtain ⟨rfl, rfl⟩ := he
          have hroom : len + ys.length ≤ cap := by
            have h5 : es.length * inf.size ≤ (off + cap) * inf.size := by omega
            have := Nat.le_of_mul_le_mul_right h5 hzpos
            omega
          obtain ⟨w1, arr', g1, g2, g3, g4, g5, g6, g7⟩ := place hroom
          have hN1 : cellsOf w1 b = cellsOf w b := by simp [cellsOf, g2, hh, g3]
          have kp : ∀ {v : V} {c : Value}, Rel φ I w v c → Rel φ I w1 v c := fun h => rel_turn hs hlv hφ g5 hN1 (fun _ _ h => h) h
          have hm3 : (off + len + ys.length) * inf.size ≤ es.length * inf.size := Nat.mul_le_mul_right _ hle
          obtain ⟨p1, p2, p3, p4⟩ := put_row (w := w1) (n := off + len) hz hsz ho1 (fun i j e v h1 h2 => kp (hr i j e v h1 h2)) (hnew.mono kp) (by omega) (by omega) g3 g7
          obtain ⟨s1, s2⟩ := sim_turn hs hlv hφ g5 g4 hN1 g6 (.row g2 (hfz.size (by omega)) hzpos p1 p2 p3 p4) (.cells hh g5)
          refine ⟨_, w1, φ, I, .inl g1, .slc hφ hroom (hN.trans hN1.symm) had, s1, s2⟩
        · split at he <;> simp only [Option.some.injEq, Prod.mk.injEq, reduceCtorEq] at he
          rename_i hend
          obtain ⟨rfl, rfl⟩ := he
          by_cases hroom : len + ys.length ≤ cap
          · obtain ⟨w1, arr', g1, g2, g3, g4, g5, g6, g7⟩ := place hroom
            have hN1 : cellsOf w1 b = cellsOf w b := by simp [cellsOf, g2, hh, g3]
            have hm : (len + ys.length) * inf.size ≤ cap * inf.size := Nat.mul_le_mul_right _ hroom
            have hm1 : (off + len + ys.length) * inf.size = off * inf.size + (len + ys.length) * inf.size := by rw [Nat.add_assoc, Nat.add_mul]
            have kp : ∀ {φ' : Phi}, (∀ l y, φ l = some y → φ' l = some y) → ∀ {v : V} {c : Value}, Rel φ I w v c → Rel φ' I w1 v c := fun hφ' _ _ h => rel_turn hs hlv hφ g5 hN1 hφ' h
            obtain ⟨s1, s2⟩ := sim_move (y := (b, base + off * inf.size, inf.size)) hs hlv hφ rfl g5 g4 hN1 g6 (blk := .row inf.size (es.drop off ++ ys)) (fun φ' hφ' => by
              obtain ⟨p1, p2, p3, p4⟩ := put_row (φ := φ') (w := w1) (n := off + len) hz hsz ho1 (fun i j e v h1 h2 => kp hφ' (hr i j e v h1 h2)) (hnew.mono (kp hφ')) (by omega) (by omega) g3 g7
              have hes : es.take (off + len) ++ ys ++ es.drop (off + len + ys.length) = es ++ ys := by
                rw [hend, List.take_length, List.drop_eq_nil_of_le (by omega), List.append_nil]
              rw [hes] at p1 p2 p3 p4
              have hidx : ∀ i j, base + off * inf.size + i * inf.size + j = base + (off + i) * inf.size + j := fun i j => by rw [Nat.add_mul]; omega
              have hgi : ∀ i, (es.drop off ++ ys)[i]? = (es ++ ys)[off + i]? := fun i => by
                rw [← List.getElem?_drop, List.drop_append_of_le_length (by omega)]
              refine .row g2 (hfz.size (by omega)) hzpos (fun e he => p1 e ?_) ?_ (fun i j hi hj => ?_) (fun i j e v h1 h2 => ?_)
              · rcases List.mem_append.1 he with h | h
                · exact List.mem_append_left _ (List.mem_of_mem_drop h)
                · exact List.mem_append_right _ h
              · rw [List.length_append, List.length_drop]
                rw [List.length_append] at p2
                have : (es.length - off + ys.length) * inf.size + off * inf.size = (es.length + ys.length) * inf.size := by rw [← Nat.add_mul]; congr 1; omega
                omega
              · rw [hidx]; rw [List.length_append, List.length_drop] at hi; exact p3 _ j (by rw [List.length_append]; omega) hj
              · rw [hidx]; rw [hgi] at h1; exact p4 _ j e v h1 h2) (.cells hh g5)
            refine ⟨_, w1, _, I, .inl g1, .slc (b := b) (base := base + off * inf.size) (z := inf.size) (by simp [Phi.put]) hroom ?_ (fun hne => ?_), s1, s2⟩
            · rw [hN1, ← hN, hcapm]; simp; omega
            · rw [had hne]; simp
          · -- none: a new row
            have hct : cont σ inf.size (.slc l off len) = some ((es.drop off).take len) := by
              simp [cont, hH]
              omega
            have hdrop : (es.drop off).take len = es.drop off := List.take_of_length_le (by rw [List.length_drop]; omega)
            rw [hdrop] at hct
            rw [e1] at q1'
            obtain ⟨old, hold, _, hfo⟩ := first_run (P := P) hs q1' (ys := es.drop off) (by unfold srcOf; exact hct)
            have hdl : (es.drop off).length = len := by rw [List.length_drop]; omega
            rw [hdl] at hfo
            obtain ⟨cap2, hcap, hrn⟩ := run_app_grow (P := P) (w := w) (ts := ts) (ty := ty) (base := some ad) (sLen := len) (sCap := cap) (old := old) h0 h1 ht hu hud hi (hlenY w) hroom
              (bytes_le (by omega) hb1 hl1) hb0 hzv hfo hfirst
            obtain ⟨k1, k2⟩ := sim_kill hs l
            obtain ⟨f1, f2, f3, f4⟩ := Flat.append hold hnew (Builtin.zeroCells zv.cells (cap2 - (len + ys.length)))
            obtain ⟨s1, s2⟩ := row_new (w' := { w with heap := w.heap.push (.cells (old ++ new ++ Builtin.zeroCells zv.cells (cap2 - (len + ys.length))) e (0, 0)), drawn := w.drawn + 1 }) k2 rfl ⟨rfl, rfl, rfl⟩ (fits_none _) hzpos f1 f2 f3 f4
            refine ⟨_, _, _, _, .inl (hrun (by rw [hq]; exact hrn)), ?_, k1.trans s1, s2⟩
            have := new_rel (t := e) (fz := (0, 0)) (len := len + ys.length) (cap := cap2) (z := inf.size) (w' := { w with heap := w.heap.push (.cells (old ++ new ++ Builtin.zeroCells zv.cells (cap2 - (len + ys.length))) e (0, 0)), drawn := w.drawn + 1 }) k2 rfl hcap (by
              rw [Array.size_append, Array.size_append, hold.size, hnew.size, zsize, hdl, ← Nat.add_mul, ← Nat.add_mul]
              congr 1; omega)
            exact this
  · simp at he
end
end Go.Proofs.YtmkgmjdbgjiehaaDoor.Ab
namespace Go.Proofs.YtmkgmjdbgjiehaaDoor.Ab
open Go.RowKit
set_option linter.unusedVariables false
set_option linter.unusedSimpArgs false
def Ins.quiet : Ins → Bool
  | .new _ | .box _ | .bslice _ _ _ | .st _ _ _ | .s2b _ | .b2b _ | .mkmap | .mksl _ _ _ _ | .app _ _ _ _ | .call _ _ | .callv _ _ | .defer _ _ | .panic _ | .recover => false
  | _ => true
section
variable {P : Program} {φ : Phi} {I : Nat → Prop} {σ : St} {w w' : World} {nt : Nat} {env : Env} {a : Act}
theorem op_okP {o : Oper} {ins : Ins} {v : V} {σ' : St} (hc : compP P nt o = some ins) (hs : Sim φ I σ w) (hf : EnvR φ I w nt env a) (he : evI env σ ins = some (v, σ')) :
    Acts P φ I σ w a o v σ' ∧ (ins.quiet = true → σ' = σ ∧ Quiet P φ I w a o v) := by
  have qu : (σ' = σ ∧ Quiet P φ I w a o v) → Acts P φ I σ w a o v σ' ∧ (ins.quiet = true → σ' = σ ∧ Quiet P φ I w a o v) := fun h => ⟨by obtain ⟨rfl, h2⟩ := h; exact h2.acts hs, fun _ => h⟩
  have ac : ins.quiet = false → Acts P φ I σ w a o v σ' → Acts P φ I σ w a o v σ' ∧ (ins.quiet = true → σ' = σ ∧ Quiet P φ I w a o v) := fun h k => ⟨k, fun h' => by rw [h] at h'; simp at h'⟩
  unfold compP at hc
  split at hc
  case h_1 x ho => -- move
    simp only [Option.map_eq_some_iff] at hc
    obtain ⟨y, hy, rfl⟩ := hc
    simp only [evI, Option.some.injEq, Prod.mk.injEq] at he
    obtain ⟨rfl, rfl⟩ := he
    exact qu ⟨rfl, quiet_mv (.inl ho) hf hy⟩
  case h_2 x ho =>
    simp only [Option.map_eq_some_iff] at hc
    obtain ⟨y, hy, rfl⟩ := hc
    simp only [evI, Option.some.injEq, Prod.mk.injEq] at he
    obtain ⟨rfl, rfl⟩ := he
    exact qu ⟨rfl, quiet_mv (.inr ho) hf hy⟩
  case h_3 c x y ho =>
    simp only [Option.bind_eq_some_iff, Option.map_eq_some_iff] at hc
    obtain ⟨c', hc1, x', hx, y', hy, rfl⟩ := hc
    simp only [evI] at he
    split at he <;> simp only [Option.some.injEq, Prod.mk.injEq, reduceCtorEq] at he
    rename_i b hb
    obtain ⟨rfl, rfl⟩ := he
    exact qu ⟨rfl, quiet_pick ho hf hc1 hx hy hb rfl⟩
  case h_4 t ho =>
    simp only [Option.map_eq_some_iff] at hc
    obtain ⟨z, hz, rfl⟩ := hc
    exact ac rfl (acts_new ho hz hs he)
  case h_5 t x ho =>
    simp only [Option.map_eq_some_iff] at hc
    obtain ⟨y, hy, rfl⟩ := hc
    exact ac rfl (acts_box ho hs hf hy he)
  case h_6 t parts ho =>
    split at hc
    · rename_i fs hu
      simp only [Option.bind_eq_some_iff, Option.map_eq_some_iff] at hc
      obtain ⟨z, hz, ps, hps, hc⟩ := hc
      split at hc
      · rename_i hall
        subst hc
        exact qu (quiet_build ho hu hz hall hps hf he)
      · subst hc; simp [evI] at he
    · simp at hc
  case h_7 t len parts ho =>
    split at hc
    · rename_i e hu
      simp only [Option.bind_eq_some_iff] at hc
      obtain ⟨z, hz, hc⟩ := hc
      split at hc
      · rename_i hlim
        simp only [Option.map_eq_some_iff] at hc
        obtain ⟨ps, hps, rfl⟩ := hc
        exact ac rfl (acts_bslice ho hu hz hlim (by simpa only [Option.map_eq_map] using hps) hs hf he)
      · simp at hc
    · simp at hc
  case h_8 t x ho =>
    simp only [Option.bind_eq_some_iff] at hc
    obtain ⟨d, hd, hc⟩ := hc
    split at hc
    · rename_i hag
      simp only [Option.bind_eq_some_iff, Option.map_eq_some_iff] at hc
      obtain ⟨n, hn, x', hx, rfl⟩ := hc
      exact qu (quiet_lda ho hd hag hn hs hf hx he)
    · rename_i hag
      simp only [Option.map_eq_some_iff] at hc
      obtain ⟨x', hx, rfl⟩ := hc
      exact qu (quiet_ld ho hd (by simpa using hag) hs hf hx he)
  case h_9 t x y ho =>
    simp only [Option.bind_eq_some_iff, Option.map_eq_some_iff] at hc
    obtain ⟨n, hn, x', hx, y', hy, rfl⟩ := hc
    exact ac rfl (acts_st ho hn hs hf hx hy he)
  case h_10 x ho =>
    simp only [Option.map_eq_some_iff] at hc
    obtain ⟨x', hx, rfl⟩ := hc
    exact qu (quiet_nilck ho hf hx he)
  case h_11 op t x y u ho =>
    simp only [Option.bind_eq_some_iff] at hc
    obtain ⟨x', hx, y', hy, hc⟩ := hc
    unfold compBin at hc
    have hcase : ∀ neg : Bool, op = (if neg then .neq else .eql) → ((P.underlying t).bind fun
      | .int _ | .string => some (.bin op x' y')
      | .bool => some (.beq neg x' y')
      | .pointer _ => some (.nq neg 1 x' y')
      | .slice _ => some (.nq neg 2 x' y')
      | .func _ _ _ => some (.nq neg 3 x' y')
      | .interface _ => if (isConstO x || isConstO y) then some (.nq neg 4 x' y') else none
      | .map _ _ => some (.nq neg 5 x' y')
      | .struct _ => (kinds P 20 t).bind fun ks => if P.eqGuardType P.depth t = false then some (.eqa neg ks x' y') else none
      | _ => none) = some ins → Acts P φ I σ w a o v σ' ∧ (ins.quiet = true → σ' = σ ∧ Quiet P φ I w a o v) := fun neg hop hc => by
      simp only [Option.bind_eq_some_iff] at hc
      obtain ⟨d, hd, hc⟩ := hc
      split at hc
      · simp only [Option.some.injEq] at hc; subst hc; exact qu (quiet_bin ho hf hx hy he)
      · simp only [Option.some.injEq] at hc; subst hc; exact qu (quiet_bin ho hf hx hy he)
      · simp only [Option.some.injEq] at hc; subst hc; exact qu (quiet_beq ho hop hd hf hx hy he)
      · simp only [Option.some.injEq] at hc; subst hc; exact qu (quiet_nq (fam := 1) ho hop hd rfl (by decide) (fun h => by simp at h) hf hx hy he)
      · simp only [Option.some.injEq] at hc; subst hc; exact qu (quiet_nq (fam := 2) ho hop hd rfl (by decide) (fun h => by simp at h) hf hx hy he)
      · simp only [Option.some.injEq] at hc; subst hc; exact qu (quiet_nq (fam := 3) ho hop hd rfl (by decide) (fun h => by simp at h) hf hx hy he)
      · split at hc <;> simp only [Option.some.injEq, reduceCtorEq] at hc
        rename_i hcc
        subst hc; exact qu (quiet_nq (fam := 4) ho hop hd rfl (by decide) (fun _ => hcc) hf hx hy he)
      · simp only [Option.some.injEq] at hc; subst hc; exact qu (quiet_nq (fam := 5) ho hop hd rfl (by decide) (fun h => by simp at h) hf hx hy he)
      · simp only [Option.bind_eq_some_iff] at hc
        obtain ⟨ks, hks, hc⟩ := hc
        split at hc <;> simp only [Option.some.injEq, reduceCtorEq] at hc
        rename_i hg
        subst hc
        exact qu (quiet_eqa ho hop hd hks hg hf hx hy he)
      · simp at hc
    split at hc
    · exact hcase false rfl hc
    · exact hcase true rfl hc
    · simp only [Option.some.injEq] at hc; subst hc; exact qu (quiet_bin ho hf hx hy he)
  case h_12 op t x ho =>
    simp only [Option.map_eq_some_iff] at hc
    obtain ⟨x', hx, rfl⟩ := hc
    exact qu (quiet_un ho hf hx he)
  case h_13 s t x ho =>
    simp only [Option.bind_eq_some_iff] at hc
    obtain ⟨x', hx, hc⟩ := hc
    unfold compConv at hc
    split at hc
    · rename_i ks k hs1 ht1
      simp only [Option.some.injEq] at hc; subst hc
      exact qu (quiet_cvi ho hs1 ht1 hf hx he)
    · rename_i hs1 ht1
      simp only [Option.some.injEq] at hc; subst hc
      exact qu (quiet_cvs ho hs1 ht1 hf hx he)
    · rename_i e hs1 ht1
      split at hc <;> simp only [Option.some.injEq, reduceCtorEq] at hc
      rename_i h8 hsz
      subst hc
      exact ac rfl (acts_s2b ho hs1 ht1 h8 hs hf hx he)
    · rename_i e hs1 ht1
      split at hc <;> simp only [Option.some.injEq, reduceCtorEq] at hc
      rename_i h8
      subst hc
      exact qu (quiet_b2s ho hs1 h8 ht1 hs hf hx he)
    · rename_i e' e hs1 ht1
      split at hc <;> (try (simp only [reduceCtorEq] at hc; done))
      rename_i h8
      split at hc <;> simp only [Option.some.injEq, reduceCtorEq] at hc
      rename_i heq
      subst hc
      subst heq
      exact ac rfl (acts_b2b ho hs1 ht1 h8 hs hf hx he)
    · simp at hc
  case h_14 t x ho =>
    split at hc
    · simp at hc
    · simp at hc
    · rename_i hd1 hd2
      simp only [Option.map_eq_some_iff] at hc
      obtain ⟨x', hx, rfl⟩ := hc
      cases hd : P.underlying t with
      | none => exact absurd hd hd2
      | some d => exact qu (quiet_mki ho hd (fun ms e => hd1 ms (by rw [hd, e])) hf hx he)
  case h_15 fn xs ys ho =>
    simp only [Option.bind_eq_some_iff, Option.map_eq_some_iff] at hc
    obtain ⟨x', hx, y', hy, rfl⟩ := hc
    exact qu (quiet_mkf ho hf hx hy he)
  case h_16 t ho =>
    simp only [Option.some.injEq] at hc; subst hc
    exact ac rfl (acts_mkmap ho hs he)
  case h_17 t l c ho =>
    split at hc
    · rename_i e hu
      simp only [Option.bind_eq_some_iff] at hc
      obtain ⟨z, hz, i, hi, hc⟩ := hc
      split at hc
      · rename_i hb
        simp only [Option.bind_eq_some_iff, Option.map_eq_some_iff] at hc
        obtain ⟨l', hl, c', hc1, rfl⟩ := hc
        exact ac rfl (acts_mksl ho hu hz hi hb hs hf hl hc1 he)
      · simp at hc
    · simp at hc
  case h_18 t x lo hi ho =>
    split at hc
    · rename_i hu
      simp only [Option.bind_eq_some_iff, Option.map_eq_some_iff] at hc
      obtain ⟨x', hx, lo', hlo, hi', hhi, rfl⟩ := hc
      exact qu (quiet_ssl ho hu hf hx hlo hhi he)
    · rename_i e hu
      simp only [Option.bind_eq_some_iff] at hc
      obtain ⟨z, hz, hc⟩ := hc
      split at hc
      · rename_i hzp
        simp only [Option.bind_eq_some_iff, Option.map_eq_some_iff] at hc
        obtain ⟨x', hx, lo', hlo, hi', hhi, rfl⟩ := hc
        exact qu (quiet_lsl ho hu hz hzp hs hf hx hlo hhi he)
      · simp at hc
    · simp at hc
  case h_19 s x f ho =>
    simp only [Option.bind_eq_some_iff] at hc
    obtain ⟨d, hd, hc⟩ := hc
    split at hc
    · rename_i hn
      simp only [Option.map_eq_some_iff] at hc
      obtain ⟨x', hx, rfl⟩ := hc
      exact qu (quiet_fa ho hd hn hf hx he)
    · simp at hc
  case h_20 s x f ho =>
    simp only [Option.bind_eq_some_iff, Option.map_eq_some_iff] at hc
    obtain ⟨d, hd, u, hu, x', hx, rfl⟩ := hc
    exact qu (quiet_fld ho hd hu hf hx he)
  case h_21 t x i ho =>
    simp only [Option.bind_eq_some_iff] at hc
    obtain ⟨x', hx, i', hi, hc⟩ := hc
    split at hc
    · rename_i e hu
      simp only [Option.bind_eq_some_iff] at hc
      obtain ⟨z, hz, hc⟩ := hc
      split at hc <;> simp only [Option.some.injEq, reduceCtorEq] at hc
      subst hc
      exact qu (quiet_ia ho hu hz hs hf hx hi he)
    · rename_i n e hu
      simp only [Option.map_eq_some_iff] at hc
      obtain ⟨z, hz, rfl⟩ := hc
      exact qu (quiet_aa ho hu hz hf hx hi he)
    · simp at hc
  case h_22 t x i ho =>
    split at hc
    · rename_i hu
      simp only [Option.bind_eq_some_iff, Option.map_eq_some_iff] at hc
      obtain ⟨x', hx, i', hi, rfl⟩ := hc
      exact qu (quiet_sx ho hu hf hx hi he)
    · simp at hc
  case h_23 x s t ok ho =>
    split at hc
    · simp at hc
    · simp at hc
    · rename_i hd1 hd2
      simp only [Option.bind_eq_some_iff, Option.map_eq_some_iff] at hc
      obtain ⟨z, hz, x', hx, rfl⟩ := hc
      cases hd : P.underlying t with
      | none => exact absurd hd hd2
      | some d => exact qu (quiet_tas ho hd (fun ms e => hd1 ms (by rw [hd, e])) hz hf hx he)
  case h_24 x i ho =>
    simp only [Option.map_eq_some_iff] at hc
    obtain ⟨x', hx, rfl⟩ := hc
    exact qu (quiet_ext ho hf hx he)
  case h_25 c ho =>
    unfold compB at hc
    split at hc
    · rename_i hcal
      split at hc
      · rename_i t x ht ha
        split at hc
        · rename_i hu
          simp only [Option.map_eq_some_iff] at hc
          obtain ⟨x', hx, rfl⟩ := hc
          exact qu (quiet_slen ho hcal ht ha hu hf hx he)
        · rename_i e hu
          simp only [Option.map_eq_some_iff] at hc
          obtain ⟨x', hx, rfl⟩ := hc
          exact qu (quiet_llen ho hcal ht ha hu hf hx he)
        · simp at hc
      · simp at hc
    · rename_i hcal
      split at hc
      · rename_i t u x y ht hu ha
        split at hc
        · rename_i e ud hte hud
          split at hc
          · rename_i i hi
            split at hc
            · rename_i hcond
              simp only [Option.bind_eq_some_iff, Option.map_eq_some_iff] at hc
              obtain ⟨x', hx, y', hy, rfl⟩ := hc
              exact ac rfl (acts_app ho hcal ht hu ha hte hud hcond.1 hi hcond.2.1 hcond.2.2.1 hcond.2.2.2.1 hcond.2.2.2.2 hs hf hx hy he)
            · simp at hc
          · simp at hc
        · simp at hc
      · simp at hc
    · rename_i hcal
      simp only [Option.map_eq_some_iff] at hc
      obtain ⟨xs, hxs, rfl⟩ := hc
      exact qu (quiet_mm (isMax := true) ho hcal hxs hf he)
    · rename_i hcal
      simp only [Option.map_eq_some_iff] at hc
      obtain ⟨xs, hxs, rfl⟩ := hc
      exact qu (quiet_mm (isMax := false) ho hcal hxs hf he)
    · simp at hc
  case h_26 => simp at hc
theorem plain_of {i : Option Ins} {ins : Ins} (h : onlyPlain i = some ins) : i = some ins ∧ ins.plain = true := by
  unfold onlyPlain at h
  simp only [Option.bind_eq_some_iff] at h
  obtain ⟨j, hj, h⟩ := h
  split at h <;> simp at h
  subst h
  exact ⟨hj, by assumption⟩
theorem op_ok {o : Oper} {ins : Ins} {v : V} {σ' : St} (hc : compOp P nt o = some ins) (hs : Sim φ I σ w) (hf : EnvR φ I w nt env a) (he : evI env σ ins = some (v, σ')) :
    Acts P φ I σ w a o v σ' ∧ (ins.quiet = true → σ' = σ ∧ Quiet P φ I w a o v) := by
  unfold compOp at hc
  split at hc
  · split at hc
    · split at hc <;> simp at hc
      obtain ⟨_, _, rfl⟩ := hc
      simp [evI] at he
    · simp only [Option.bind_eq_some_iff, Option.map_eq_some_iff] at hc
      obtain ⟨_, _, _, _, rfl⟩ := hc
      simp [evI] at he
    · simp at hc; subst hc; simp [evI] at he
    · exact op_okP (plain_of hc).1 hs hf he
  · split at hc
    · simp only [Option.bind_eq_some_iff, Option.map_eq_some_iff] at hc
      obtain ⟨_, _, _, _, rfl⟩ := hc
      simp [evI] at he
    · simp at hc
  · simp only [Option.map_eq_some_iff] at hc
    obtain ⟨_, _, rfl⟩ := hc
    simp [evI] at he
  · exact op_okP (plain_of hc).1 hs hf he
end
end Go.Proofs.YtmkgmjdbgjiehaaDoor.Ab
namespace Go.Proofs.YtmkgmjdbgjiehaaDoor.Ab
open Go.RowKit
set_option linter.unusedVariables false
set_option linter.unusedSimpArgs false
inductive CO where
  | ret (v : V)
  | panic (v : V)
inductive AX where
  | normal
  | exit (id : Nat)
  | ret
  | panic (v : V)
inductive AD where
  | call (fn : Fn) (cap args : List V)
  | coll
structure Fr where
  env : Env
  ds : List AD
def Fr.put (f : Fr) (d : Option Nat) (v : V) : Fr := { f with env := f.env.put d v }
inductive RelO (φ : Phi) (I : Nat → Prop) (w : World) : CO → Ending → Prop where
  | ret {v : V} {c : Value} (h : Rel φ I w v c) : RelO φ I w (.ret v) (.returned c)
  | panic {v : V} {c : Value} (h : Rel φ I w v c) : RelO φ I w (.panic v) (.panicked [{ v := c, recovered := false }])
inductive RelX (φ : Phi) (I : Nat → Prop) (w : World) : AX → Exit → Prop where
  | normal : RelX φ I w .normal .normal
  | exit (id : Nat) : RelX φ I w (.exit id) (.exit id)
  | ret : RelX φ I w .ret .ret
  | panic {v : V} {c : Value} (h : Rel φ I w v c) : RelX φ I w (.panic v) (.panic [{ v := c, recovered := false }])
def RelDs (lo : Nat) (φ : Phi) (I : Nat → Prop) (w : World) : Nat → List AD → List Deferred → Prop
  | _, [], [] => True
  | hi, .call fn cap args :: ds, c :: cs => ((∃ cs, c.target = .fn fn cs ∧ RelA φ I w cap cs) ∧ RelA φ I w args c.args) ∧ RelDs lo φ I w hi ds cs
  | hi, .coll :: ds, c :: cs => ∃ D, c.target = .collected D ∧ lo ≤ D ∧ D < hi ∧ I D ∧ w.heap[D]? = some (.deferred (some [])) ∧ RelDs lo φ I w D ds cs
  | _, _, _ => False
structure RelF (nt lo : Nat) (φ : Phi) (I : Nat → Prop) (w : World) (f : Fr) (a : Act) : Prop where
  size : a.tmps.size = nt
  env : EnvR φ I w nt f.env a
  ds : RelDs lo φ I w w.heap.size f.ds a.defers
  lo : lo ≤ w.heap.size
def CCalls (P : Program) (k : FuncId) (vs : List V) (σ : St) (R : CO → St → Prop) : Prop :=
  ∀ (φ : Phi) (I : Nat → Prop) (w : World) (cs : Array Value), Sim φ I σ w → RelA φ I w vs cs →
    Calls P k cs w fun e w' => ∃ o σ' φ' I', R o σ' ∧ RelO φ' I' w' o e ∧ Evo φ I σ w φ' I' σ' w' ∧ Sim φ' I' σ' w'
theorem CCalls.mono {P : Program} {k : FuncId} {vs : List V} {σ : St} {R R' : CO → St → Prop} (h : CCalls P k vs σ R) (hr : ∀ o σ', R o σ' → R' o σ') : CCalls P k vs σ R' :=
  fun φ I w cs hs ha => (h φ I w cs hs ha).mono fun e w' ⟨o, σ', φ', I', h1, h2⟩ => ⟨o, σ', φ', I', hr _ _ h1, h2⟩
def WF (ro : Option Nat) : Fence := { Fence.wide with round := ro }
theorem callsIn_wf {ro : Option Nat} {n : Nat} {P : Program} {f : FuncId} {args : Array Value} {w : World} {R : Ending → World → Prop} (h : Calls P f args w R) : CallsIn (WF ro) n P f args w R := callsIn_wide.2 h
def YW (P : Program) (l : Nat) (cs : Array Value) (w : World) (R : Ending → World → Prop) : Prop :=
  ∃ fn tmps asg body, (Instr.yield l cs).run P w = .ok (.round l fn tmps asg body) w ∧ RoundIn Fence.wide 0 P l fn tmps asg body w R
structure YS (P : Program) where
  R : Phi → (Nat → Prop) → World → Prop
  call : Nat → List V → St → (CO → St → Prop) → Prop
  st : ∀ φ I σ w φ' I' σ' w', Sim φ I σ w → Evo φ I σ w φ' I' σ' w' → R φ I w → R φ' I' w'
  mono : ∀ l vs σ K K', (∀ o σ, K o σ → K' o σ) → call l vs σ K → call l vs σ K'
  ok : ∀ l vs σ K, call l vs σ K → ∀ φ I w cs, Sim φ I σ w → R φ I w → RelA φ I w vs cs →
    YW P l cs w fun e w' => ∃ o σ' φ' I', K o σ' ∧ RelO φ' I' w' o e ∧ Evo φ I σ w φ' I' σ' w' ∧ Sim φ' I' σ' w'
def noY (P : Program) : YS P := ⟨fun _ _ _ => True, fun _ _ _ _ => False, fun _ _ _ _ _ _ _ _ _ _ _ => trivial, fun _ _ _ _ _ _ h => h, fun _ _ _ _ h => h.elim⟩
def CCallsY (P : Program) (Y : YS P) (k : FuncId) (vs : List V) (σ : St) (R : CO → St → Prop) : Prop :=
  ∀ (φ : Phi) (I : Nat → Prop) (w : World) (cs : Array Value), Sim φ I σ w → RelA φ I w vs cs → Y.R φ I w →
    Calls P k cs w fun e w' => ∃ o σ' φ' I', R o σ' ∧ RelO φ' I' w' o e ∧ Evo φ I σ w φ' I' σ' w' ∧ Sim φ' I' σ' w'
def Iter (P : Program) (gf : FuncId) (cap : List V) (G : St → Prop) (xs : List (List V)) : Prop :=
  ∀ (Y : YS P) (l : Nat) (J : Nat → St → Prop) (X : St → Prop) (σ : St), (∀ i σ, J i σ → G σ) → (∀ σ, X σ → G σ) →
    (∀ i x σ, xs[i]? = some x → J i σ → Y.call l x σ fun o σ' => (o = .ret (.bool true) ∧ J (i + 1) σ') ∨ (o = .ret (.bool false) ∧ X σ')) → J 0 σ →
    CCallsY P Y gf (.func (.yield l) [] [] :: cap) σ fun o σ' => o = .ret (.tup []) ∧ (J xs.length σ' ∨ X σ')
def Lift (nt lo : Nat) (Q : AX → Fr → St → Prop) (φ : Phi) (I : Nat → Prop) (σ : St) (w : World) : Exit → Act → World → Prop := fun e a' w' =>
  ∃ x f' σ' φ' I', Q x f' σ' ∧ RelX φ' I' w' x e ∧ Evo φ I σ w φ' I' σ' w' ∧ Sim φ' I' σ' w' ∧ RelF nt lo φ' I' w' f' a'
structure RI where
  dst : Option Nat
  guard : Option (Nat × Bool)
  ins : Ins
def wantG (env : Env) : Option (Nat × Bool) → Option Bool
  | none => some true
  | some (d, b) => match env d with
    | .bool t => some (t == b)
    | .tup [] => some false
    | _ => none
def evs (env : Env) (as : List Opd) : List V := as.map (·.ev env)
def rwp1 (P : Program) (ro : Option Nat) (Y : YS P) (Q : AX → Fr → St → Prop) (K : Fr → St → Prop) (r : RI) (f : Fr) (σ : St) : Prop :=
  match wantG f.env r.guard with
  | none => False
  | some false => K (f.put r.dst (.tup [])) σ
  | some true => match r.ins with
    | .call k as => CCalls P k (evs f.env as) σ fun o σ' => match o with
      | .ret v => K (f.put r.dst v) σ'
      | .panic v => Q (.panic v) f σ'
    | .callv g as => match g.ev f.env with
      | .func (.func k) first cap => hasBody P k = true ∧ CCalls P k (first ++ evs f.env as ++ cap) σ fun o σ' => match o with
        | .ret v => K (f.put r.dst v) σ'
        | .panic v => Q (.panic v) f σ'
      | .func (.yield l) [] [] => Y.call l (evs f.env as) σ fun o σ' => match o with
        | .ret v => K (f.put r.dst v) σ'
        | .panic v => Q (.panic v) f σ'
      | _ => False
    | .defer g as => ro = none ∧ match g.ev f.env with
      | .func fn first cap => K ({ f with ds := .call fn cap (first ++ evs f.env as) :: f.ds }.put r.dst (.tup [])) σ
      | _ => False
    | .panic x => match x.ev f.env with
      | .iface t v => Q (.panic (.iface t v)) f σ
      | _ => False
    | .recover => False
    | ins => match evI f.env σ ins with
      | some (v, σ') => K (f.put r.dst v) σ'
      | none => False
def rwp (P : Program) (ro : Option Nat) (Y : YS P) (Q : AX → Fr → St → Prop) : List RI → Fr → St → Prop
  | [], f, σ => Q .normal f σ
  | r :: rs, f, σ => rwp1 P ro Y Q (rwp P ro Y Q rs) r f σ
def cGuard (nt : Nat) (ops : Array Oper) : Option (Nat × Bool) → Option (Option (Nat × Bool))
  | none => some none
  | some (j, b) => ((ops[j]?).bind (·.dst)).bind fun d => if d < nt then some (some (d, b)) else none
def cRI (P : Program) (nt : Nat) (ops : Array Oper) (o : Oper) : Option RI :=
  (cGuard nt ops o.guard).bind fun g => (compOp P nt o).map fun i => ⟨o.dst, g, i⟩
section
variable {P : Program} {φ φ' : Phi} {I I' : Nat → Prop} {σ σ' : St} {w w' : World} {nt : Nat} {f : Fr} {a : Act}
theorem RelA.evo {vs : List V} {cs : Array Value} (h : RelA φ I w vs cs) (hs : Sim φ I σ w) (he : Evo φ I σ w φ' I' σ' w') : RelA φ' I' w' vs cs := ⟨h.1, fun i v hv => (h.2 i v hv).evo hs he⟩
theorem RelDs.le {lo : Nat} : ∀ {hi hi' : Nat} {ds : List AD} {cs : List Deferred}, hi ≤ hi' → RelDs lo φ I w hi ds cs → RelDs lo φ I w hi' ds cs
  | _, _, [], [], _, _ => trivial
  | _, _, .call .. :: _, _ :: _, hh, h => ⟨h.1, RelDs.le hh h.2⟩
  | _, _, .coll :: _, _ :: _, hh, ⟨D, h1, h2, h3, h4⟩ => ⟨D, h1, h2, by omega, h4⟩
  | _, _, [], _ :: _, _, h => h.elim
  | _, _, _ :: _, [], _, h => by rename_i d _ _; cases d <;> exact h.elim
theorem RelDs.evo {lo : Nat} (hs : Sim φ I σ w) (he : Evo φ I σ w φ' I' σ' w') : ∀ {hi : Nat} {ds : List AD} {cs : List Deferred}, RelDs lo φ I w hi ds cs → RelDs lo φ' I' w' hi ds cs
  | _, [], [], h => trivial
  | hi, .call fn cap args :: ds, c :: cs, h => by
    obtain ⟨⟨⟨x, h1, h2⟩, h3⟩, h4⟩ := h
    exact ⟨⟨⟨x, h1, h2.evo hs he⟩, h3.evo hs he⟩, RelDs.evo hs he h4⟩
  | hi, .coll :: ds, c :: cs, h => by
    obtain ⟨D, h1, h0, h5, h2, h3, h4⟩ := h
    exact ⟨D, h1, h0, h5, he.imm D h2, (he.frame D (hs.imm D h2) (fun hl => hs.notI D hl h2)).trans h3, RelDs.evo hs he h4⟩
  | _, [], _ :: _, h => h.elim
  | _, d :: _, [], h => by cases d <;> exact h.elim
theorem RelF.evo {lo : Nat} (h : RelF nt lo φ I w f a) (hs : Sim φ I σ w) (he : Evo φ I σ w φ' I' σ' w') : RelF nt lo φ' I' w' f a := ⟨h.size, fun t ht => (h.env t ht).evo hs he, (h.ds.evo hs he).le he.size, Nat.le_trans h.lo he.size⟩
theorem RelF.put {lo : Nat} (h : RelF nt lo φ I w f a) {v : V} {c : Value} (hv : Rel φ I w v c) (d : Option Nat) : RelF nt lo φ I w (f.put d v) (a.put d c) := by
  cases d with
  | none => exact h
  | some d =>
    refine ⟨by simp [Act.put, h.size], fun t ht => ?_, h.ds, h.lo⟩
    simp only [Fr.put, Env.put, Act.put]
    by_cases e : t = d
    · subst e
      rw [if_pos rfl]
      have : t < a.tmps.size := by rw [h.size]; exact ht
      simp [this, hv]
    · rw [if_neg e]
      have := h.env t ht
      simpa [Array.getElem?_setIfInBounds, Ne.symm e] using this
theorem want_ok {lo : Nat} {ops : Array Oper} {o : Oper} {g : Option (Nat × Bool)} (hg : cGuard nt ops o.guard = some g) (hf : RelF nt lo φ I w f a) {b : Bool} (h : wantG f.env g = some b) : Region.wanted o (yielded ops a.tmps) = b := by
  unfold Region.wanted
  cases hog : o.guard with
  | none =>
    rw [hog] at hg
    simp only [cGuard, Option.some.injEq] at hg
    subst hg
    simp only [wantG, Option.some.injEq] at h
    exact h
  | some jb =>
    obtain ⟨j, want⟩ := jb
    rw [hog] at hg
    simp only [cGuard, Option.bind_eq_some_iff] at hg
    obtain ⟨d, hd, hg⟩ := hg
    split at hg <;> simp at hg
    rename_i hlt
    subst hg
    have hr := hf.env d hlt
    have hsz : d < a.tmps.size := by rw [hf.size]; exact hlt
    have hget : a.tmps[d]? = some (a.tmps.getD d undef) := by simp [hsz]
    have hd' : (ops[j]?).bind (·.dst) = some d := by rw [Option.bind_eq_some_iff]; exact hd
    simp only [yielded, hd', Option.bind_some, hget]
    simp only [wantG] at h
    split at h
    · rename_i t ht
      rw [ht] at hr
      rw [hr.bool_inv]
      simp at h ⊢
      exact h
    · rename_i ht
      rw [ht] at hr
      generalize a.tmps.getD d undef = c at hr
      cases hr
      simp at h ⊢
      exact h
    · simp at h
theorem rels_of (hf : EnvR φ I w nt f.env a) {xs : Array Operand} {xs' : List Opd} (h : cOpds nt xs.toList = some xs') : RelA φ I w (evs f.env xs') (xs.map a.eval) := rels_map hf h
theorem RelA.append {vs us : List V} {cs ds : Array Value} (h : RelA φ I w vs cs) (k : RelA φ I w us ds) : RelA φ I w (vs ++ us) (cs ++ ds) := by
  refine ⟨by simp [h.1, k.1], fun i v hv => ?_⟩
  simp only [Array.getD_eq_getD_getElem?]
  by_cases hi : i < vs.length
  · rw [List.getElem?_append_left hi] at hv
    rw [Array.getElem?_append_left (by rw [h.1]; exact hi)]
    have := h.2 i v hv
    simpa only [Array.getD_eq_getD_getElem?] using this
  · rw [List.getElem?_append_right (by omega)] at hv
    rw [Array.getElem?_append_right (by rw [h.1]; omega), h.1]
    have := k.2 _ v hv
    simpa only [Array.getD_eq_getD_getElem?] using this
theorem run_callFunc {k : FuncId} {fn : Func} (hfn : P.funcs[k]? = some fn) (hb : fn.body.isSome = true) (hnm : fn.name ≠ "runtime.NumGoroutine") (args : Array Value) : (callFunc k args).run P w = .ok (.enter k args) w := by
  have h1 : fn.body.isNone = false := by cases h : fn.body <;> simp_all
  have h2 : (fn.name == "runtime.NumGoroutine") = false := by simpa using hnm
  unfold callFunc
  rw [Sem.run_bind, run_program]
  simp only [Result.andThen_ok, hfn, h2, Bool.false_eq_true, if_false, h1, Sem.run_pure]
theorem run_hasBody {k : FuncId} (h : hasBody P k = true) (args : Array Value) : (callFunc k args).run P w = .ok (.enter k args) w := by
  unfold hasBody at h
  cases hf : P.funcs[k]? with
  | none => rw [hf] at h; simp at h
  | some fn =>
    rw [hf] at h
    simp only [Option.any_some, Bool.and_eq_true, bne_iff_ne, ne_eq] at h
    exact run_callFunc hf h.1 h.2 args
theorem comp_call {o : Oper} {k : FuncId} {as : List Opd} (hc : compOp P nt o = some (.call k as)) :
    ∃ c, o.op = .call c ∧ c.callee = .value (.func k) ∧ cOpds nt c.args.toList = some as ∧ hasBody P k = true := by
  unfold compOp at hc
  split at hc
  · rename_i c ho
    split at hc
    · rename_i f hcal
      split at hc
      · rename_i hb
        obtain ⟨xs, hxs, e⟩ := Option.map_eq_some_iff.1 hc
        simp only [Ins.call.injEq] at e
        obtain ⟨rfl, rfl⟩ := e
        exact ⟨c, ho, hcal, hxs, hb⟩
      · simp at hc
    · obtain ⟨_, _, hc⟩ := Option.bind_eq_some_iff.1 hc
      obtain ⟨_, _, e⟩ := Option.map_eq_some_iff.1 hc
      simp at e
    · simp at hc
    · have := (plain_of hc).2; simp [Ins.plain] at this
  · split at hc
    · obtain ⟨_, _, hc⟩ := Option.bind_eq_some_iff.1 hc
      obtain ⟨_, _, e⟩ := Option.map_eq_some_iff.1 hc
      simp at e
    · simp at hc
  · obtain ⟨_, _, e⟩ := Option.map_eq_some_iff.1 hc
    simp at e
  · have := (plain_of hc).2; simp [Ins.plain] at this
theorem comp_callv {o : Oper} {g : Opd} {as : List Opd} (hc : compOp P nt o = some (.callv g as)) :
    ∃ c x, o.op = .call c ∧ c.callee = .value x ∧ cOpd nt x = some g ∧ cOpds nt c.args.toList = some as := by
  unfold compOp at hc
  split at hc
  · rename_i c ho
    split at hc
    · split at hc
      · obtain ⟨_, _, e⟩ := Option.map_eq_some_iff.1 hc
        simp at e
      · simp at hc
    · rename_i x _ hcal
      obtain ⟨x', hx, hc⟩ := Option.bind_eq_some_iff.1 hc
      obtain ⟨as', has, e⟩ := Option.map_eq_some_iff.1 hc
      simp only [Ins.callv.injEq] at e
      obtain ⟨rfl, rfl⟩ := e
      exact ⟨c, x, ho, hcal, hx, has⟩
    · simp at hc
    · have := (plain_of hc).2; simp [Ins.plain] at this
  · split at hc
    · obtain ⟨_, _, hc⟩ := Option.bind_eq_some_iff.1 hc
      obtain ⟨_, _, e⟩ := Option.map_eq_some_iff.1 hc
      simp at e
    · simp at hc
  · obtain ⟨_, _, e⟩ := Option.map_eq_some_iff.1 hc
    simp at e
  · have := (plain_of hc).2; simp [Ins.plain] at this
theorem comp_defer {o : Oper} {g : Opd} {as : List Opd} (hc : compOp P nt o = some (.defer g as)) :
    ∃ c x, o.op = .defer c ∧ c.callee = .value x ∧ cOpd nt x = some g ∧ cOpds nt c.args.toList = some as := by
  unfold compOp at hc
  split at hc
  · split at hc
    · split at hc
      · obtain ⟨_, _, e⟩ := Option.map_eq_some_iff.1 hc
        simp at e
      · simp at hc
    · obtain ⟨_, _, hc⟩ := Option.bind_eq_some_iff.1 hc
      obtain ⟨_, _, e⟩ := Option.map_eq_some_iff.1 hc
      simp at e
    · simp at hc
    · have := (plain_of hc).2; simp [Ins.plain] at this
  · rename_i c ho
    split at hc
    · rename_i x hcal
      obtain ⟨x', hx, hc⟩ := Option.bind_eq_some_iff.1 hc
      obtain ⟨as', has, e⟩ := Option.map_eq_some_iff.1 hc
      simp only [Ins.defer.injEq] at e
      obtain ⟨rfl, rfl⟩ := e
      exact ⟨c, x, ho, hcal, hx, has⟩
    · simp at hc
  · obtain ⟨_, _, e⟩ := Option.map_eq_some_iff.1 hc
    simp at e
  · have := (plain_of hc).2; simp [Ins.plain] at this
theorem comp_panic {o : Oper} {g : Opd} (hc : compOp P nt o = some (.panic g)) : ∃ x, o.op = .panic x ∧ cOpd nt x = some g := by
  unfold compOp at hc
  split at hc
  · split at hc
    · split at hc
      · obtain ⟨_, _, e⟩ := Option.map_eq_some_iff.1 hc
        simp at e
      · simp at hc
    · obtain ⟨_, _, hc⟩ := Option.bind_eq_some_iff.1 hc
      obtain ⟨_, _, e⟩ := Option.map_eq_some_iff.1 hc
      simp at e
    · simp at hc
    · have := (plain_of hc).2; simp [Ins.plain] at this
  · split at hc
    · obtain ⟨_, _, hc⟩ := Option.bind_eq_some_iff.1 hc
      obtain ⟨_, _, e⟩ := Option.map_eq_some_iff.1 hc
      simp at e
    · simp at hc
  · rename_i x ho
    obtain ⟨x', hx, e⟩ := Option.map_eq_some_iff.1 hc
    simp only [Ins.panic.injEq] at e
    subst e
    exact ⟨x, ho, hx⟩
  · have := (plain_of hc).2; simp [Ins.plain] at this
theorem noDefer {o : Oper} {ins : Ins} (hc : compOp P nt o = some ins) (h : ∀ g as, ins ≠ .defer g as) : ∀ c, o.op ≠ .defer c := by
  intro c ho
  unfold compOp at hc
  rw [ho] at hc
  simp only at hc
  split at hc
  · obtain ⟨_, _, hc⟩ := Option.bind_eq_some_iff.1 hc
    obtain ⟨_, _, rfl⟩ := Option.map_eq_some_iff.1 hc
    exact h _ _ rfl
  · simp at hc
theorem rwp1_ok {lo : Nat} {ro : Option Nat} {Y : YS P} {ops : Array Oper} {i : Nat} {o : Oper} {r : RI} {Q : AX → Fr → St → Prop} {K : Fr → St → Prop} {K' : Act → World → Prop} {φ0 : Phi} {I0 : Nat → Prop} {σ0 : St} {w0 : World}
    (ho : ops[i]? = some o) (hc : cRI P nt ops o = some r) (hs : Sim φ I σ w) (hf : RelF nt lo φ I w f a) (hy : Y.R φ I w) (hb : Evo φ0 I0 σ0 w0 φ I σ w) (h : rwp1 P ro Y Q K r f σ)
    (hK : ∀ f' σ' φ' I' w' a', K f' σ' → Evo φ I σ w φ' I' σ' w' → Sim φ' I' σ' w' → RelF nt lo φ' I' w' f' a' → K' a' w') : wpOpIn (WF ro) 0 P ops (Lift nt lo Q φ0 I0 σ0 w0) i K' a w := by
  simp only [cRI, Option.bind_eq_some_iff, Option.map_eq_some_iff] at hc
  obtain ⟨g, hg, ins, hins, rfl⟩ := hc
  unfold wpOpIn
  simp only [ho]
  have undefR : Rel φ I w (.tup []) undef := .tup rfl (fun i v h => by simp at h)
  have hd0 : (WF ro).depth.isSome = true → 1 ≤ 0 := fun h => by simp [WF, Fence.wide] at h
  have callK : ∀ (k : FuncId) (vs : List V) (cs : Array Value), (∀ g as, ins ≠ .defer g as) → RelA φ I w vs cs → CCalls P k vs σ (fun o' σ' => match o' with
      | .ret v => K (f.put o.dst v) σ'
      | .panic v => Q (.panic v) f σ') → (execOp a.eval o).run P w = .ok (.enter k cs) w → o.wpIn (WF ro) 0 P a w K' (Lift nt lo Q φ0 I0 σ0 w0) := fun k vs cs hnd hr hcall hex => by
    refine ⟨fun _ _ => trivial, ?_⟩
    rw [Oper.semAt_eq _ _ _ (noDefer hins hnd), hex, Oper.uponIn_enter]
    refine ⟨hd0, callsIn_wf ((hcall φ I w cs hs hr).mono ?_)⟩
    rintro e w' ⟨o', σ', φ', I', hR, hO, hE, hS⟩
    cases hO with
    | ret hv => exact hK _ _ _ _ _ _ hR hE hS ((hf.evo hs hE).put hv o.dst)
    | panic hv => exact ⟨_, _, _, _, _, hR, .panic hv, hb.trans hE, hS, hf.evo hs hE⟩
  unfold rwp1 at h
  split at h
  · exact h.elim
  · rename_i hw
    rw [want_ok hg hf hw]
    exact ⟨fun _ _ => trivial, hK _ _ _ _ _ _ h (Evo.refl _ _ _ _) hs (hf.put undefR o.dst)⟩
  · rename_i hw
    rw [want_ok hg hf hw]
    simp only [if_true]
    simp only at h
    split at h
    · rename_i k as
      obtain ⟨c, hop, hcal, has, hbd⟩ := comp_call hins
      have hr := rels_of hf.env has
      refine callK k _ _ (fun _ _ h => by simp at h) hr h ?_
      obtain ⟨dst, op', ty, pos, after, guard⟩ := o
      simp only at hop; subst hop
      obtain ⟨cal, args, ts⟩ := c
      simp only at hcal; subst hcal
      simp only [execOp, resolve, Act.eval, Deferred.ofValue, Sem.run_bind, Sem.run_pure, Result.andThen_ok, invoke, Array.append_empty]
      rw [show (#[] : Array Value) ++ Array.map a.eval args = Array.map a.eval args by simp]
      exact run_hasBody hbd _
    · rename_i g2 as
      obtain ⟨c, x, hop, hcal, hx, has⟩ := comp_callv hins
      have hnd : ∀ g bs, Ins.callv g2 as ≠ .defer g bs := fun _ _ h => by simp at h
      split at h
      · rename_i k first cap hg2
        obtain ⟨hbd, h⟩ := h
        have hr := rels_of hf.env has
        have hgr := cOpd_rel hf.env hx
        rw [hg2] at hgr
        generalize hq : a.eval x = q at hgr
        cases hgr with
        | func _ h1 r1 h2 r2 =>
          rename_i fs cs
          have hr2 := RelA.append (RelA.append ⟨h1, r1⟩ hr) ⟨h2, r2⟩
          refine callK k _ _ hnd hr2 h ?_
          obtain ⟨dst, op', ty, pos, after, guard⟩ := o
          simp only at hop; subst hop
          obtain ⟨cal, args, ts⟩ := c
          simp only at hcal; subst hcal
          simp only [execOp, resolve, hq, Deferred.ofValue, Sem.run_bind, Sem.run_pure, Result.andThen_ok, invoke]
          exact run_hasBody hbd _
      · rename_i l hg2
        have hr := rels_of hf.env has
        have hgr := cOpd_rel hf.env hx
        rw [hg2] at hgr
        generalize hq : a.eval x = q at hgr
        cases hgr with
        | func _ h1 r1 h2 r2 =>
          rename_i fs cs
          obtain rfl : fs = #[] := Array.eq_empty_of_size_eq_zero h1
          obtain rfl : cs = #[] := Array.eq_empty_of_size_eq_zero h2
          obtain ⟨fn, tmps, asg, body, hyr, hrd⟩ := Y.ok l _ σ _ h φ I w _ hs hy hr
          refine ⟨fun _ _ => trivial, ?_⟩
          have hex : (execOp a.eval o).run P w = .ok (.round l fn tmps asg body) w := by
            obtain ⟨dst, op', ty, pos, after, guard⟩ := o
            simp only at hop; subst hop
            obtain ⟨cal, args, ts⟩ := c
            simp only at hcal; subst hcal
            simp only [execOp, resolve, hq, Deferred.ofValue, Sem.run_bind, Sem.run_pure, Result.andThen_ok, invoke]
            rw [show (#[] : Array Value) ++ Array.map a.eval args = Array.map a.eval args by simp]
            simpa using hyr
          rw [Oper.semAt_eq _ _ _ (noDefer hins hnd), hex, Oper.uponIn_round]
          refine ⟨hd0, RoundIn.mono (show RoundIn (WF ro) (0 - 1) P l fn tmps asg body w _ from hrd) ?_⟩
          rintro e w' ⟨o', σ', φ', I', hR, hO, hE, hS⟩
          cases hO with
          | ret hv => exact hK _ _ _ _ _ _ hR hE hS ((hf.evo hs hE).put hv o.dst)
          | panic hv => exact ⟨_, _, _, _, _, hR, .panic hv, hb.trans hE, hS, hf.evo hs hE⟩
      · exact h.elim
    · rename_i g2 as
      obtain ⟨c, x, hop, hcal, hx, has⟩ := comp_defer hins
      obtain ⟨rfl, h⟩ := h
      split at h
      · rename_i fn first cap hg2
        have hr := rels_of hf.env has
        have hgr := cOpd_rel hf.env hx
        rw [hg2] at hgr
        generalize hq : a.eval x = q at hgr
        cases hgr with
        | func _ h1 r1 h2 r2 =>
          rename_i fs cs
          refine ⟨fun _ _ => trivial, ?_⟩
          have hex : (execOp a.eval o).run P w = .ok (.defer { target := .fn fn cs, args := fs ++ Array.map a.eval c.args }) w := by
            obtain ⟨dst, op', ty, pos, after, guard⟩ := o
            simp only at hop; subst hop
            obtain ⟨cal, args, ts⟩ := c
            simp only at hcal; subst hcal
            simp only [execOp, resolve, hq, Deferred.ofValue, Sem.run_bind, Sem.run_pure, Result.andThen_ok]
          rw [show (WF none).round = none from rfl, Oper.semAt_none, hex, Oper.uponIn_defer]
          refine hK _ _ _ _ _ _ h (Evo.refl _ _ _ _) hs (RelF.put ?_ undefR o.dst)
          exact ⟨hf.size, hf.env, ⟨⟨⟨_, rfl, h2, r2⟩, RelA.append ⟨h1, r1⟩ hr⟩, hf.ds⟩, hf.lo⟩
      · exact h.elim
    · rename_i x
      obtain ⟨x', hop, hx⟩ := comp_panic hins
      split at h
      · rename_i t v hg2
        have hgr := cOpd_rel hf.env hx
        rw [hg2] at hgr
        generalize hq : a.eval x' = q at hgr
        have hgr' := hgr
        cases hgr with
        | iface _ hv =>
          rename_i c
          refine ⟨fun _ _ => trivial, ?_⟩
          have hex : (execOp a.eval o).run P w = .halt (.panic (.iface t c)) w := by
            obtain ⟨dst, op', ty, pos, after, guard⟩ := o
            simp only at hop; subst hop
            simp only [execOp, hq, Instr.panic, Sem.run_bind, run_goPanic, Result.andThen_halt]
          rw [Oper.semAt_eq _ _ _ (noDefer hins (fun _ _ h => by simp at h)), hex, Oper.uponIn_panic]
          exact ⟨_, _, _, _, _, h, .panic hgr', hb, hs, hf⟩
      · exact h.elim
    · exact h.elim
    · rename_i hn1 hn2 hn3 hn4 hn5
      split at h
      · rename_i v σ' he
        obtain ⟨⟨c, w', φ', I', hex, hv, hE, hS⟩, _⟩ := op_ok hins hs hf.env he
        refine ⟨fun _ _ => trivial, ?_⟩
        rw [Oper.semAt_eq _ _ _ (noDefer hins hn3)]
        rcases hex with hex | ⟨hex, rfl⟩
        · rw [hex, Oper.uponIn_value]
          exact hK _ _ _ _ _ _ h hE hS ((hf.evo hs hE).put hv o.dst)
        · rw [hex, Oper.uponIn_skip]
          exact hK _ _ _ _ _ _ h hE hS ((hf.evo hs hE).put hv o.dst)
      · exact h.elim
end
end Go.Proofs.YtmkgmjdbgjiehaaDoor.Ab
namespace Go.Proofs.YtmkgmjdbgjiehaaDoor.Ab
open Go.RowKit
set_option linter.unusedVariables false
set_option linter.unusedSimpArgs false
inductive Plan where
  | done
  | q (r : RI) (p : Plan)
  | alt (r : RI) (again : List RI) (p more : Plan)
  | stop
inductive C where
  | skip
  | reg (rs : List RI)
  | drw (p : Plan)
  | seq (a b : C)
  | cond (c : Opd) (a b : C)
  | block (id : Nat) (b : C)
  | loop (b : C)
  | rng (g : Opd) (ps : List Nat) (asg body : C)
  | exit (id : Nat)
  | ret
section
variable {P : Program} {φ φ' : Phi} {I I' : Nat → Prop} {σ σ' : St} {w w' : World} {nt : Nat} {f : Fr} {a : Act}
theorem cRI_some {ops : Array Oper} {rs : List RI} (h : ops.toList.mapM (cRI P nt ops) = some rs) : rs.length = ops.size ∧ ∀ (i : Nat) (r : RI), rs[i]? = some r → ∃ o, ops[i]? = some o ∧ cRI P nt ops o = some r := by
  obtain ⟨h1, h2⟩ := mapM_some h
  exact ⟨by simpa using h1, fun i r hr => by obtain ⟨o, ho, hc⟩ := h2 i r hr; exact ⟨o, by simpa using ho, hc⟩⟩
theorem rwp_ok {lo : Nat} {ro : Option Nat} {Y : YS P} {ops : Array Oper} {rs : List RI} (hc : ops.toList.mapM (cRI P nt ops) = some rs) {Q : AX → Fr → St → Prop} {φ0 : Phi} {I0 : Nat → Prop} {σ0 : St} {w0 : World} :
    ∀ (m i : Nat), i + m = rs.length → ∀ (f : Fr) (σ : St) (φ : Phi) (I : Nat → Prop) (w : World) (a : Act), Sim φ I σ w → RelF nt lo φ I w f a → Y.R φ I w → Evo φ0 I0 σ0 w0 φ I σ w → rwp P ro Y Q (rs.drop i) f σ →
      wpOpsIn (WF ro) 0 P ops (Lift nt lo Q φ0 I0 σ0 w0) (List.range' i m) a w := by
  obtain ⟨h1, h2⟩ := cRI_some hc
  intro m
  induction m with
  | zero =>
    intro i hi f σ φ I w a hs hf hy hb h
    rw [List.drop_eq_nil_of_le (by omega)] at h
    simp only [List.range'_zero, wpOpsIn]
    exact ⟨_, _, _, _, _, h, .normal, hb, hs, hf⟩
  | succ m ih =>
    intro i hi f σ φ I w a hs hf hy hb h
    have hlt : i < rs.length := by omega
    rw [List.drop_eq_getElem_cons hlt] at h
    obtain ⟨o, ho, hco⟩ := h2 i _ (List.getElem?_eq_getElem hlt)
    rw [List.range'_succ, wpOpsIn_cons]
    exact rwp1_ok ho hco hs hf hy hb h fun f' σ' φ' I' w' a' hk he hs' hf' => ih (i + 1) (by omega) f' σ' φ' I' w' a' hs' hf' (Y.st _ _ _ _ _ _ _ _ hs he hy) (hb.trans he) hk
end
def compC (pl : Program → Nat → Array Oper → Option Plan) (P : Program) (nt : Nat) : Code → Option C
  | .skip => some .skip
  | .region _ ops false => (ops.toList.mapM (cRI P nt ops)).map .reg
  | .region _ ops true => (pl P nt ops).map .drw
  | .seq a b => (compC pl P nt a).bind fun a => (compC pl P nt b).map fun b => .seq a b
  | .cond c a b => (cOpd nt c).bind fun c => (compC pl P nt a).bind fun a => (compC pl P nt b).map fun b => .cond c a b
  | .block id b => (compC pl P nt b).map (.block id)
  | .loop b => (compC pl P nt b).map .loop
  | .rangeFunc g ps asg b => (cOpd nt g).bind fun g => (if ps.toList.all (fun t => decide (t < nt)) = true then some () else none).bind fun _ => (compC pl P nt asg).bind fun a => (compC pl P nt b).map fun b => .rng g ps.toList a b
  | .exit id => some (.exit id)
  | .ret => some .ret
  | _ => none
def CWof (pl : Program → Nat → Array Oper → Option Plan) (P : Program) (ro : Option Nat) (Y : YS P) (nt : Nat) (c : C) (f : Fr) (σ : St) (Q : AX → Fr → St → Prop) : Prop :=
  ∀ code, compC pl P nt code = some c → ∀ lo φ I w a, Sim φ I σ w → RelF nt lo φ I w f a → Y.R φ I w → code.wpIn (WF ro) 0 P (Lift nt lo Q φ I σ w) a w
section
variable {pl : Program → Nat → Array Oper → Option Plan} {P : Program} {ro : Option Nat} {Y : YS P} {φ φ' : Phi} {I I' : Nat → Prop} {σ σ' : St} {w w' : World} {nt : Nat} {f : Fr} {a : Act} {Q : AX → Fr → St → Prop}
theorem Lift.mono {lo : Nat} {Q' : AX → Fr → St → Prop} (hq : ∀ x f σ, Q x f σ → Q' x f σ) {e : Exit} {a' : Act} {w' : World} (h : Lift nt lo Q φ I σ w e a' w') : Lift nt lo Q' φ I σ w e a' w' := by
  obtain ⟨x, f', σ', φ', I', h1, h2⟩ := h
  exact ⟨x, f', σ', φ', I', hq _ _ _ h1, h2⟩
theorem Lift.base {lo : Nat} {φ0 : Phi} {I0 : Nat → Prop} {σ0 : St} {w0 : World} (hb : Evo φ0 I0 σ0 w0 φ I σ w) {e : Exit} {a' : Act} {w' : World} (h : Lift nt lo Q φ I σ w e a' w') : Lift nt lo Q φ0 I0 σ0 w0 e a' w' := by
  obtain ⟨x, f', σ', φ', I', h1, h2, h3, h4⟩ := h
  exact ⟨x, f', σ', φ', I', h1, h2, hb.trans h3, h4⟩
theorem CWof.mono {c : C} {Q' : AX → Fr → St → Prop} (h : CWof pl P ro Y nt c f σ Q) (hq : ∀ x f σ, Q x f σ → Q' x f σ) : CWof pl P ro Y nt c f σ Q' :=
  fun code hc lo φ I w a hs hf hy => wpIn_mono (h code hc lo φ I w a hs hf hy) fun _ _ _ => Lift.mono hq
theorem cw_skip (h : Q .normal f σ) : CWof pl P ro Y nt .skip f σ Q := fun code hc lo φ I w a hs hf hy => by
  cases code <;> (try simp only [compC, Option.some.injEq, reduceCtorEq, Option.map_eq_some_iff, Option.bind_eq_some_iff, and_false, exists_false] at hc)
  case skip => exact wpIn_skip ⟨_, _, _, _, _, h, .normal, Evo.refl _ _ _ _, hs, hf⟩
  case region id ops d => cases d <;> simp [compC] at hc
theorem cw_ret (h : Q .ret f σ) : CWof pl P ro Y nt .ret f σ Q := fun code hc lo φ I w a hs hf hy => by
  cases code <;> (try simp only [compC, Option.some.injEq, reduceCtorEq, Option.map_eq_some_iff, Option.bind_eq_some_iff, and_false, exists_false] at hc)
  case ret => exact wpIn_ret ⟨_, _, _, _, _, h, .ret, Evo.refl _ _ _ _, hs, hf⟩
  case region id ops d => cases d <;> simp [compC] at hc
theorem cw_exit {id : Nat} (h : Q (.exit id) f σ) : CWof pl P ro Y nt (.exit id) f σ Q := fun code hc lo φ I w a hs hf hy => by
  cases code <;> (try simp only [compC, Option.some.injEq, reduceCtorEq, Option.map_eq_some_iff, Option.bind_eq_some_iff, and_false, exists_false, C.exit.injEq] at hc)
  case exit => subst hc; exact wpIn_exit ⟨_, _, _, _, _, h, .exit _, Evo.refl _ _ _ _, hs, hf⟩
  case region id ops d => cases d <;> simp [compC] at hc
theorem cw_reg {rs : List RI} (h : rwp P ro Y Q rs f σ) : CWof pl P ro Y nt (.reg rs) f σ Q := fun code hc lo φ I w a hs hf hy => by
  cases code <;> (try simp only [compC, Option.some.injEq, reduceCtorEq, Option.map_eq_some_iff, Option.bind_eq_some_iff, and_false, exists_false] at hc)
  case region id ops d =>
    cases d
    · simp only [compC, Option.map_eq_some_iff, C.reg.injEq] at hc
      obtain ⟨rs', hrs, rfl⟩ := hc
      refine wpIn_region ?_
      rw [List.range_eq_range', ← (cRI_some hrs).1]
      exact rwp_ok hrs _ 0 (by omega) f σ φ I w a hs hf hy (Evo.refl _ _ _ _) (by simpa using h)
    · simp [compC] at hc
theorem cw_seq {x y : C} (h : CWof pl P ro Y nt x f σ (fun e f' σ' => match e with | .normal => CWof pl P ro Y nt y f' σ' Q | e => Q e f' σ')) : CWof pl P ro Y nt (.seq x y) f σ Q := fun code hc lo φ I w a hs hf hy => by
  cases code <;> (try simp only [compC, Option.some.injEq, reduceCtorEq, Option.map_eq_some_iff, Option.bind_eq_some_iff, and_false, exists_false, C.seq.injEq] at hc)
  case seq cx cy =>
    obtain ⟨x', hx, y', hcy, rfl, rfl⟩ := hc
    refine wpIn_seq (wpIn_mono (h cx hx lo φ I w a hs hf hy) fun e a' w' hl => ?_)
    obtain ⟨xe, f', σ', φ', I', h1, h2, h3, h4, h5⟩ := hl
    cases h2 with
    | normal => exact wpIn_mono (h1 cy hcy lo φ' I' w' a' h4 h5 (Y.st _ _ _ _ _ _ _ _ hs h3 hy)) fun _ _ _ => Lift.base h3
    | exit id => exact ⟨_, _, _, _, _, h1, .exit id, h3, h4, h5⟩
    | ret => exact ⟨_, _, _, _, _, h1, .ret, h3, h4, h5⟩
    | panic hv => exact ⟨_, _, _, _, _, h1, .panic hv, h3, h4, h5⟩
  case region id ops d => cases d <;> simp [compC] at hc
theorem cw_cond {c : Opd} {x y : C} {t : Bool} (hc : c.ev f.env = .bool t) (h : CWof pl P ro Y nt (if t then x else y) f σ Q) : CWof pl P ro Y nt (.cond c x y) f σ Q := fun code hcc lo φ I w a hs hf hy => by
  cases code <;> (try simp only [compC, Option.some.injEq, reduceCtorEq, Option.map_eq_some_iff, Option.bind_eq_some_iff, and_false, exists_false, C.cond.injEq] at hcc)
  case cond co cx cy =>
    obtain ⟨c', hc', x', hx, y', hcy, rfl, rfl, rfl⟩ := hcc
    have hr := cOpd_rel hf.env hc'
    rw [hc] at hr
    refine wpIn_cond hr.bool_inv ?_
    cases t
    · exact h cy (by simpa using hcy) lo φ I w a hs hf hy
    · exact h cx (by simpa using hx) lo φ I w a hs hf hy
  case region id ops d => cases d <;> simp [compC] at hcc
theorem cw_block {id : Nat} {x : C} (h : CWof pl P ro Y nt x f σ (fun e f' σ' => match e with | .exit id' => if id' = id then Q .normal f' σ' else Q (.exit id') f' σ' | e => Q e f' σ')) : CWof pl P ro Y nt (.block id x) f σ Q := fun code hc lo φ I w a hs hf hy => by
  cases code <;> (try simp only [compC, Option.some.injEq, reduceCtorEq, Option.map_eq_some_iff, Option.bind_eq_some_iff, and_false, exists_false, C.block.injEq] at hc)
  case block id' cx =>
    obtain ⟨x', hx, rfl, rfl⟩ := hc
    refine wpIn_block (wpIn_mono (h cx hx lo φ I w a hs hf hy) fun e a' w' hl => ?_)
    obtain ⟨xe, f', σ', φ', I', h1, h2, h3, h4, h5⟩ := hl
    cases h2 with
    | normal => exact ⟨_, _, _, _, _, h1, .normal, h3, h4, h5⟩
    | exit id2 =>
      simp only [Exit.inBlock]
      simp only at h1
      split
      · rename_i e; rw [if_pos e] at h1; exact ⟨_, _, _, _, _, h1, .normal, h3, h4, h5⟩
      · rename_i e; rw [if_neg e] at h1; exact ⟨_, _, _, _, _, h1, .exit _, h3, h4, h5⟩
    | ret => exact ⟨_, _, _, _, _, h1, .ret, h3, h4, h5⟩
    | panic hv => exact ⟨_, _, _, _, _, h1, .panic hv, h3, h4, h5⟩
  case region id ops d => cases d <;> simp [compC] at hc
def LoopN (pl : Program → Nat → Array Oper → Option Plan) (P : Program) (ro : Option Nat) (Y : YS P) (nt : Nat) (b : C) (Q : AX → Fr → St → Prop) : Nat → Fr → St → Prop
  | 0, _, _ => False
  | n + 1, f, σ => CWof pl P ro Y nt b f σ (fun e f' σ' => match e with | .normal => LoopN pl P ro Y nt b Q n f' σ' | e => Q e f' σ')
theorem loop_key {lo : Nat} {c : Code} {b : C} (hc : compC pl P nt c = some b) {φ0 : Phi} {I0 : Nat → Prop} {σ0 : St} {w0 : World} : ∀ (n : Nat) (f : Fr) (σ : St) (φ : Phi) (I : Nat → Prop) (w : World) (a : Act),
    LoopN pl P ro Y nt b Q n f σ → Sim φ I σ w → RelF nt lo φ I w f a → Y.R φ I w → Evo φ0 I0 σ0 w0 φ I σ w → Code.roundsIn (WF ro) 0 P c (Lift nt lo Q φ0 I0 σ0 w0) n a w
  | 0, _, _, _, _, _, _, h, _, _, _, _ => h.elim
  | n + 1, f, σ, φ, I, w, a, h, hs, hf, hy, hb => by
    rw [roundsIn_succ]
    refine wpIn_mono (h c hc lo φ I w a hs hf hy) fun e a₁ w₁ hq => ?_
    obtain ⟨xe, f', σ', φ', I', h1, h2, h3, h4, h5⟩ := hq
    cases h2 with
    | normal => exact loop_key hc n f' σ' φ' I' w₁ a₁ h1 h4 h5 (Y.st _ _ _ _ _ _ _ _ hs h3 hy) (hb.trans h3)
    | exit id => exact ⟨_, _, _, _, _, h1, .exit id, hb.trans h3, h4, h5⟩
    | ret => exact ⟨_, _, _, _, _, h1, .ret, hb.trans h3, h4, h5⟩
    | panic hv => exact ⟨_, _, _, _, _, h1, .panic hv, hb.trans h3, h4, h5⟩
theorem cw_loopN {b : C} (n : Nat) (h : LoopN pl P ro Y nt b Q n f σ) : CWof pl P ro Y nt (.loop b) f σ Q := fun code hc lo φ I w a hs hf hy => by
  cases code <;> (try simp only [compC, Option.some.injEq, reduceCtorEq, Option.map_eq_some_iff, Option.bind_eq_some_iff, and_false, exists_false, C.loop.injEq] at hc)
  case loop cb =>
    obtain ⟨b', hb, rfl⟩ := hc
    exact wpIn_loop_rounds n (loop_key hb n f σ φ I w a h hs hf hy (Evo.refl _ _ _ _))
  case region id ops d => cases d <;> simp [compC] at hc
theorem loopN_of {b : C} (J : Nat → Fr → St → Prop) (step : ∀ n f σ, J n f σ → CWof pl P ro Y nt b f σ (fun e f' σ' => match e with | .normal => ∃ m, m < n ∧ J m f' σ' | e => Q e f' σ')) :
    ∀ N n f σ, n < N → J n f σ → LoopN pl P ro Y nt b Q N f σ
  | 0, _, _, _, h, _ => by omega
  | N + 1, n, f, σ, h, hj => (step n f σ hj).mono fun x f' σ' hq => by
    cases x with
    | normal => obtain ⟨m, hm, hj'⟩ := hq; exact loopN_of J step N m f' σ' (by omega) hj'
    | exit id => exact hq
    | ret => exact hq
    | panic v => exact hq
theorem cw_loop {b : C} (J : Nat → Fr → St → Prop) (n : Nat) (h0 : J n f σ) (step : ∀ n f σ, J n f σ → CWof pl P ro Y nt b f σ (fun e f' σ' => match e with | .normal => ∃ m, m < n ∧ J m f' σ' | e => Q e f' σ')) : CWof pl P ro Y nt (.loop b) f σ Q :=
  cw_loopN (n + 1) (loopN_of J step (n + 1) n f σ (by omega) h0)
end
end Go.Proofs.YtmkgmjdbgjiehaaDoor.Ab
