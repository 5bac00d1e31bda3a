/-
The walk over the program's texts, told with what its values say: a part of it. No further condition.
-/
import Derived.Test.YtmjbnfldehbmcaaDoorAbD
namespace Go.Proofs.YtmjbnfldehbmcaaDoor.Ab
open Go.RowKit
set_option linter.unusedVariables false
set_option linter.unusedSimpArgs false
section
variable {P : Program} {φ : Phi} {I : Nat → Prop} {σ : St} {w w' : World} {nt : Nat} {env : Env} {a : Act}
/-- An array's cells are those of a row. -/
structure Flat (φ : Phi) (I : Nat → Prop) (w : World) (z : Nat) (ys : List (List V)) (arr : Array Value) : Prop where
  size : arr.size = ys.length * z
  len : ∀ e ∈ ys, e.length = z
  one : ∀ i j, i < ys.length → j < z → (arr.getD (i * z + j) undef).oneCell' = true
  rel : ∀ i j e v, ys[i]? = some e → e[j]? = some v → Rel φ I w v (arr.getD (i * z + j) undef)
theorem divmod_lt {k n z : Nat} (h : k < n * z) : k / z < n ∧ (0 < z → k % z < z) ∧ k / z * z + k % z = k := by
  refine ⟨Nat.div_lt_of_lt_mul (by rw [Nat.mul_comm]; exact h), fun hz => Nat.mod_lt _ hz, ?_⟩
  rw [Nat.mul_comm]; exact Nat.div_add_mod k z
/-- A slice's cells are loaded. -/
theorem load_flat {z : Nat} {ad : Addr} {ys : List (List V)} (hz : ∀ e ∈ ys, e.length = z) (hc : ∀ i j e u, ys[i]? = some e → e[j]? = some u → ∃ x, w.cell? (ad.add (i * z + j)) = some x ∧ x.oneCell' = true ∧ Rel φ I w u x) :
    ∃ arr, Flat φ I w z ys arr ∧ ∀ wx : World, wx.heap = w.heap → (loadCells ad (ys.length * z)).run P wx = .ok arr wx := by
  have hk : ∀ k, k < ys.length * z → ∃ x, w.cell? (ad.add k) = some x ∧ x.oneCell' = true ∧ ∀ e u, ys[k / z]? = some e → e[k % z]? = some u → Rel φ I w u x := fun k hk => by
    obtain ⟨h1, h2, h3⟩ := divmod_lt hk
    have hzp : 0 < z := by
      rcases Nat.eq_zero_or_pos z with h | h
      · subst h; simp at hk
      · exact h
    have hi : ys[k / z]? = some ys[k / z] := List.getElem?_eq_getElem h1
    have hel := hz _ (List.mem_of_getElem? hi)
    have hj : (ys[k / z])[k % z]? = some ((ys[k / z])[k % z]'(by rw [hel]; exact h2 hzp)) := List.getElem?_eq_getElem _
    obtain ⟨x, hx, ho, hr⟩ := hc _ _ _ _ hi hj
    rw [h3] at hx
    exact ⟨x, hx, ho, fun e u he hu => by rw [hi] at he; cases he; rw [hj] at hu; cases hu; exact hr⟩
  let f : Nat → Value := fun k => if h : k < ys.length * z then (hk k h).choose else undef
  have hf : ∀ k, (h : k < ys.length * z) → f k = (hk k h).choose := fun k h => by simp [f, h]
  have hg : ∀ k, k < ys.length * z → ((List.range (ys.length * z)).map f).toArray.getD k undef = f k := fun k h => by simp [h]
  have hidx : ∀ i j, i < ys.length → j < z → i * z + j < ys.length * z ∧ (i * z + j) / z = i ∧ (i * z + j) % z = j := fun i j hi hj =>
    ⟨mul_lt_of hi hj, by rw [Nat.mul_comm, Nat.mul_add_div (by omega), Nat.div_eq_of_lt hj, Nat.add_zero], by rw [Nat.mul_comm, Nat.mul_add_mod, Nat.mod_eq_of_lt hj]⟩
  refine ⟨((List.range (ys.length * z)).map f).toArray, ⟨by simp, hz, fun i j hi hj => ?_, fun i j e v h1 h2 => ?_⟩, fun wx hw => ?_⟩
  · obtain ⟨g1, _, _⟩ := hidx i j hi hj
    rw [hg _ g1, hf _ g1]
    exact (hk _ g1).choose_spec.2.1
  · have hi := (List.getElem?_eq_some_iff.1 h1).1
    have hj := (List.getElem?_eq_some_iff.1 h2).1
    rw [hz e (List.mem_of_getElem? h1)] at hj
    obtain ⟨g1, g2, g3⟩ := hidx i j hi hj
    rw [hg _ g1, hf _ g1]
    exact (hk _ g1).choose_spec.2.2 e v (by rw [g2]; exact h1) (by rw [g3]; exact h2)
  · refine loadCells_of (f := f) (fun k h => ?_)
    rw [hf k h, ← (hk k h).choose_spec.1]
    exact cell?_of_heap (by rw [hw])
theorem first_run (hs : Sim φ I σ w) {z : Nat} {v : V} {Y : Value} (h : Rel φ I w v Y) {ys : List (List V)} (he : srcOf σ z v = some ys) :
    ∃ new, Flat φ I w z ys new ∧ (∀ wx : World, (Builtin.lenOf Y).run P wx = .ok ys.length wx) ∧ ∀ wx : World, wx.heap = w.heap → (Builtin.firstCells z ys.length Y).run P wx = .ok new wx := by
  unfold srcOf at he
  split at he
  · split at he <;> simp at he
    rename_i s hz
    subst hz; subst he
    obtain ⟨b, rfl, rfl⟩ := h.str_inv
    obtain ⟨c1, c2, c3⟩ := bytes_row (φ := φ) (I := I) (w := w) b #[]
    rw [Array.append_empty] at c1 c2
    refine ⟨b.data.map fun b => Value.int .u8 b.toNat, ⟨by simp, c3, c2, c1⟩, fun wx => by simp [Builtin.lenOf], fun wx _ => ?_⟩
    simp only [Builtin.firstCells, Sem.run_pure]
    have : (b.extract 0 (b.data.toList.map byteE).length).data = b.data := by
      rw [ByteArray.data_extract]
      simp
    rw [this]
  · rcases cont_cells hs h he with ⟨rfl, rfl⟩ | ⟨ad, cap, rfl, hcap, hz, hcell⟩
    · refine ⟨#[], ⟨by simp, fun e h => by simp at h, fun i j h => by simp at h, fun i j e v h => by simp at h⟩, fun wx => by simp [Builtin.lenOf], fun wx _ => by simp [Builtin.firstCells]⟩
    · obtain ⟨arr, hfl, hrun⟩ := load_flat (P := P) hz hcell
      exact ⟨arr, hfl, fun wx => by simp [Builtin.lenOf], fun wx hw => by simp only [Builtin.firstCells]; exact hrun wx hw⟩
theorem growBy_le (need : Nat) : ∀ (r c : Nat), c ≤ need → Builtin.growBy need r c ≤ need + (need + 768) / 4
  | 0, c, h => by simp only [Builtin.growBy]; omega
  | r + 1, c, h => by
    simp only [Builtin.growBy]
    split
    · omega
    · by_cases h2 : c + (c + 768) / 4 ≤ need
      · exact growBy_le need r _ h2
      · have : ∀ r c, need ≤ c → Builtin.growBy need r c = c := fun r c h => by cases r <;> simp [Builtin.growBy]; omega
        rw [this _ _ (by omega)]
        omega
theorem next_le {need cap : Nat} (h : cap < need) : Builtin.nextslicecap need cap ≤ 2 * need + 192 := by
  unfold Builtin.nextslicecap
  split
  · omega
  · split
    · omega
    · have := growBy_le need 4 cap (by omega)
      omega
theorem bytes_le {need cap bytes : Nat} (h : cap < need) (hb : bytes ≤ 65536) (hr : need * bytes ≤ reach) : Builtin.nextslicecap need cap * bytes ≤ 2 ^ 48 := by
  have h1 := Nat.mul_le_mul_right bytes (next_le h)
  rw [Nat.add_mul, Nat.mul_assoc] at h1
  simp only [reach] at hr
  omega
section app
variable {ts : Array TypeId} {ty t u e : TypeId} {ud : TypeDesc} {inf : TypeInfo} {base : Option Addr} {sLen sCap : Nat} {x : Value}
/-- There is room. -/
theorem run_app_room (h0 : ts[0]? = some t) (h1 : ts[1]? = some u) (ht : P.underlying t = some (.slice e)) (hu : P.underlying u = some ud) (hud : isIntD ud = false) (hi : P.info? e = some inf) {n : Nat} {new : Array Value} {ad : Addr}
    (hl : (Builtin.lenOf x).run P w = .ok n w) (hf : (Builtin.firstCells inf.size n x).run P w = .ok new w) (hroom : sLen + n ≤ sCap) (hst : (storeCells (ad.add (sLen * inf.size)) new.toList 0).run P w = .ok () w') :
    (Builtin.append_ ts ty #[.slice (some ad) sLen sCap, x]).run P w = .ok (.slice (some ad) (sLen + n) sCap) w' := by
  unfold Builtin.append_
  simp only [h0, h1, List.getElem?_toArray, List.getElem?_cons_zero, List.getElem?_cons_succ]
  rw [Sem.run_bind, run_underlying ht]
  simp only [Result.andThen_ok]
  rw [Sem.run_bind, run_sizeOf (n := inf.size) (by simp [sizeD, hi])]
  simp only [Result.andThen_ok]
  rw [Sem.run_bind, run_underlying hu]
  cases ud <;> first | (simp [isIntD] at hud; done) | skip
  all_goals
    simp only [Result.andThen_ok, Sem.run_bind, Sem.run_pure, Bool.false_eq_true, if_false, hl, hroom, if_true, Bool.not_false, hf, hst]
theorem run_app_room0 (h0 : ts[0]? = some t) (h1 : ts[1]? = some u) (ht : P.underlying t = some (.slice e)) (hu : P.underlying u = some ud) (hud : isIntD ud = false) (hi : P.info? e = some inf) {new : Array Value}
    (hl : (Builtin.lenOf x).run P w = .ok 0 w) (hf : (Builtin.firstCells inf.size 0 x).run P w = .ok new w) (hroom : sLen ≤ sCap) (hnew : new = #[]) :
    (Builtin.append_ ts ty #[.slice base sLen sCap, x]).run P w = .ok (.slice base sLen sCap) w := by
  unfold Builtin.append_
  simp only [h0, h1, List.getElem?_toArray, List.getElem?_cons_zero, List.getElem?_cons_succ]
  rw [Sem.run_bind, run_underlying ht]
  simp only [Result.andThen_ok]
  rw [Sem.run_bind, run_sizeOf (n := inf.size) (by simp [sizeD, hi])]
  simp only [Result.andThen_ok]
  rw [Sem.run_bind, run_underlying hu]
  subst hnew
  cases ud <;> first | (simp [isIntD] at hud; done) | skip
  all_goals
    cases base <;> simp only [Result.andThen_ok, Sem.run_bind, Sem.run_pure, Bool.false_eq_true, if_false, hl, Nat.add_zero, hroom, if_true, Bool.not_false, hf, storeCells]
/-- There is none. -/
theorem run_app_grow (h0 : ts[0]? = some t) (h1 : ts[1]? = some u) (ht : P.underlying t = some (.slice e)) (hu : P.underlying u = some ud) (hud : isIntD ud = false) (hi : P.info? e = some inf) {n : Nat} {old new : Array Value} {zv : Value}
    (hl : (Builtin.lenOf x).run P w = .ok n w) (hroom : ¬ sLen + n ≤ sCap) (hb : Builtin.nextslicecap (sLen + n) sCap * inf.bytes ≤ 2 ^ 48) (hb0 : 0 < inf.bytes) (hz : inf.zero = some zv)
    (ho : ∀ wx : World, wx.heap = w.heap → (Builtin.firstCells inf.size sLen (.slice base sLen sCap)).run P wx = .ok old wx) (hf : ∀ wx : World, wx.heap = w.heap → (Builtin.firstCells inf.size n x).run P wx = .ok new wx) :
    ∃ cap, sLen + n ≤ cap ∧ (Builtin.append_ ts ty #[.slice base sLen sCap, x]).run P w = .ok (.slice (some ⟨w.heap.size, 0, none⟩) (sLen + n) cap)
      { w with heap := w.heap.push (.cells (old ++ new ++ Builtin.zeroCells zv.cells (cap - (sLen + n))) e (0, 0)), drawn := w.drawn + 1 } := by
  let q : Question := .appendCap (sLen + n) sCap e
  let cap := q.cut (w.tape w.drawn q)
  have hcap : sLen + n ≤ cap := by show sLen + n ≤ sLen + n + _; exact Nat.le_add_right _ _
  refine ⟨cap, hcap, ?_⟩
  have hti : ∀ wx : World, (typeInfo e).run P wx = .ok inf wx := fun wx => by simp [typeInfo, hi]
  have hzv : ∀ wx : World, (zeroValue e).run P wx = .ok zv wx := fun wx => by simp [zeroValue, typeInfo, hi, hz]
  have hch : ∀ wx : World, (choose q).run P wx = .ok (q.cut (wx.tape wx.drawn q)) { wx with drawn := wx.drawn + 1 } := fun wx => by
    rw [run_choose, if_neg (by show ¬ (q.forced = true); rw [show q.forced = false from rfl]; simp)]
  have hb2 : ¬ (Builtin.nextslicecap (sLen + n) sCap * inf.bytes > 2 ^ 48) := by omega
  have hb3 : ¬ (inf.bytes = 0) := by omega
  unfold Builtin.append_
  simp only [h0, h1, List.getElem?_toArray, List.getElem?_cons_zero, List.getElem?_cons_succ]
  rw [Sem.run_bind, run_underlying ht]
  simp only [Result.andThen_ok]
  rw [Sem.run_bind, run_sizeOf (n := inf.size) (by simp [sizeD, hi])]
  simp only [Result.andThen_ok]
  rw [Sem.run_bind, run_underlying hu]
  have hch' := hch w
  simp only [q] at hch'
  have ho' := ho { w with drawn := w.drawn + 1 } rfl
  have hf' := hf { w with drawn := w.drawn + 1 } rfl
  cases ud <;> first | (simp [isIntD] at hud; done) | skip
  all_goals
    simp only [Result.andThen_ok, Sem.run_bind, Sem.run_pure, Bool.false_eq_true, if_false, hl, hroom, if_true, Bool.not_false, hti, hb3, or_self, and_false, hb2, hch', run_askRoom, ho', hf', hzv, newRow, run_newObj]
    rfl
end app
end
end Go.Proofs.YtmjbnfldehbmcaaDoor.Ab
