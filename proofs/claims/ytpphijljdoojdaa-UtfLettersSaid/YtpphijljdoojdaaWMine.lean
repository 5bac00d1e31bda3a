import Derived.Test.YtpphijljdoojdaaWMore
import Derived.Lib.SlBytesConst
/-! '[]byte("..")' and '[]byte(s)': a row that is only read from then on (its block bears the run-time's mark). -/
set_option linter.unusedSimpArgs false
set_option linter.unusedVariables false
namespace Go.Proofs.YtpphijljdoojdaaW.PrintWords
open Go.RowKit
namespace Kd
theorem V_at_ {α : Type} {d : Kd α} {e base m : Nat} {ok : Nat → Prop} {w w' : World} {v : Value} {xs : List α} (hq : w.drewN m = w') (h : V d e w base ok v xs) : V d e w' base ok v xs := by subst hq; exact V_drewN h m
/-- A row that is read, its length told otherwise. -/
theorem reads_len_ {α : Type} {R : α → List Value → Prop} {size n m : Nat} {w : World} {A : Option Addr} {ps : List α} (e : n = m) (h : ReadsRow R size w A n ps) : ReadsRow R size w A m ps := e ▸ h
section
variable {P : Program} {ops : Array Oper} {rest : List Oper} {o o2 : Oper} {a : Act} {Q : Exit → Act → World → Prop} {Kc : Act → World → Prop}
/-- A row whose block is known whole, whatever its marks. -/
theorem F_of_block {xs : List Int} {ok : Nat → Prop} {W : World} {g : Nat} {e : TypeId} {cs : Array Value} {fr : Nat × Nat} (hb : W.heap[g]? = some (.cells cs e fr)) (hok : ok g) (hm : xs.length ≤ 9223372036854775807) (hc : ∀ (j : Nat) (p : Int), xs[j]? = some p → cs[j]? = some (.int .u8 p)) :
    F (Kd.int .u8) W ok (some ⟨g, 0, none⟩) xs.length xs := by
  intro W' hW
  have hlt : g < W.heap.size := (Array.getElem?_eq_some_iff.1 hb).1
  have hb' : W'.heap[g]? = some (.cells cs e fr) := (hW g hok hlt).trans hb
  refine ⟨rfl, hm, fun _ => ⟨_, rfl, fun j p hj => ⟨[.int .u8 p], rfl, rfl, fun i u hu => ?_⟩⟩⟩
  obtain rfl : i = 0 := by
    rcases i with _ | i
    · rfl
    · simp at hu
  obtain rfl : Value.int .u8 p = u := by simpa using hu
  have e1 : j * (Kd.int .u8).sz + 0 = j := Nat.mul_one j
  rw [e1, add_plain]
  simp [World.cell?, hb', hc j p hj]
/-- '[]byte("..")': a literal's row and, behind it, a conversion of the slice to its own type. -/
theorem V_litc {w0 W : World} (base e t : TypeId) (hgd : o.guard = none) (hgd2 : o2.guard = none) {N : Tmp} (_hd : o.dst = some N) (h2 : o2.op = .convert t t (.tmp N)) (hev : ∀ v : Value, (a.put o.dst v).eval (.tmp N) = v)
    (ht : P.underlying t = some (.slice e)) (he : P.underlying e = some (.int .u8)) {xs : List Int} {ok : Nat → Prop}
    (hrun : (execOp a.eval o).run P W = .ok (.value (.slice (some ⟨W.heap.size, 0, none⟩) xs.length xs.length)) (W.alloc (.cells (nums .u8 xs).toArray e))) (hfresh : ok W.heap.size) (HB : Below base w0 W) (hbase : base ≤ W.heap.size) (hm : xs.length ≤ 9223372036854775807)
    (h : ∀ v1 w1, V (Kd.int .u8) e w1 base ok v1 xs → Below base w0 w1 → W.grownBy w1 none → (∃ b, v1.ownBlock = some b ∧ W.heap.size ≤ b) → wpList P ops Q rest ((a.put o.dst v1).put o2.dst v1) w1) : wpList P ops Q (o :: o2 :: rest) a W := by
  refine event_run hgd hrun ?_
  have hrun2 : (execOp (a.put o.dst (.slice (some ⟨W.heap.size, 0, none⟩) xs.length xs.length)).eval o2).run P (W.alloc (.cells (nums .u8 xs).toArray e)) = .ok (.value (.slice (some ⟨W.heap.size, 0, none⟩) xs.length xs.length)) (W.alloc (.cells (nums .u8 xs).toArray e ((nums .u8 xs).toArray.size, (nums .u8 xs).toArray.size + 1))) := by
    have hk := Lib.run_convert_bytes_const (P := P) W t e (nums .u8 xs).toArray xs.length xs.length ht he
    simp only [execOp, h2, hev]
    simp [go_sem, hk]
  refine event_run hgd2 hrun2 (h _ _ ⟨_, _, rfl, Nat.le_refl _, F_of_block (e := e) (Array.getElem?_push_size (xs := W.heap)) hfresh hm ?_⟩ (HB.alloc hbase _) (World.grownBy_alloc W _ none) ⟨W.heap.size, by simp [Value.ownBlock], Nat.le_refl _⟩)
  intro j p hj
  simp [nums, List.getElem?_map, hj]
/-- '[]byte(s)'. -/
theorem V_bytes {w0 W : World} (base e src dst : TypeId) (hgd : o.guard = none) {N : Tmp} (_hd : o.dst = some N) (x : Operand) (h2 : o.op = .convert src dst x) {u : TypeDesc} (hs : P.underlying src = some u)
    (hd : P.underlying dst = some (.slice e)) (he : P.underlying e = some (.int .u8)) {s : ByteArray} {ok : Nat → Prop} (hx : a.eval x = .string s) (hfresh : ok W.heap.size) (HB : Below base w0 W) (hbase : base ≤ W.heap.size) (hm : s.size ≤ 9223372036854775807)
    (h : ∀ v1 w1, V (Kd.int .u8) e w1 base ok v1 (bytesOf s) → Below base w0 w1 → W.grownBy w1 none → (∃ b, v1.ownBlock = some b ∧ W.heap.size ≤ b) → wpList P ops Q rest (a.put o.dst v1) w1) : wpList P ops Q (o :: rest) a W := by
  have hk := print_bytes (P := P) src dst e hs hd he s W
  have hrun : (execOp a.eval o).run P W = .ok (.value (.slice (some ⟨W.heap.size, 0, none⟩) (bytesOf s).length (grownCap W s.size 0 e))) (Lib.bytesWorld W e s) := by
    simp only [execOp, h2, hx]
    simp [go_sem, hk, bytesOf_length]
  have hb := bytes_below (w := W) (Below.refl _ _) (Nat.le_refl _) e s
  refine event_run hgd hrun (h _ _ ⟨_, _, rfl, by rw [bytesOf_length]; exact grownCap_ge W s.size 0 e, F_of_block (e := e) (Lib.bytesWorld_at_new W e s) hfresh (by rw [bytesOf_length]; exact hm) ?_⟩ (bytes_below HB hbase e s) (grown_of_below hb none) ⟨W.heap.size, by simp [Value.ownBlock], Nat.le_refl _⟩)
  intro j p hj
  have hjs : j < s.size := by
    have := (List.getElem?_eq_some_iff.1 hj).1
    rwa [bytesOf_length] at this
  have h1 : j < s.data.toList.length := by rw [data_length]; exact hjs
  have h2' : (bytesOf s)[j]? = some ((s.data.toList[j]'h1).toNat : Int) := by
    simp [bytesOf, List.getElem?_map, List.getElem?_eq_getElem h1]
  rw [h2'] at hj
  injection hj with hj
  subst hj
  have h3 : s.data[j]? = some (s.data[j]'hjs) := Array.getElem?_eq_getElem hjs
  simp [Lib.bytesCells, Array.getElem?_append, hjs, h3]
end
end Kd
end Go.Proofs.YtpphijljdoojdaaW.PrintWords
