/-
The walk over the program's texts, told with what its values say: a part of it. No further condition.
-/
import Derived.Test.YtmjbnfldehbmcaaDoorAbS
import Derived.IntWalk
namespace Go.Proofs.YtmjbnfldehbmcaaDoor.Ab
open Go.RowKit
set_option linter.unusedVariables false
set_option linter.unusedSimpArgs false
/-! Slices: what they read as. -/
/-- An element's address. -/
def elA : V → Nat → V
  | .islc _ es, i => match es[i]? with | some e => .iptr e 0 | none => .any
  | .slc l off _, i => .ptr l (off + i) 0
  | _, _ => .any
def cutV : V → Nat → Nat → V
  | .islc z es, a, b => .islc z ((es.take b).drop a)
  | .slc p off _, a, b => .slc p (off + a) (b - a)
  | v, _, _ => v
/-- It reads as these elements. -/
def Rd (σ : St) (z : Nat) (v : V) (es : List (List V)) : Prop := cont σ z v = some es
section
variable {σ σ' : St} {z : Nat} {v : V} {es : List (List V)}
theorem Rd.inv (h : Rd σ z v es) : (v = .nils ∧ es = []) ∨ (v = .islc z es) ∨ (∃ l off rows, v = .slc l off es.length ∧ σ.H l = some (.row z rows) ∧ off + es.length ≤ rows.length ∧ es = (rows.drop off).take es.length) := by
  unfold Rd cont at h
  split at h
  · exact .inl ⟨rfl, by simpa using h.symm⟩
  · split at h
    · rename_i hz; simp at h; exact .inr (.inl (by rw [hz, h]))
    · simp at h
  · split at h
    · split at h
      · rename_i l off len _ z' rows hl hc
        simp at h
        have hlen : es.length = len := by rw [← h]; simp; omega
        refine .inr (.inr ⟨l, off, rows, by rw [hlen], by rw [hl, hc.1], by omega, by rw [hlen]; exact h.symm⟩)
      · simp at h
    · simp at h
  · simp at h
theorem Rd.len (h : Rd σ z v es) : lenV v = some (.int .i64 es.length) := by
  rcases h.inv with ⟨rfl, rfl⟩ | rfl | ⟨l, off, rows, rfl, _⟩ <;> rfl
theorem Rd.at (h : Rd σ z v es) {k : IntKind} {i : Nat} (hi : i < es.length) : iaV σ z v (.int k i) = some (elA v i) := by
  rcases h.inv with ⟨rfl, rfl⟩ | rfl | ⟨l, off, rows, rfl, h1, h2, h3⟩
  · simp at hi
  · simp [iaV, elA, hi]
  · simp [iaV, elA, h1, hi]
theorem Rd.ld (h : Rd σ z v es) {i j : Nat} {e : List V} (he : es[i]? = some e) : (faV j (elA v i)).bind (ldV σ) = e[j]? := by
  have hi : i < es.length := (List.getElem?_eq_some_iff.1 he).1
  rcases h.inv with ⟨rfl, rfl⟩ | rfl | ⟨l, off, rows, rfl, h1, h2, h3⟩
  · simp at he
  · simp [elA, he]
  · have : rows[off + i]? = some e := by
      rw [h3, List.getElem?_take, List.getElem?_drop] at he
      simpa [hi] using he
    simp [elA, h1, this]
/-- An element's cells: their addresses. -/
def celA (v : V) (i j : Nat) : V := (faV j (elA v i)).getD .any
theorem Rd.fa (h : Rd σ z v es) {i j : Nat} (hi : i < es.length) : faV j (elA v i) = some (celA v i j) := by
  rcases h.inv with ⟨rfl, rfl⟩ | rfl | ⟨l, off, rows, rfl, h1, h2, h3⟩
  · simp at hi
  · simp [elA, celA, hi]
  · simp [elA, celA]
theorem Rd.cel (h : Rd σ z v es) {i j : Nat} {e : List V} (he : es[i]? = some e) : ldV σ (celA v i j) = e[j]? := by
  have := h.ld (j := j) he
  rw [h.fa (List.getElem?_eq_some_iff.1 he).1] at this
  exact this
theorem Rd.el (h : Rd σ z v es) {i : Nat} {e : List V} (he : es[i]? = some e) : ldV σ (elA v i) = e[0]? := by
  have := h.cel (j := 0) he
  have h0 : celA v i 0 = elA v i := by
    have hi := (List.getElem?_eq_some_iff.1 he).1
    rcases h.inv with ⟨rfl, rfl⟩ | rfl | ⟨l, off, rows, rfl, h1, h2, h3⟩
    · simp at hi
    · simp [celA, elA, hi]
    · simp [celA, elA]
  rw [h0] at this; exact this
theorem Rd.cut (h : Rd σ z v es) {a b : Nat} (hab : a ≤ b) (hb : b ≤ es.length) : Rd σ z (cutV v a b) ((es.take b).drop a) := by
  rcases h.inv with ⟨rfl, rfl⟩ | rfl | ⟨l, off, rows, rfl, h1, h2, h3⟩
  · simp at hb; subst hb; simp [Rd, cutV, cont]
  · simp [Rd, cutV, cont]
  · unfold Rd cutV cont
    simp only [h1]
    rw [if_pos (⟨trivial, by omega⟩ : True ∧ _)]
    rw [h3, List.take_take, Nat.min_eq_left hb, List.drop_take, List.drop_drop]
theorem Rd.lsl (h : Rd σ z v es) {env : Env} {lo hi : Option Opd} {a b : Nat} (hl : bound env 0 lo = some a) (hh : bound env es.length hi = some b) (hab : a ≤ b) (hb : b ≤ es.length) : lslV env σ z v lo hi = some (cutV v a b) := by
  rcases h.inv with ⟨rfl, rfl⟩ | rfl | ⟨l, off, rows, rfl, h1, h2, h3⟩
  · simp at hb; subst hb
    simp at hab; subst hab
    simp only [List.length_nil] at hh
    simp [lslV, hl, hh, cutV]
  · simp [lslV, hl, hh, cutV, hab, hb]
  · simp only [lslV, hl, hh, cutV, h1, Option.bind_some]
    rw [if_pos ⟨trivial, hab, by omega⟩]
theorem Rd.mono (h : Rd σ z v es) (hH : ∀ l off len, v = .slc l off len → σ'.H l = σ.H l) : Rd σ' z v es := by
  rcases h.inv with ⟨rfl, rfl⟩ | rfl | ⟨l, off, rows, rfl, h1, h2, h3⟩
  · rfl
  · simp [Rd, cont]
  · unfold Rd cont at *
    simp only [hH l off _ rfl]
    exact h
/-! Slices that are one's own, up to their rows' ends. -/
/-- The row of a slice. -/
def V.row : V → Option Nat
  | .slc l _ _ => some l
  | _ => none
def Sl (σ : St) (z : Nat) (v : V) (es : List (List V)) : Prop :=
  (v = .nils ∧ es = []) ∨ ∃ l, v = .slc l 0 es.length ∧ σ.H l = some (.row z es)
theorem Sl.rd (h : Sl σ z v es) : Rd σ z v es := by
  rcases h with ⟨rfl, rfl⟩ | ⟨l, rfl, h⟩
  · rfl
  · simp [Rd, cont, h]
theorem Sl.mono (h : Sl σ z v es) (hH : ∀ l, v.row = some l → σ'.H l = σ.H l) : Sl σ' z v es := by
  rcases h with ⟨rfl, rfl⟩ | ⟨l, rfl, h⟩
  · exact .inl ⟨rfl, rfl⟩
  · exact .inr ⟨l, rfl, by rw [hH l rfl]; exact h⟩
theorem srcOf_rd {v : V} {es : List (List V)} (h : Rd σ z v es) : srcOf σ z v = some es := by
  rcases h.inv with ⟨rfl, rfl⟩ | rfl | ⟨l, off, rows, rfl, h1, h2, h3⟩ <;> exact h
/-- What the store is when a slice has grown. -/
def grown (σ : St) (v : V) : St :=
  match v with
  | .slc l _ _ => σ.kill l
  | _ => σ
@[simp] theorem grown_n (σ : St) (v : V) : (grown σ v).n = σ.n := by cases v <;> rfl
@[simp] theorem grown_W (σ : St) (v : V) : (grown σ v).W = σ.W := by cases v <;> rfl
theorem grown_H (σ : St) (v : V) (l : Nat) : (grown σ v).H l = if v.row = some l then none else σ.H l := by
  cases v <;> simp [grown, V.row, eq_comm]
theorem Sl.app (h : Sl σ z v es) {y : V} {ys : List (List V)} (hy : srcOf σ z y = some ys) (hne : ys ≠ []) {bytes : Nat} (hb : (es.length + ys.length) * bytes ≤ reach) (hr : es.length + ys.length ≤ reach) :
    appV σ bytes z v y = some (.slc σ.n 0 (es.length + ys.length), (grown σ v).new (.row z (es ++ ys))) := by
  have hl : 0 < ys.length := List.length_pos_iff.2 hne
  rcases h with ⟨rfl, rfl⟩ | ⟨l, rfl, h⟩
  · simp at hb hr
    simp [appV, hy, hne, hb, hr, grown]
  · simp [appV, hy, hne, hb, hr, h, grown]
    omega
theorem Sl.app0 (h : Sl σ z v es) {y : V} (hy : srcOf σ z y = some []) {bytes : Nat} : appV σ bytes z v y = some (v, σ) := by
  rcases h with ⟨rfl, rfl⟩ | ⟨l, rfl, h⟩ <;> simp [appV, hy]
theorem vT {p : Prop} [Decidable p] (h : p) : V.bool (decide p) = .bool true := by rw [decide_eq_true h]
theorem vF {p : Prop} [Decidable p] (h : ¬ p) : V.bool (decide p) = .bool false := by rw [decide_eq_false h]
/-! Slices of bytes. -/
theorem u8n {c : UInt8} {n : Nat} (h : n < 256) : ((c.toNat : Int) = n) ↔ c = UInt8.ofNat n := by
  constructor
  · intro e
    apply UInt8.toNat_inj.1
    simp
    omega
  · rintro rfl
    simp
    omega
def Bs (σ : St) (v : V) (s : List UInt8) : Prop := Rd σ 1 v (s.map byteE)
variable {s : List UInt8}
theorem Bs.len (h : Bs σ v s) : lenV v = some (.int .i64 s.length) := by simpa using Rd.len h
theorem Bs.at (h : Bs σ v s) {k : IntKind} {i : Nat} (hi : i < s.length) : iaV σ 1 v (.int k i) = some (elA v i) := Rd.at h (by simpa using hi)
theorem Bs.at0 (h : Bs σ v s) {k : IntKind} (hi : 0 < s.length) : iaV σ 1 v (.int k 0) = some (elA v 0) := h.at (i := 0) hi
theorem Bs.ld (h : Bs σ v s) {i : Nat} {c : UInt8} (hi : s[i]? = some c) : ldV σ (elA v i) = some (.int .u8 c.toNat) := by
  have := Rd.el h (i := i) (e := byteE c) (by simp [hi])
  simpa [byteE] using this
theorem Bs.cut (h : Bs σ v s) {a b : Nat} (hab : a ≤ b) (hb : b ≤ s.length) : Bs σ (cutV v a b) ((s.take b).drop a) := by
  have := Rd.cut h hab (by simpa using hb)
  simpa [Bs] using this
theorem Bs.lsl (h : Bs σ v s) {env : Env} {lo hi : Option Opd} {a b : Nat} (hl : bound env 0 lo = some a) (hh : bound env s.length hi = some b) (hab : a ≤ b) (hb : b ≤ s.length) : lslV env σ 1 v lo hi = some (cutV v a b) :=
  Rd.lsl h hl (by simpa using hh) hab (by simpa using hb)
theorem Bs.lslTo (h : Bs σ v s) {env : Env} {hi : Opd} {b : Nat} {k : IntKind} (hh : hi.ev env = .int k b) (hb : b ≤ s.length) : lslV env σ 1 v none (some hi) = some (cutV v 0 b) :=
  h.lsl (by simp) (by simp [hh]) (by omega) hb
theorem Bs.lslFrom (h : Bs σ v s) {env : Env} {lo : Opd} {a : Nat} {k : IntKind} (hh : lo.ev env = .int k a) (ha : a ≤ s.length) : lslV env σ 1 v (some lo) none = some (cutV v a s.length) :=
  h.lsl (by simp [hh]) (by simp) ha (by omega)
theorem Bs.lslBoth (h : Bs σ v s) {env : Env} {lo hi : Opd} {a b : Nat} {k k' : IntKind} (hl : lo.ev env = .int k a) (hh : hi.ev env = .int k' b) (hab : a ≤ b) (hb : b ≤ s.length) : lslV env σ 1 v (some lo) (some hi) = some (cutV v a b) :=
  h.lsl (by simp [hl]) (by simp [hh]) hab hb
theorem Bs.b2s (h : Bs σ v s) : ((cont σ 1 v).bind fun es => (es.mapM byteOf).map V.str) = some (.str s) := by
  have h' : cont σ 1 v = some (s.map byteE) := h
  rw [h']
  simp only [Option.bind_some]
  have : (s.map byteE).mapM byteOf = some s := by
    clear h h'
    induction s with
    | nil => rfl
    | cons c s ih =>
      have hc : byteOf (byteE c) = some c := by
        simp only [byteE, byteOf]
        rw [if_pos ⟨by omega, by have := c.toNat_lt; omega⟩]
        simp
      simp [List.mapM_cons, hc, ih]
  rw [this]; rfl
theorem Bs.mono (h : Bs σ v s) (hH : ∀ l off len, v = .slc l off len → σ'.H l = σ.H l) : Bs σ' v s := Rd.mono h hH
theorem Rd.scal (h : Rd σ z v es) : v.scal = true := by
  rcases h.inv with ⟨rfl, rfl⟩ | rfl | ⟨l, off, rows, rfl, h1, h2, h3⟩ <;> rfl
theorem Sl.scal (h : Sl σ z v es) : v.scal = true := h.rd.scal
end
end Go.Proofs.YtmjbnfldehbmcaaDoor.Ab
