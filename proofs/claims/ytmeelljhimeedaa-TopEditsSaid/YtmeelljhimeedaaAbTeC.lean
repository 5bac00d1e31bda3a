/-
The walk over the program's texts, told with what its values say: a part of it. No further condition.
-/
import Derived.Test.YtmeelljhimeedaaAbS
import Derived.IntWalk
import Derived.Test.YtmeelljhimeedaaAbTeU
namespace Go.Proofs.Ytmeelljhimeedaa.Ab
open Go.RowKit
set_option linter.unusedVariables false
set_option linter.unusedSimpArgs false
/-! Slices: what they read as. -/
/-- An element's address. -/
def elA : V → Nat → V
  | .islc _ es, i => match es[i]? with | some e => .iptr e 0 | none => .any
  | .slc l off _, i => .ptr l (off + i) 0
  | _, _ => .any
def cutV : V → Nat → Nat → V
  | .islc z es, a, b => .islc z ((es.take b).drop a)
  | .slc p off _, a, b => .slc p (off + a) (b - a)
  | v, _, _ => v
/-- It reads as these elements. -/
def Rd (σ : St) (z : Nat) (v : V) (es : List (List V)) : Prop := cont σ z v = some es
section
variable {σ σ' : St} {z : Nat} {v : V} {es : List (List V)}
theorem Rd.inv (h : Rd σ z v es) : (v = .nils ∧ es = []) ∨ (v = .islc z es) ∨ (∃ l off rows, v = .slc l off es.length ∧ σ.H l = some (.row z rows) ∧ off + es.length ≤ rows.length ∧ es = (rows.drop off).take es.length) := by
  unfold Rd cont at h
  split at h
  · exact .inl ⟨rfl, by simpa using h.symm⟩
  · split at h
    · rename_i hz; simp at h; exact .inr (.inl (by rw [hz, h]))
    · simp at h
  · split at h
    · split at h
      · rename_i l off len _ z' rows hl hc
        simp at h
        have hlen : es.length = len := by rw [← h]; simp; omega
        refine .inr (.inr ⟨l, off, rows, by rw [hlen], by rw [hl, hc.1], by omega, by rw [hlen]; exact h.symm⟩)
      · simp at h
    · simp at h
  · simp at h
theorem Rd.len (h : Rd σ z v es) : lenV v = some (.int .i64 es.length) := by
  rcases h.inv with ⟨rfl, rfl⟩ | rfl | ⟨l, off, rows, rfl, _⟩ <;> rfl
theorem Rd.at (h : Rd σ z v es) {k : IntKind} {i : Nat} (hi : i < es.length) : iaV σ z v (.int k i) = some (elA v i) := by
  rcases h.inv with ⟨rfl, rfl⟩ | rfl | ⟨l, off, rows, rfl, h1, h2, h3⟩
  · simp at hi
  · simp [iaV, elA, hi]
  · simp [iaV, elA, h1, hi]
theorem Rd.ld (h : Rd σ z v es) {i j : Nat} {e : List V} (he : es[i]? = some e) : (faV j (elA v i)).bind (ldV σ) = e[j]? := by
  have hi : i < es.length := (List.getElem?_eq_some_iff.1 he).1
  rcases h.inv with ⟨rfl, rfl⟩ | rfl | ⟨l, off, rows, rfl, h1, h2, h3⟩
  · simp at he
  · simp [elA, he]
  · have : rows[off + i]? = some e := by
      rw [h3, List.getElem?_take, List.getElem?_drop] at he
      simpa [hi] using he
    simp [elA, h1, this]
/-- An element's cells: their addresses. -/
def celA (v : V) (i j : Nat) : V := (faV j (elA v i)).getD .any
theorem Rd.fa (h : Rd σ z v es) {i j : Nat} (hi : i < es.length) : faV j (elA v i) = some (celA v i j) := by
  rcases h.inv with ⟨rfl, rfl⟩ | rfl | ⟨l, off, rows, rfl, h1, h2, h3⟩
  · simp at hi
  · simp [elA, celA, hi]
  · simp [elA, celA]
theorem Rd.cel (h : Rd σ z v es) {i j : Nat} {e : List V} (he : es[i]? = some e) : ldV σ (celA v i j) = e[j]? := by
  have := h.ld (j := j) he
  rw [h.fa (List.getElem?_eq_some_iff.1 he).1] at this
  exact this
theorem Rd.el (h : Rd σ z v es) {i : Nat} {e : List V} (he : es[i]? = some e) : ldV σ (elA v i) = e[0]? := by
  have := h.cel (j := 0) he
  have h0 : celA v i 0 = elA v i := by
    have hi := (List.getElem?_eq_some_iff.1 he).1
    rcases h.inv with ⟨rfl, rfl⟩ | rfl | ⟨l, off, rows, rfl, h1, h2, h3⟩
    · simp at hi
    · simp [celA, elA, hi]
    · simp [celA, elA]
  rw [h0] at this; exact this
theorem Rd.cut (h : Rd σ z v es) {a b : Nat} (hab : a ≤ b) (hb : b ≤ es.length) : Rd σ z (cutV v a b) ((es.take b).drop a) := by
  rcases h.inv with ⟨rfl, rfl⟩ | rfl | ⟨l, off, rows, rfl, h1, h2, h3⟩
  · simp at hb; subst hb; simp [Rd, cutV, cont]
  · simp [Rd, cutV, cont]
  · unfold Rd cutV cont
    simp only [h1]
    rw [if_pos (⟨trivial, by omega⟩ : True ∧ _)]
    rw [h3, List.take_take, Nat.min_eq_left hb, List.drop_take, List.drop_drop]
theorem Rd.lsl (h : Rd σ z v es) {env : Env} {lo hi : Option Opd} {a b : Nat} (hl : bound env 0 lo = some a) (hh : bound env es.length hi = some b) (hab : a ≤ b) (hb : b ≤ es.length) : lslV env σ z v lo hi = some (cutV v a b) := by
  rcases h.inv with ⟨rfl, rfl⟩ | rfl | ⟨l, off, rows, rfl, h1, h2, h3⟩
  · simp at hb; subst hb
    simp at hab; subst hab
    simp only [List.length_nil] at hh
    simp [lslV, hl, hh, cutV]
  · simp [lslV, hl, hh, cutV, hab, hb]
  · simp only [lslV, hl, hh, cutV, h1, Option.bind_some]
    rw [if_pos ⟨trivial, hab, by omega⟩]
theorem Rd.mono (h : Rd σ z v es) (hH : ∀ l off len, v = .slc l off len → σ'.H l = σ.H l) : Rd σ' z v es := by
  rcases h.inv with ⟨rfl, rfl⟩ | rfl | ⟨l, off, rows, rfl, h1, h2, h3⟩
  · rfl
  · simp [Rd, cont]
  · unfold Rd cont at *
    simp only [hH l off _ rfl]
    exact h
/-! Slices that are one's own, up to their rows' ends. -/
/-- The row of a slice. -/
def V.row : V → Option Nat
  | .slc l _ _ => some l
  | _ => none
def Sl (σ : St) (z : Nat) (v : V) (es : List (List V)) : Prop :=
  (v = .nils ∧ es = []) ∨ ∃ l, v = .slc l 0 es.length ∧ σ.H l = some (.row z es)
theorem Sl.rd (h : Sl σ z v es) : Rd σ z v es := by
  rcases h with ⟨rfl, rfl⟩ | ⟨l, rfl, h⟩
  · rfl
  · simp [Rd, cont, h]
theorem Sl.mono (h : Sl σ z v es) (hH : ∀ l, v.row = some l → σ'.H l = σ.H l) : Sl σ' z v es := by
  rcases h with ⟨rfl, rfl⟩ | ⟨l, rfl, h⟩
  · exact .inl ⟨rfl, rfl⟩
  · exact .inr ⟨l, rfl, by rw [hH l rfl]; exact h⟩
theorem srcOf_rd {v : V} {es : List (List V)} (h : Rd σ z v es) : srcOf σ z v = some es := by
  rcases h.inv with ⟨rfl, rfl⟩ | rfl | ⟨l, off, rows, rfl, h1, h2, h3⟩ <;> exact h
/-- What the store is when a slice has grown. -/
def grown (σ : St) (v : V) : St :=
  match v with
  | .slc l _ _ => σ.kill l
  | _ => σ
@[simp] theorem grown_n (σ : St) (v : V) : (grown σ v).n = σ.n := by cases v <;> rfl
@[simp] theorem grown_W (σ : St) (v : V) : (grown σ v).W = σ.W := by cases v <;> rfl
theorem grown_H (σ : St) (v : V) (l : Nat) : (grown σ v).H l = if v.row = some l then none else σ.H l := by
  cases v <;> simp [grown, V.row, eq_comm]
theorem Sl.app (h : Sl σ z v es) {y : V} {ys : List (List V)} (hy : srcOf σ z y = some ys) (hne : ys ≠ []) {bytes : Nat} (hb : (es.length + ys.length) * bytes ≤ reach) (hr : es.length + ys.length ≤ reach) :
    appV σ bytes z v y = some (.slc σ.n 0 (es.length + ys.length), (grown σ v).new (.row z (es ++ ys))) := by
  have hl : 0 < ys.length := List.length_pos_iff.2 hne
  rcases h with ⟨rfl, rfl⟩ | ⟨l, rfl, h⟩
  · simp at hb hr
    simp [appV, hy, hne, hb, hr, grown]
  · simp [appV, hy, hne, hb, hr, h, grown]
    omega
theorem Sl.app0 (h : Sl σ z v es) {y : V} (hy : srcOf σ z y = some []) {bytes : Nat} : appV σ bytes z v y = some (v, σ) := by
  rcases h with ⟨rfl, rfl⟩ | ⟨l, rfl, h⟩ <;> simp [appV, hy]
theorem vT {p : Prop} [Decidable p] (h : p) : V.bool (decide p) = .bool true := by rw [decide_eq_true h]
theorem vF {p : Prop} [Decidable p] (h : ¬ p) : V.bool (decide p) = .bool false := by rw [decide_eq_false h]
/-! Slices of bytes. -/
theorem u8n {c : UInt8} {n : Nat} (h : n < 256) : ((c.toNat : Int) = n) ↔ c = UInt8.ofNat n := by
  constructor
  · intro e
    apply UInt8.toNat_inj.1
    simp
    omega
  · rintro rfl
    simp
    omega
def Bs (σ : St) (v : V) (s : List UInt8) : Prop := Rd σ 1 v (s.map byteE)
variable {s : List UInt8}
theorem Bs.len (h : Bs σ v s) : lenV v = some (.int .i64 s.length) := by simpa using Rd.len h
theorem Bs.at (h : Bs σ v s) {k : IntKind} {i : Nat} (hi : i < s.length) : iaV σ 1 v (.int k i) = some (elA v i) := Rd.at h (by simpa using hi)
theorem Bs.at0 (h : Bs σ v s) {k : IntKind} (hi : 0 < s.length) : iaV σ 1 v (.int k 0) = some (elA v 0) := h.at (i := 0) hi
theorem Bs.ld (h : Bs σ v s) {i : Nat} {c : UInt8} (hi : s[i]? = some c) : ldV σ (elA v i) = some (.int .u8 c.toNat) := by
  have := Rd.el h (i := i) (e := byteE c) (by simp [hi])
  simpa [byteE] using this
theorem Bs.cut (h : Bs σ v s) {a b : Nat} (hab : a ≤ b) (hb : b ≤ s.length) : Bs σ (cutV v a b) ((s.take b).drop a) := by
  have := Rd.cut h hab (by simpa using hb)
  simpa [Bs] using this
theorem Bs.lsl (h : Bs σ v s) {env : Env} {lo hi : Option Opd} {a b : Nat} (hl : bound env 0 lo = some a) (hh : bound env s.length hi = some b) (hab : a ≤ b) (hb : b ≤ s.length) : lslV env σ 1 v lo hi = some (cutV v a b) :=
  Rd.lsl h hl (by simpa using hh) hab (by simpa using hb)
theorem Bs.lslTo (h : Bs σ v s) {env : Env} {hi : Opd} {b : Nat} {k : IntKind} (hh : hi.ev env = .int k b) (hb : b ≤ s.length) : lslV env σ 1 v none (some hi) = some (cutV v 0 b) :=
  h.lsl (by simp) (by simp [hh]) (by omega) hb
theorem Bs.lslFrom (h : Bs σ v s) {env : Env} {lo : Opd} {a : Nat} {k : IntKind} (hh : lo.ev env = .int k a) (ha : a ≤ s.length) : lslV env σ 1 v (some lo) none = some (cutV v a s.length) :=
  h.lsl (by simp [hh]) (by simp) ha (by omega)
theorem Bs.lslBoth (h : Bs σ v s) {env : Env} {lo hi : Opd} {a b : Nat} {k k' : IntKind} (hl : lo.ev env = .int k a) (hh : hi.ev env = .int k' b) (hab : a ≤ b) (hb : b ≤ s.length) : lslV env σ 1 v (some lo) (some hi) = some (cutV v a b) :=
  h.lsl (by simp [hl]) (by simp [hh]) hab hb
theorem Bs.b2s (h : Bs σ v s) : ((cont σ 1 v).bind fun es => (es.mapM byteOf).map V.str) = some (.str s) := by
  have h' : cont σ 1 v = some (s.map byteE) := h
  rw [h']
  simp only [Option.bind_some]
  have : (s.map byteE).mapM byteOf = some s := by
    clear h h'
    induction s with
    | nil => rfl
    | cons c s ih =>
      have hc : byteOf (byteE c) = some c := by
        simp only [byteE, byteOf]
        rw [if_pos ⟨by omega, by have := c.toNat_lt; omega⟩]
        simp
      simp [List.mapM_cons, hc, ih]
  rw [this]; rfl
theorem Bs.mono (h : Bs σ v s) (hH : ∀ l off len, v = .slc l off len → σ'.H l = σ.H l) : Bs σ' v s := Rd.mono h hH
theorem Rd.scal (h : Rd σ z v es) : v.scal = true := by
  rcases h.inv with ⟨rfl, rfl⟩ | rfl | ⟨l, off, rows, rfl, h1, h2, h3⟩ <;> rfl
theorem Sl.scal (h : Sl σ z v es) : v.scal = true := h.rd.scal
end
/-! Ends of calls. -/
section
variable (H : Nat → Option Blk) (n : Nat → Bool)
theorem frzC_pure : ∀ (k : Nat) {v : V}, v.pure = true → frzC H n k v = v
  | 0, v, h => by simp [frzC, h]
  | k + 1, v, h => by
    have ih : ∀ {v : V}, v.pure = true → frzC H n k v = v := fun h => frzC_pure k h
    show frzS H n (frzC H n k) v = v
    cases v <;> (try rfl) <;> (try (simp [V.pure] at h; done))
    case func fn a b =>
      simp only [V.pure, Bool.and_eq_true, List.isEmpty_iff] at h
      obtain ⟨rfl, rfl⟩ := h; rfl
    case iface t v =>
      have hv : v.pure = true := by cases v <;> simp_all [V.pure]
      show V.iface t _ = _
      congr 1
      cases v <;> (try exact ih hv)
      simp [V.pure] at hv
theorem frz_list {vs : List V} (h : ∀ v ∈ vs, v.pure = true) (k : Nat) : vs.map (frzC H n k) = vs := by
  conv => rhs; rw [← List.map_id vs]
  exact List.map_congr_left fun v hv => frzC_pure H n k (h v hv)
theorem frz_rows {es : List (List V)} (h : ∀ e ∈ es, ∀ v ∈ e, v.pure = true) (k : Nat) : es.map (·.map (frzC H n k)) = es := by
  conv => rhs; rw [← List.map_id es]
  exact List.map_congr_left fun e he => frz_list H n (h e he) k
variable (v : V) (vs : List V) (k : IntKind) (i : Int) (b : Bool) (t : List UInt8)
@[simp] theorem frzO_ret : frzO H n (.ret v) = .ret (frzV H n v) := rfl
@[simp] theorem frzO_pan : frzO H n (.panic v) = .panic (frzV H n v) := rfl
@[simp] theorem frzV_int : frzV H n (.int k i) = .int k i := rfl
@[simp] theorem frzV_bool : frzV H n (.bool b) = .bool b := rfl
@[simp] theorem frzV_str : frzV H n (.str t) = .str t := rfl
@[simp] theorem frzV_nilp : frzV H n .nilp = .nilp := rfl
@[simp] theorem frzV_nils : frzV H n .nils = .nils := rfl
@[simp] theorem frzV_islc (z : Nat) (es : List (List V)) : frzV H n (.islc z es) = .islc z es := rfl
@[simp] theorem frzV_slc (l o m : Nat) : frzV H n (.slc l o m) = frzC H n 4 (.slc l o m) := rfl
@[simp] theorem frzV_ptr (l i j : Nat) : frzV H n (.ptr l i j) = frzC H n 4 (.ptr l i j) := rfl
@[simp] theorem frzV_agg : frzV H n (.agg vs) = .agg (vs.map (frzC H n 4)) := rfl
@[simp] theorem frzV_tup : frzV H n (.tup vs) = .tup (vs.map (frzA H n)) := rfl
@[simp] theorem frzV_iface (ty : TypeId) : frzV H n (.iface ty v) = frzC H n 4 (.iface ty v) := rfl
@[simp] theorem frzA_int : frzA H n (.int k i) = .int k i := rfl
@[simp] theorem frzA_bool : frzA H n (.bool b) = .bool b := rfl
@[simp] theorem frzA_str : frzA H n (.str t) = .str t := rfl
@[simp] theorem frzA_nilp : frzA H n .nilp = .nilp := rfl
@[simp] theorem frzA_nils : frzA H n .nils = .nils := rfl
@[simp] theorem frzA_islc (z : Nat) (es : List (List V)) : frzA H n (.islc z es) = .islc z es := rfl
@[simp] theorem frzA_slc (l o m : Nat) : frzA H n (.slc l o m) = frzC H n 4 (.slc l o m) := rfl
@[simp] theorem frzA_ptr (l i j : Nat) : frzA H n (.ptr l i j) = frzC H n 4 (.ptr l i j) := rfl
@[simp] theorem frzA_agg : frzA H n (.agg vs) = .agg (vs.map (frzC H n 4)) := rfl
@[simp] theorem frzC_int (m : Nat) : frzC H n (m + 1) (.int k i) = .int k i := rfl
@[simp] theorem frzC_bool (m : Nat) : frzC H n (m + 1) (.bool b) = .bool b := rfl
@[simp] theorem frzC_str (m : Nat) : frzC H n (m + 1) (.str t) = .str t := rfl
@[simp] theorem frzC_nilp (m : Nat) : frzC H n (m + 1) .nilp = .nilp := rfl
@[simp] theorem frzC_nils (m : Nat) : frzC H n (m + 1) .nils = .nils := rfl
@[simp] theorem frzC_islc (m z : Nat) (es : List (List V)) : frzC H n (m + 1) (.islc z es) = .islc z es := rfl
@[simp] theorem frzC_iptr (m j : Nat) (es : List V) : frzC H n (m + 1) (.iptr es j) = .iptr es j := rfl
/-- A slice of a row that is not kept. -/
theorem frz_slc {l off len z : Nat} {es : List (List V)} (m : Nat) (hl : n l = false) (hH : H l = some (.row z es)) (ho : off + len ≤ es.length) (hp : ∀ e ∈ es, ∀ v ∈ e, v.pure = true) : frzC H n (m + 1) (.slc l off len) = .islc z ((es.drop off).take len) := by
  show frzS H n (frzC H n m) (.slc l off len) = _
  have hp' : ∀ e ∈ (es.drop off).take len, ∀ v ∈ e, v.pure = true := fun e he => hp e (List.mem_of_mem_drop (List.mem_of_mem_take he))
  simp only [frzS, hl, hH, frz_rows H n hp' m]
  rw [if_neg (by simp), if_pos ⟨ho, List.all_eq_true.2 fun e he => List.all_eq_true.2 fun v hv => hp' e he v hv⟩]
theorem frz_old {l off len : Nat} (m : Nat) (hl : n l = true) : frzC H n (m + 1) (.slc l off len) = .slc l off len := by
  show frzS H n (frzC H n m) (.slc l off len) = _
  simp [frzS, hl]
theorem frz_oldp {l i j : Nat} (m : Nat) (hl : n l = true) : frzC H n (m + 1) (.ptr l i j) = .ptr l i j := by
  show frzS H n (frzC H n m) (.ptr l i j) = _
  simp [frzS, hl]
end
section
variable {P : Program} {E : En P} {k : FuncId} {fd : FD} {vs : List V} {σ σ' : St} {o o' : CO}
theorem ev_raw (h : E.T k = some fd) (hl : vs.length ≤ fd.nt) (hz : fd.fz = .raw) (hr : run E false fd.res [.d fd.body] ⟨envOf vs, []⟩ σ = some (o, σ')) : ev E k vs σ = some (o, σ') := by
  rw [ev_eq h hl, hr]; simp [cutR, hz]
/-- A call that changes nothing: what it hands back is told whole. -/
theorem ev_pure (h : E.T k = some fd) (hl : vs.length ≤ fd.nt) (hz : fd.fz = .all) (hr : run E false fd.res [.d fd.body] ⟨envOf vs, []⟩ σ = some (o, σ')) (hH : ∀ l, l < σ.n → σ'.H l = σ.H l) (hW : σ'.W = σ.W)
    (ho : frzO σ'.H (fun l => decide (l < σ.n)) o = o') : ev E k vs σ = some (o', σ) := by
  rw [ev_eq h hl, hr]; simp [cutR, hz, frz_same hH hW, ho]
/-- .. that makes nothing, too. -/
theorem ev_same (h : E.T k = some fd) (hl : vs.length ≤ fd.nt) (hz : fd.fz = .all) (hr : run E false fd.res [.d fd.body] ⟨envOf vs, []⟩ σ = some (o, σ)) (ho : frzO σ.H (fun l => decide (l < σ.n)) o = o') : ev E k vs σ = some (o', σ) :=
  ev_pure h hl hz hr (fun _ _ => rfl) rfl ho
/-- A call that turns one row. -/
theorem ev_set {p : Nat} {b : Blk} (h : E.T k = some fd) (hl : vs.length ≤ fd.nt) (hz : fd.fz = .all) (hr : run E false fd.res [.d fd.body] ⟨envOf vs, []⟩ σ = some (o, σ')) (hp : p < σ.n)
    (hb : (σ'.H p).map (frzB σ'.H fun l => decide (l < σ.n)) = some b) (hH : ∀ l, l < σ.n → l ≠ p → σ'.H l = σ.H l) (hW : σ'.W = σ.W) (hb' : σ'.H p = σ.H p → σ.H p = some b)
    (ho : frzO σ'.H (fun l => decide (l < σ.n)) o = o') : ev E k vs σ = some (o', σ.set p b) := by
  rw [ev_eq h hl, hr]; simp [cutR, hz, frz_set hp hb hH hW hb', ho]
end
end Go.Proofs.Ytmeelljhimeedaa.Ab
namespace Go.Proofs.Ytmeelljhimeedaa
open Go.Proofs.Ytmeelljhimeedaa.Ab
set_option linter.unusedVariables false
set_option linter.unusedSimpArgs false
variable {E : En Try.prog}
/-- The byte at a place; behind the end: 0. -/
def nx (s : List UInt8) (j : Nat) : Nat := (s[j]?.map UInt8.toNat).getD 0
theorem nx_lt (s : List UInt8) (j : Nat) : nx s j < 256 := by
  unfold nx; cases s[j]? with
  | none => simp
  | some c => have := c.toNat_lt; simpa using this
theorem nx_at {s : List UInt8} {j : Nat} (h : j < s.length) : nx s j = s[j].toNat := by simp [nx, h]
def go (s : List UInt8) (j : Nat) : Prop := 128 ≤ nx s j ∧ nx s j < 192
instance (s : List UInt8) (j : Nat) : Decidable (go s j) := inferInstanceAs (Decidable (_ ∧ _))
theorem go_in {s : List UInt8} {j : Nat} (h : go s j) : j < s.length := by
  rcases Nat.lt_or_ge j s.length with h' | h'
  · exact h'
  · have := h.1; simp [nx, List.getElem?_eq_none h'] at this
theorem and192 : ∀ c : Nat, c < 256 → (IntKind.u8.wrap ↑(c % 2 ^ IntKind.u8.bits &&& 192 % 2 ^ IntKind.u8.bits) = 128 ↔ 128 ≤ c ∧ c < 192) := by decide +kernel
theorem and63 : ∀ c : Nat, c < 256 → IntKind.u8.wrap ↑(c % 2 ^ IntKind.u8.bits &&& 63 % 2 ^ IntKind.u8.bits) = ((c % 64 : Nat) : Int) := by decide +kernel
theorem i32n {c : Nat} (hc : c < 2 ^ 31) : IntKind.i32.wrap (c : Int) = c := by simp [IntKind.wrap, IntKind.signed, IntKind.bits]; omega
theorem and31 : ∀ c : Nat, c < 256 → IntKind.i32.wrap ↑(c % 2 ^ IntKind.i32.bits &&& 31 % 2 ^ IntKind.i32.bits) = ((c % 32 : Nat) : Int) := by decide +kernel
theorem and15 : ∀ c : Nat, c < 256 → IntKind.i32.wrap ↑(c % 2 ^ IntKind.i32.bits &&& 15 % 2 ^ IntKind.i32.bits) = ((c % 16 : Nat) : Int) := by decide +kernel
theorem and7 : ∀ c : Nat, c < 256 → IntKind.i32.wrap ↑(c % 2 ^ IntKind.i32.bits &&& 7 % 2 ^ IntKind.i32.bits) = ((c % 8 : Nat) : Int) := by decide +kernel
theorem orW {x d : Nat} (k a : Nat) (hx : x = 2 ^ k * a) (hd : d < 2 ^ k) (h : x + d < 2 ^ 31) : IntKind.i32.wrap ↑(x % 2 ^ IntKind.i32.bits ||| d % 2 ^ IntKind.i32.bits) = ((x + d : Nat) : Int) := by
  have h1 : x % 2 ^ IntKind.i32.bits = x := Nat.mod_eq_of_lt (by simp [IntKind.bits]; omega)
  have h2 : d % 2 ^ IntKind.i32.bits = d := Nat.mod_eq_of_lt (by simp [IntKind.bits]; omega)
  rw [h1, h2, hx, ← Nat.two_pow_add_eq_or_of_lt hd, ← hx, i32n h]
theorem shlW {x y : Nat} (k : Nat) (hk : k ≤ 32) (hy : y = x * 2 ^ k) (h : y < 2 ^ 31) : IntKind.i32.wrap ((x : Int) * 2 ^ (min k IntKind.i32.bits)) = (y : Int) := by
  have : min k IntKind.i32.bits = k := by simp [IntKind.bits]; omega
  rw [this, ← i32n h, hy]; simp
theorem more_ev (hT : E.T = T) {σ : St} {v : V} {b : List UInt8} (hv : Bs σ v b) (i : Nat) : ev E 22 [v, .int .i64 i] σ = some (.ret (.bool (decide (go b i))), σ) := by
  refine ev_same (fd := f22) (o := .ret (.bool (decide (go b i)))) (by rw [hT]; rfl) (by simp [f22]) rfl ?_ (by simp)
  by_cases h : i < b.length
  · have h1 : b[i]? = some b[i] := by simp
    have h2 := b[i].toNat_lt
    simp [f22, d22, hv.len, h, hv.at, hv.ld h1, and192 _ h2, go, nx, h1]
  · have h1 : b[i]? = none := by simp; omega
    simp [f22, d22, hv.len, h, go, nx, h1]
/-- The first letter: its number, and how many bytes it has. -/
def lt2 (a b : Nat) : Nat := a % 32 * 64 + b % 64
def lt3 (a b c : Nat) : Nat := a % 16 * 4096 + b % 64 * 64 + c % 64
def lt4 (a b c d : Nat) : Nat := a % 8 * 262144 + b % 64 * 4096 + c % 64 * 64 + d % 64
def lt1 (s : List UInt8) (i : Nat) : Option (Nat × Nat) :=
  if nx s i < 128 then some (nx s i, 1)
  else if 194 ≤ nx s i ∧ nx s i ≤ 223 ∧ go s (i + 1) then some (lt2 (nx s i) (nx s (i + 1)), 2)
  else if 224 ≤ nx s i ∧ nx s i ≤ 239 ∧ go s (i + 1) ∧ go s (i + 2) then
    let r := lt3 (nx s i) (nx s (i + 1)) (nx s (i + 2))
    if 2048 ≤ r ∧ (r < 55296 ∨ 57343 < r) then some (r, 3) else none
  else if 240 ≤ nx s i ∧ nx s i ≤ 244 ∧ go s (i + 1) ∧ go s (i + 2) ∧ go s (i + 3) then
    let r := lt4 (nx s i) (nx s (i + 1)) (nx s (i + 2)) (nx s (i + 3))
    if 65536 ≤ r ∧ r ≤ 1114111 then some (r, 4) else none
  else none
def lt1V : Option (Nat × Nat) → V
  | some (r, n) => .tup [.int .i32 r, .int .i64 n]
  | none => .tup [.int .i32 0, .int .i64 0]
theorem letter_ev (hT : E.T = T) {σ : St} {v : V} {b : List UInt8} (hv : Bs σ v b) (i : Nat) (hi : i < b.length) (hb : b.length < 2 ^ 40) : ev E 18 [v, .int .i64 i] σ = some (.ret (lt1V (lt1 b i)), σ) := by
  refine ev_same (fd := f18) (o := .ret (lt1V (lt1 b i))) (by rw [hT]; rfl) (by simp [f18]) rfl ?_ (by cases lt1 b i <;> simp [lt1V])
  have h1 : b[i]? = some b[i] := by simp
  have h2 := b[i].toNat_lt
  have hx := nx_at hi
  obtain ⟨i1, e1⟩ : ∃ i1, i1 = i + 1 := ⟨_, rfl⟩
  obtain ⟨i2, e2⟩ : ∃ i2, i2 = i + 2 := ⟨_, rfl⟩
  obtain ⟨i3, e3⟩ : ∃ i3, i3 = i + 3 := ⟨_, rfl⟩
  have w1 : IntKind.i64.wrap ((i : Int) + 1) = (i1 : Int) := by rw [IntWalk.i64_in _ (by omega)]; omega
  have w2 : IntKind.i64.wrap ((i : Int) + 2) = (i2 : Int) := by rw [IntWalk.i64_in _ (by omega)]; omega
  have w3 : IntKind.i64.wrap ((i : Int) + 3) = (i3 : Int) := by rw [IntWalk.i64_in _ (by omega)]; omega
  have m1 := more_ev hT hv i1
  have m2 := more_ev hT hv i2
  have m3 := more_ev hT hv i3
  unfold lt1
  rw [← e1, ← e2, ← e3]
  generalize hc : b[i].toNat = c at *
  have hci : IntKind.i32.wrap (c : Int) = c := i32n (by omega)
  rw [hx]
  have ld1 := hv.ld h1
  rw [hc] at ld1
  by_cases c1 : (c : Int) < 128
  · have c1' : c < 128 := by omega
    simp [f18, d18, hv.at, hi, ld1, hci, c1, c1', lt1V]
  have c1' : ¬ c < 128 := by omega
  have e0 : decide ((c : Int) < 128) = false := by simp; omega
  rcases (by omega : c < 194 ∨ (194 ≤ c ∧ c ≤ 223) ∨ (224 ≤ c ∧ c ≤ 239) ∨ (240 ≤ c ∧ c ≤ 244) ∨ 244 < c) with r | r | r | r | r
  · have k2 : ¬ (194 : Int) ≤ c := by omega
    have k4 : ¬ (224 : Int) ≤ c := by omega
    have k6 : ¬ (240 : Int) ≤ c := by omega
    have n2 : ¬ 194 ≤ c := by omega
    have n4 : ¬ 224 ≤ c := by omega
    have n6 : ¬ 240 ≤ c := by omega
    simp [f18, d18, hv.at, hi, ld1, hci, c1, k2, k4, k6, c1', n2, n4, n6, lt1V]
  · have k2 : (194 : Int) ≤ c := by omega
    have k3 : (c : Int) ≤ 223 := by omega
    have k4 : ¬ (224 : Int) ≤ c := by omega
    have k6 : ¬ (240 : Int) ≤ c := by omega
    have n4 : ¬ 224 ≤ c := by omega
    have n6 : ¬ 240 ≤ c := by omega
    by_cases g1 : go b i1
    · have hi1 := go_in g1
      have ld2 := hv.ld (i := i1) (c := b[i1]) (by simp)
      have hy := nx_at hi1
      have hyl := b[i1].toNat_lt
      rw [hy]
      generalize b[i1].toNat = d at *
      obtain ⟨u, hu⟩ : ∃ u, u = c % 32 := ⟨_, rfl⟩
      obtain ⟨x, hxx⟩ : ∃ x, x = u * 64 := ⟨_, rfl⟩
      obtain ⟨t, ht⟩ : ∃ t, t = d % 64 := ⟨_, rfl⟩
      obtain ⟨z, hz⟩ : ∃ z, z = x + t := ⟨_, rfl⟩
      have a1 := and31 c (by omega)
      have a2 := and63 d hyl
      have a3 := shlW (x := u) (y := x) 6 (by omega) (by omega) (by omega)
      have a4 := i32n (c := t) (by omega)
      have a5 := orW (x := x) (d := t) 6 u (by omega) (by omega) (by omega)
      rw [← hu] at a1
      rw [← ht] at a2
      rw [← hz] at a5
      have a6 : lt2 c d = z := by unfold lt2; omega
      simp [f18, d18, hv.at, hi, ld1, hci, c1, k2, k3, w1, m1, g1, hi1, ld2, a1, a2, a3, a4, a5, a6, c1', r, lt1V]
    · simp [f18, d18, hv.at, hi, ld1, hci, c1, k2, k3, k4, k6, w1, m1, g1, c1', r, n4, n6, lt1V]
  · have k2 : (194 : Int) ≤ c := by omega
    have k3 : ¬ (c : Int) ≤ 223 := by omega
    have k4 : (224 : Int) ≤ c := by omega
    have k5 : (c : Int) ≤ 239 := by omega
    have k6 : ¬ (240 : Int) ≤ c := by omega
    have n2 : 194 ≤ c := by omega
    have n3 : ¬ c ≤ 223 := by omega
    have n6 : ¬ 240 ≤ c := by omega
    by_cases g1 : go b i1
    by_cases g2 : go b i2
    · have hi1 := go_in g1
      have hi2 := go_in g2
      have ld2 := hv.ld (i := i1) (c := b[i1]) (by simp)
      have ld3 := hv.ld (i := i2) (c := b[i2]) (by simp)
      have hyl := b[i1].toNat_lt
      have hzl := b[i2].toNat_lt
      rw [nx_at hi1, nx_at hi2]
      generalize b[i1].toNat = d at *
      generalize b[i2].toNat = e at *
      obtain ⟨u, hu⟩ : ∃ u, u = c % 16 := ⟨_, rfl⟩
      obtain ⟨x, hxx⟩ : ∃ x, x = u * 4096 := ⟨_, rfl⟩
      obtain ⟨t, ht⟩ : ∃ t, t = d % 64 := ⟨_, rfl⟩
      obtain ⟨y, hy⟩ : ∃ y, y = t * 64 := ⟨_, rfl⟩
      obtain ⟨q, hq⟩ : ∃ q, q = x + y := ⟨_, rfl⟩
      obtain ⟨p, hp⟩ : ∃ p, p = e % 64 := ⟨_, rfl⟩
      obtain ⟨z, hz⟩ : ∃ z, z = q + p := ⟨_, rfl⟩
      have a1 := and15 c (by omega)
      have a2 := and63 d hyl
      have b2 := and63 e hzl
      have a3 := shlW (x := u) (y := x) 12 (by omega) (by omega) (by omega)
      have a4 := i32n (c := t) (by omega)
      have b3 := shlW (x := t) (y := y) 6 (by omega) (by omega) (by omega)
      have b4 := i32n (c := p) (by omega)
      have a5 := orW (x := x) (d := y) 12 u (by omega) (by omega) (by omega)
      have b5 := orW (x := q) (d := p) 6 (u * 64 + t) (by omega) (by omega) (by omega)
      rw [← hu] at a1
      rw [← ht] at a2
      rw [← hp] at b2
      rw [← hq] at a5
      rw [← hz] at b5
      have a6 : lt3 c d e = z := by unfold lt3; omega
      by_cases r1 : (2048 : Int) ≤ z
      · by_cases r2 : (z : Int) < 55296
        · have s1 : 2048 ≤ z := by omega
          have s2 : z < 55296 := by omega
          simp [f18, d18, hv.at, hi, ld1, hci, c1, k2, k3, k4, k5, w1, w2, m1, m2, g1, g2, hi1, hi2, ld2, ld3, a1, a2, a3, a4, a5, a6, b2, b3, b4, b5, c1', r, n2, n3, r1, r2, s1, s2, lt1V]
        · have s1 : 2048 ≤ z := by omega
          have s2 : ¬ z < 55296 := by omega
          by_cases r3 : (57343 : Int) < z
          · have s3 : 57343 < z := by omega
            simp [f18, d18, hv.at, hi, ld1, hci, c1, k2, k3, k4, k5, w1, w2, m1, m2, g1, g2, hi1, hi2, ld2, ld3, a1, a2, a3, a4, a5, a6, b2, b3, b4, b5, c1', r, n2, n3, r1, r2, r3, s1, s2, s3, lt1V]
          · have s3 : ¬ 57343 < z := by omega
            simp [f18, d18, hv.at, hi, ld1, hci, c1, k2, k3, k4, k5, k6, w1, w2, m1, m2, g1, g2, hi1, hi2, ld2, ld3, a1, a2, a3, a4, a5, a6, b2, b3, b4, b5, c1', r, n2, n3, n6, r1, r2, r3, s1, s2, s3, lt1V]
      · have s1 : ¬ 2048 ≤ z := by omega
        simp [f18, d18, hv.at, hi, ld1, hci, c1, k2, k3, k4, k5, k6, w1, w2, m1, m2, g1, g2, hi1, hi2, ld2, ld3, a1, a2, a3, a4, a5, a6, b2, b3, b4, b5, c1', r, n2, n3, n6, r1, s1, lt1V]
    · simp [f18, d18, hv.at, hi, ld1, hci, c1, k2, k3, k4, k5, k6, w1, w2, m1, m2, g1, g2, c1', r, n2, n3, n6, lt1V]
    · simp [f18, d18, hv.at, hi, ld1, hci, c1, k2, k3, k4, k5, k6, w1, w2, m1, g1, c1', r, n2, n3, n6, lt1V]
  · have k2 : (194 : Int) ≤ c := by omega
    have k3 : ¬ (c : Int) ≤ 223 := by omega
    have k4 : (224 : Int) ≤ c := by omega
    have k5 : ¬ (c : Int) ≤ 239 := by omega
    have k6 : (240 : Int) ≤ c := by omega
    have k7 : (c : Int) ≤ 244 := by omega
    have n2 : 194 ≤ c := by omega
    have n3 : ¬ c ≤ 223 := by omega
    have n4 : 224 ≤ c := by omega
    have n5 : ¬ c ≤ 239 := by omega
    by_cases g1 : go b i1
    by_cases g2 : go b i2
    by_cases g3 : go b i3
    · have hi1 := go_in g1
      have hi2 := go_in g2
      have hi3 := go_in g3
      have ld2 := hv.ld (i := i1) (c := b[i1]) (by simp)
      have ld3 := hv.ld (i := i2) (c := b[i2]) (by simp)
      have ld4 := hv.ld (i := i3) (c := b[i3]) (by simp)
      have hyl := b[i1].toNat_lt
      have hzl := b[i2].toNat_lt
      have hul := b[i3].toNat_lt
      rw [nx_at hi1, nx_at hi2, nx_at hi3]
      generalize b[i1].toNat = d at *
      generalize b[i2].toNat = e at *
      generalize b[i3].toNat = g at *
      obtain ⟨u, hu⟩ : ∃ u, u = c % 8 := ⟨_, rfl⟩
      obtain ⟨x, hxx⟩ : ∃ x, x = u * 262144 := ⟨_, rfl⟩
      obtain ⟨t, ht⟩ : ∃ t, t = d % 64 := ⟨_, rfl⟩
      obtain ⟨y, hy⟩ : ∃ y, y = t * 4096 := ⟨_, rfl⟩
      obtain ⟨q, hq⟩ : ∃ q, q = x + y := ⟨_, rfl⟩
      obtain ⟨p, hp⟩ : ∃ p, p = e % 64 := ⟨_, rfl⟩
      obtain ⟨o, ho⟩ : ∃ o, o = p * 64 := ⟨_, rfl⟩
      obtain ⟨z, hz⟩ : ∃ z, z = q + o := ⟨_, rfl⟩
      obtain ⟨n, hn⟩ : ∃ n, n = g % 64 := ⟨_, rfl⟩
      obtain ⟨j, hj⟩ : ∃ j, j = z + n := ⟨_, rfl⟩
      have a1 := and7 c (by omega)
      have a2 := and63 d hyl
      have b2 := and63 e hzl
      have c2 := and63 g hul
      have a3 := shlW (x := u) (y := x) 18 (by omega) (by omega) (by omega)
      have a4 := i32n (c := t) (by omega)
      have b3 := shlW (x := t) (y := y) 12 (by omega) (by omega) (by omega)
      have b4 := i32n (c := p) (by omega)
      have c3 := shlW (x := p) (y := o) 6 (by omega) (by omega) (by omega)
      have c4 := i32n (c := n) (by omega)
      have a5 := orW (x := x) (d := y) 18 u (by omega) (by omega) (by omega)
      have b5 := orW (x := q) (d := o) 12 (u * 64 + t) (by omega) (by omega) (by omega)
      have c5 := orW (x := z) (d := n) 6 (u * 4096 + t * 64 + p) (by omega) (by omega) (by omega)
      rw [← hu] at a1
      rw [← ht] at a2
      rw [← hp] at b2
      rw [← hn] at c2
      rw [← hq] at a5
      rw [← hz] at b5
      rw [← hj] at c5
      have a6 : lt4 c d e g = j := by unfold lt4; omega
      by_cases r1 : (65536 : Int) ≤ j
      · have s1 : 65536 ≤ j := by omega
        by_cases r2 : (j : Int) ≤ 1114111
        · have s2 : j ≤ 1114111 := by omega
          simp [f18, d18, hv.at, hi, ld1, hci, c1, k2, k3, k4, k5, k6, k7, w1, w2, w3, m1, m2, m3, g1, g2, g3, hi1, hi2, hi3, ld2, ld3, ld4, a1, a2, a3, a4, a5, a6, b2, b3, b4, b5, c2, c3, c4, c5, c1', r, n2, n3, n4, n5, r1, r2, s1, s2, lt1V]
        · have s2 : ¬ j ≤ 1114111 := by omega
          simp [f18, d18, hv.at, hi, ld1, hci, c1, k2, k3, k4, k5, k6, k7, w1, w2, w3, m1, m2, m3, g1, g2, g3, hi1, hi2, hi3, ld2, ld3, ld4, a1, a2, a3, a4, a5, a6, b2, b3, b4, b5, c2, c3, c4, c5, c1', r, n2, n3, n4, n5, r1, r2, s1, s2, lt1V]
      · have s1 : ¬ 65536 ≤ j := by omega
        simp [f18, d18, hv.at, hi, ld1, hci, c1, k2, k3, k4, k5, k6, k7, w1, w2, w3, m1, m2, m3, g1, g2, g3, hi1, hi2, hi3, ld2, ld3, ld4, a1, a2, a3, a4, a5, a6, b2, b3, b4, b5, c2, c3, c4, c5, c1', r, n2, n3, n4, n5, r1, s1, lt1V]
    · simp [f18, d18, hv.at, hi, ld1, hci, c1, k2, k3, k4, k5, k6, k7, w1, w2, w3, m1, m2, m3, g1, g2, g3, c1', r, n2, n3, n4, n5, lt1V]
    · simp [f18, d18, hv.at, hi, ld1, hci, c1, k2, k3, k4, k5, k6, k7, w1, w2, w3, m1, m2, m3, g1, g2, c1', r, n2, n3, n4, n5, lt1V]
    · simp [f18, d18, hv.at, hi, ld1, hci, c1, k2, k3, k4, k5, k6, k7, w1, w2, w3, m1, m2, m3, g1, c1', r, n2, n3, n4, n5, lt1V]
  · have k2 : (194 : Int) ≤ c := by omega
    have k3 : ¬ (c : Int) ≤ 223 := by omega
    have k4 : (224 : Int) ≤ c := by omega
    have k5 : ¬ (c : Int) ≤ 239 := by omega
    have k6 : (240 : Int) ≤ c := by omega
    have k7 : ¬ (c : Int) ≤ 244 := by omega
    have n2 : 194 ≤ c := by omega
    have n3 : ¬ c ≤ 223 := by omega
    have n4 : 224 ≤ c := by omega
    have n5 : ¬ c ≤ 239 := by omega
    have n6 : 240 ≤ c := by omega
    have n7 : ¬ c ≤ 244 := by omega
    simp [f18, d18, hv.at, hi, ld1, hci, c1, k2, k3, k4, k5, k6, k7, c1', n2, n3, n4, n5, n6, n7, lt1V]
end Go.Proofs.Ytmeelljhimeedaa
namespace Go.Proofs.Ytmeelljhimeedaa
open Go.Proofs.Ytmeelljhimeedaa.Ab
set_option linter.unusedVariables false
set_option linter.unusedSimpArgs false
variable {E : En Try.prog}
theorem lt1_pos {s : List UInt8} {i r n : Nat} (hi : i < s.length) (h : lt1 s i = some (r, n)) : 1 ≤ n ∧ n ≤ 4 ∧ i + n ≤ s.length ∧ r ≤ 1114111 := by
  unfold lt1 at h
  have hx := nx_lt s i
  split at h
  · simp at h; omega
  split at h
  · rename_i hc
    have := go_in hc.2.2
    simp at h
    unfold lt2 at h
    omega
  split at h
  · rename_i hc
    have := go_in hc.2.2.2
    simp only at h
    split at h
    · simp at h
      unfold lt3 at h
      omega
    · simp at h
  split at h
  · rename_i hc
    have := go_in hc.2.2.2.2
    simp only at h
    split at h
    · simp at h; omega
    · simp at h
  · simp at h
/-- The first byte with which no letter begins. -/
def bad (s : List UInt8) (i : Nat) : Option Nat :=
  if h : i < s.length then
    match hl : lt1 s i with
    | none => some i
    | some (r, n) => bad s (i + n)
  else none
termination_by s.length - i
decreasing_by have := lt1_pos h hl; omega
theorem bad_end {s : List UInt8} {i : Nat} (h : ¬ i < s.length) : bad s i = none := by rw [bad, dif_neg h]
theorem bad_none {s : List UInt8} {i : Nat} (h : i < s.length) (hl : lt1 s i = none) : bad s i = some i := by
  rw [bad, dif_pos h]; split
  · rfl
  · rename_i h2; rw [hl] at h2; simp at h2
theorem bad_some {s : List UInt8} {i r n : Nat} (h : i < s.length) (hl : lt1 s i = some (r, n)) : bad s i = bad s (i + n) := by
  rw [bad, dif_pos h]; split
  · rename_i h2; rw [hl] at h2; simp at h2
  · rename_i h2; rw [hl] at h2; simp at h2; rw [h2.2]
def badV : Option Nat → V
  | some i => .tup [.int .i64 i, .int .i64 10]
  | none => .tup [.int .i64 0, .int .i64 0]
theorem valid_loop (hT : E.T = T) {σ : St} {v : V} {b : List UInt8} (hv : Bs σ v b) (hb : b.length < 2 ^ 40) {x : D} (hs : ∀ e, run E false [.t 2, .t 3] [.d x] ⟨e, []⟩ σ = some (.ret (badV none), σ)) :
    ∀ (n i : Nat) (f : Fr), b.length ≤ i + n → f.ds = [] → f.env 0 = v → f.env 4 = .int .i64 i → run E false [.t 2, .t 3] [.d (.loop [0, 4] b7_0), .blk 0, .d x] f σ = some (.ret (badV (bad b i)), σ)
  | n, i, f, hn, hd, h0, h4 => by
    rw [r_loop]
    by_cases h : i < b.length
    · have hle := letter_ev hT hv i h hb
      cases n with
      | zero => omega
      | succ n =>
      cases hl : lt1 b i with
      | none =>
        rw [hl] at hle
        rw [bad_none h hl]
        simp [b7_0, h0, h4, hd, hv.len, h, hle, lt1V, badV]
      | some rm =>
        obtain ⟨r, m⟩ := rm
        rw [hl] at hle
        rw [bad_some h hl]
        obtain ⟨p1, p2, p3, p4⟩ := lt1_pos h hl
        obtain ⟨k, hk⟩ : ∃ k, k = i + m := ⟨_, rfl⟩
        have hw : IntKind.i64.wrap ((i : Int) + m) = (k : Int) := by rw [IntWalk.i64_in _ (by omega)]; omega
        have hm : ¬ m = 0 := by omega
        simp [b7_0, h0, h4, hd, hv.len, h, hle, lt1V, hm, hw]
        rw [← hk]
        exact valid_loop hT hv hb hs n k _ (by omega) rfl (by simp) (by simp)
    · rw [bad_end h]
      simp [b7_0, h0, h4, hd, hv.len, h, hs]
theorem valid_ev (hT : E.T = T) {σ : St} {v : V} {b : List UInt8} (hv : Bs σ v b) (hb : b.length < 2 ^ 40) : ev E 7 [v] σ = some (.ret (badV (bad b 0)), σ) := by
  refine ev_same (fd := f7) (o := .ret (badV (bad b 0))) (by rw [hT]; rfl) (by simp [f7]) rfl ?_ (by cases bad b 0 <;> simp [badV])
  simp [f7, d7]
  exact valid_loop hT hv hb (fun e => by simp [badV]) b.length 0 _ (by omega) rfl (by simp) (by simp)
end Go.Proofs.Ytmeelljhimeedaa
namespace Go.Proofs.Ytmeelljhimeedaa
open Go.Proofs.Ytmeelljhimeedaa.Ab
set_option linter.unusedVariables false
set_option linter.unusedSimpArgs false
variable {E : En Try.prog}
/-- What is told of the byte where one stands: the letter, or -1, and the bytes that it has. -/
def sp (s : List UInt8) (i : Nat) : Int × Nat := match lt1 s i with
  | some (r, n) => (r, n)
  | none => (-1, 1)
theorem sp_pos {s : List UInt8} {i : Nat} (hi : i < s.length) : 1 ≤ (sp s i).2 ∧ (sp s i).2 ≤ 4 ∧ i + (sp s i).2 ≤ s.length ∧ -1 ≤ (sp s i).1 ∧ (sp s i).1 ≤ 1114111 := by
  unfold sp
  split
  · rename_i h; have := lt1_pos hi h; simp; omega
  · simp; omega
/-- All letters: where each begins, its number (-1: none begins), its size. -/
def lts (s : List UInt8) (i : Nat) : List (Nat × Int × Nat) :=
  if h : i < s.length then (i, sp s i) :: lts s (i + (sp s i).2) else []
termination_by s.length - i
decreasing_by have := sp_pos h; omega
theorem lts_at {s : List UInt8} {i : Nat} (h : i < s.length) : lts s i = (i, sp s i) :: lts s (i + (sp s i).2) := by rw [lts, dif_pos h]
theorem lts_end {s : List UInt8} {i : Nat} (h : ¬ i < s.length) : lts s i = [] := by rw [lts, dif_neg h]
def ltV (x : Nat × Int × Nat) : List V := [.int .i64 x.1, .int .i32 x.2.1]
/-- What the box of an iterator holds. -/
def boxB (σ : St) (c : V) : Option (List UInt8) := (ldV σ c).bind fun v => (cont σ 1 v).bind fun es => es.mapM Go.Proofs.Ytmeelljhimeedaa.Ab.byteOf
theorem boxB_of {σ : St} {c v : V} {b : List UInt8} (h : ldV σ c = some v) (hv : Bs σ v b) : boxB σ c = some b := by
  have h' := hv.b2s
  have hc : cont σ 1 v = some (b.map byteE) := hv
  unfold boxB
  rw [h]
  simp only [Option.bind_some, hc] at h' ⊢
  generalize (b.map byteE).mapM Go.Proofs.Ytmeelljhimeedaa.Ab.byteOf = o at *
  cases o <;> simp_all
theorem byteE_of : ∀ {es : List (List V)} {b : List UInt8}, es.mapM Go.Proofs.Ytmeelljhimeedaa.Ab.byteOf = some b → es = b.map byteE
  | [], b, h => by simp at h; subst h; rfl
  | e :: es, b, h => by
    rw [List.mapM_cons] at h
    simp only [Option.bind_eq_bind, Option.bind_eq_some_iff, Option.pure_def, Option.some.injEq] at h
    obtain ⟨x, hx, xs, hxs, rfl⟩ := h
    rw [List.map_cons, ← byteE_of hxs]
    congr 1
    unfold Go.Proofs.Ytmeelljhimeedaa.Ab.byteOf at hx
    split at hx <;> try (simp at hx; done)
    rename_i n
    split at hx
    · rename_i hn
      simp at hx; subst hx
      simp [byteE]
      omega
    · simp at hx
theorem boxB_inv {σ : St} {c : V} {b : List UInt8} (h : boxB σ c = some b) : ∃ v, ldV σ c = some v ∧ Bs σ v b := by
  unfold boxB at h
  obtain ⟨v, h1, h⟩ := Option.bind_eq_some_iff.1 h
  obtain ⟨es, h2, h3⟩ := Option.bind_eq_some_iff.1 h
  refine ⟨v, h1, ?_⟩
  unfold Bs Rd
  rw [h2, byteE_of h3]
def It19 (σ : St) (c : V) : Option (V × List (List V)) := (boxB σ c).bind fun b => if b.length < 2 ^ 40 then some (.str b, (lts b 0).map ltV) else none
/-- The telling, alone. -/
def E0 : En Try.prog := ⟨T, fun _ _ _ => none, fun _ _ _ => none, fun _ _ _ _ => none⟩
theorem E0_ok : E0.Ok := ⟨T_ok, fun _ _ _ _ _ h => by simp [E0] at h, fun _ _ _ _ h => by simp [E0] at h, fun _ _ _ _ _ h => by simp [E0] at h⟩
theorem iter19 (c : V) (b : List UInt8) (hb : b.length < 2 ^ 40) : Iter Try.prog 19 [c] (fun σ => boxB σ c = some b) ((lts b 0).map ltV) := by
  intro Y l J X σ hJ hY h0
  refine ccallsY_of (T_ok 19 _ rfl).1 (by simp [f19]) ?_
  simp only [f19, d19, b19_0, D.er]
  refine cw_seq (cw_reg ?_)
  simp [rwp, rwp1, wantG]
  refine cw_block (cw_loop (fun n f σ => ∃ (i m : Nat), n = b.length - i ∧ i ≤ b.length ∧ f.ds = [] ∧ f.env 0 = .func (.yield l) [] [] ∧ f.env 1 = c ∧ f.env 3 = .int .i64 i ∧ ((lts b 0).map ltV).drop m = (lts b i).map ltV ∧ m ≤ (lts b 0).length ∧ J m σ) b.length ⟨0, 0, by simp, by omega, rfl, by simp, by simp, by simp, by simp, by simp, h0⟩ ?_)
  rintro n f σ ⟨i, m, rfl, hi, hd, e0, e1, e3, hm, hml', hj⟩
  obtain ⟨v, hc, hv⟩ := boxB_inv (hJ m σ hj)
  by_cases h : i < b.length
  · refine cw_seq (cw_seq (cw_reg ?_))
    simp [rwp, rwp1, wantG, e3, e1, hc, hv.len]
    refine cw_cond (t := true) (by simp [h]) (cw_skip ?_)
    have hle := letter_ev (E := E0) rfl hv i h hb
    have hpos := sp_pos h
    have hml : m < ((lts b 0).map ltV).length := by
      rcases Nat.lt_or_ge m ((lts b 0).map ltV).length with h' | h'
      · exact h'
      · rw [List.drop_eq_nil_of_le h', lts_at h] at hm; simp at hm
    have hxm := hm
    rw [List.drop_eq_getElem_cons hml, lts_at h, List.map_cons, List.cons.injEq] at hxm
    have hx : ((lts b 0).map ltV)[m]? = some (ltV (i, sp b i)) := by rw [List.getElem?_eq_getElem hml, hxm.1]
    have hyl := hY m _ σ hx hj
    simp [ltV] at hyl
    refine cw_block (cw_seq (cw_reg ?_))
    simp [rwp, rwp1, wantG, e3, e1, hc]
    refine (ev_calls E0_ok hle).mono ?_
    rintro _ _ ⟨rfl, rfl⟩
    obtain ⟨r, k, hr⟩ : ∃ r k, sp b i = (r, k) := ⟨_, _, rfl⟩
    rw [hr] at hyl hpos hxm
    simp at hyl hpos
    have w1 : IntKind.i64.wrap ((i : Int) + k) = ((i + k : Nat) : Int) := by rw [IntWalk.i64_in _ (by omega)]; omega
    -- the letter, and what it is told as
    have key : ∀ (f' : Fr), f'.ds = [] → f'.env 0 = .func (.yield l) [] [] → f'.env 1 = c → f'.env 3 = .int .i64 i → f'.env 4 = .int .i32 r → f'.env 5 = .int .i64 k → True := fun _ _ _ _ _ _ _ => trivial
    cases hl : lt1 b i with
    | none =>
      simp only [sp, hl, Prod.mk.injEq] at hr
      obtain ⟨rfl, rfl⟩ := hr
      simp [lt1V]
      refine cw_seq (cw_seq (cw_reg ?_))
      simp [rwp, rwp1, wantG]
      refine cw_cond (t := true) (by simp) (cw_reg ?_)
      simp [rwp, rwp1, wantG]
      refine cw_seq (cw_seq (cw_reg ?_))
      simp [rwp, rwp1, wantG, e0, e3]
      refine Y.mono _ _ _ _ _ ?_ hyl
      rintro o σ' (⟨rfl, hj'⟩ | ⟨rfl, hj'⟩)
      · simp
        refine cw_cond (t := false) (by simp) (cw_skip ?_)
        refine cw_reg ?_
        simp [rwp, rwp1, wantG, e0, e1, e3, hd]
        exact ⟨b.length - (i + 1), by omega, i + 1, rfl, by omega, by simpa using w1, m + 1, by simpa using hxm.2, by simp at hml; omega, hj'⟩
      · simp
        refine cw_cond (t := true) (by simp) (cw_ret ?_)
        simp [Post, DLv, hd]
        exact .inr hj'
    | some rn =>
      obtain ⟨r', n'⟩ := rn
      simp only [sp, hl, Prod.mk.injEq] at hr
      obtain ⟨rfl, rfl⟩ := hr
      simp [lt1V]
      refine cw_seq (cw_seq (cw_reg ?_))
      simp [rwp, rwp1, wantG]
      refine cw_cond (t := false) (by simp; omega) (cw_skip ?_)
      refine cw_seq (cw_seq (cw_reg ?_))
      simp [rwp, rwp1, wantG, e0, e3]
      refine Y.mono _ _ _ _ _ ?_ hyl
      rintro o σ' (⟨rfl, hj'⟩ | ⟨rfl, hj'⟩)
      · simp
        refine cw_cond (t := false) (by simp) (cw_skip ?_)
        refine cw_reg ?_
        simp [rwp, rwp1, wantG, e0, e1, e3, hd]
        exact ⟨b.length - (i + n'), by omega, i + n', rfl, by omega, by simpa using w1, m + 1, by simpa using hxm.2, by simp at hml; omega, hj'⟩
      · simp
        refine cw_cond (t := true) (by simp) (cw_ret ?_)
        simp [Post, DLv, hd]
        exact .inr hj'
  · refine cw_seq (cw_seq (cw_reg ?_))
    simp [rwp, rwp1, wantG, e3, e1, hc, hv.len]
    refine cw_cond (t := false) (by simp; omega) (cw_exit ?_)
    have hi' : i = b.length := by omega
    simp [Post, DLv, hd]
    rw [lts_end h] at hm
    have := congrArg List.length hm
    simp at this
    obtain rfl : m = (lts b 0).length := by omega
    exact .inl hj
end Go.Proofs.Ytmeelljhimeedaa
