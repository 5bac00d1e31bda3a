/-
The walk over the program's texts, told with what its values say: a part of it. No further condition.
-/
import Derived.Test.YtmkgmjdbgjiehaaDoorAbS
import Derived.IntWalk
namespace Go.Proofs.YtmkgmjdbgjiehaaDoor.Ab
open Go.RowKit
set_option linter.unusedVariables false
set_option linter.unusedSimpArgs false
def elA : V → Nat → V
  | .islc _ es, i => match es[i]? with | some e => .iptr e 0 | none => .any
  | .slc l off _, i => .ptr l (off + i) 0
  | _, _ => .any
def cutV : V → Nat → Nat → V
  | .islc z es, a, b => .islc z ((es.take b).drop a)
  | .slc p off _, a, b => .slc p (off + a) (b - a)
  | v, _, _ => v
def Rd (σ : St) (z : Nat) (v : V) (es : List (List V)) : Prop := cont σ z v = some es
section
variable {σ σ' : St} {z : Nat} {v : V} {es : List (List V)}
theorem Rd.inv (h : Rd σ z v es) : (v = .nils ∧ es = []) ∨ (v = .islc z es) ∨ (∃ l off rows, v = .slc l off es.length ∧ σ.H l = some (.row z rows) ∧ off + es.length ≤ rows.length ∧ es = (rows.drop off).take es.length) := by
  unfold Rd cont at h
  split at h
  · exact .inl ⟨rfl, by simpa using h.symm⟩
  · split at h
    · rename_i hz; simp at h; exact .inr (.inl (by rw [hz, h]))
    · simp at h
  · split at h
    · split at h
      · rename_i l off len _ z' rows hl hc
        simp at h
        have hlen : es.length = len := by rw [← h]; simp; omega
        refine .inr (.inr ⟨l, off, rows, by rw [hlen], by rw [hl, hc.1], by omega, by rw [hlen]; exact h.symm⟩)
      · simp at h
    · simp at h
  · simp at h
theorem Rd.len (h : Rd σ z v es) : lenV v = some (.int .i64 es.length) := by
  rcases h.inv with ⟨rfl, rfl⟩ | rfl | ⟨l, off, rows, rfl, _⟩ <;> rfl
theorem Rd.at (h : Rd σ z v es) {k : IntKind} {i : Nat} (hi : i < es.length) : iaV σ z v (.int k i) = some (elA v i) := by
  rcases h.inv with ⟨rfl, rfl⟩ | rfl | ⟨l, off, rows, rfl, h1, h2, h3⟩
  · simp at hi
  · simp [iaV, elA, hi]
  · simp [iaV, elA, h1, hi]
theorem Rd.ld (h : Rd σ z v es) {i j : Nat} {e : List V} (he : es[i]? = some e) : (faV j (elA v i)).bind (ldV σ) = e[j]? := by
  have hi : i < es.length := (List.getElem?_eq_some_iff.1 he).1
  rcases h.inv with ⟨rfl, rfl⟩ | rfl | ⟨l, off, rows, rfl, h1, h2, h3⟩
  · simp at he
  · simp [elA, he]
  · have : rows[off + i]? = some e := by
      rw [h3, List.getElem?_take, List.getElem?_drop] at he
      simpa [hi] using he
    simp [elA, h1, this]
def celA (v : V) (i j : Nat) : V := (faV j (elA v i)).getD .any
theorem Rd.fa (h : Rd σ z v es) {i j : Nat} (hi : i < es.length) : faV j (elA v i) = some (celA v i j) := by
  rcases h.inv with ⟨rfl, rfl⟩ | rfl | ⟨l, off, rows, rfl, h1, h2, h3⟩
  · simp at hi
  · simp [elA, celA, hi]
  · simp [elA, celA]
theorem Rd.cel (h : Rd σ z v es) {i j : Nat} {e : List V} (he : es[i]? = some e) : ldV σ (celA v i j) = e[j]? := by
  have := h.ld (j := j) he
  rw [h.fa (List.getElem?_eq_some_iff.1 he).1] at this
  exact this
theorem Rd.el (h : Rd σ z v es) {i : Nat} {e : List V} (he : es[i]? = some e) : ldV σ (elA v i) = e[0]? := by
  have := h.cel (j := 0) he
  have h0 : celA v i 0 = elA v i := by
    have hi := (List.getElem?_eq_some_iff.1 he).1
    rcases h.inv with ⟨rfl, rfl⟩ | rfl | ⟨l, off, rows, rfl, h1, h2, h3⟩
    · simp at hi
    · simp [celA, elA, hi]
    · simp [celA, elA]
  rw [h0] at this; exact this
theorem Rd.cut (h : Rd σ z v es) {a b : Nat} (hab : a ≤ b) (hb : b ≤ es.length) : Rd σ z (cutV v a b) ((es.take b).drop a) := by
  rcases h.inv with ⟨rfl, rfl⟩ | rfl | ⟨l, off, rows, rfl, h1, h2, h3⟩
  · simp at hb; subst hb; simp [Rd, cutV, cont]
  · simp [Rd, cutV, cont]
  · unfold Rd cutV cont
    simp only [h1]
    rw [if_pos (⟨trivial, by omega⟩ : True ∧ _)]
    rw [h3, List.take_take, Nat.min_eq_left hb, List.drop_take, List.drop_drop]
theorem Rd.lsl (h : Rd σ z v es) {env : Env} {lo hi : Option Opd} {a b : Nat} (hl : bound env 0 lo = some a) (hh : bound env es.length hi = some b) (hab : a ≤ b) (hb : b ≤ es.length) : lslV env σ z v lo hi = some (cutV v a b) := by
  rcases h.inv with ⟨rfl, rfl⟩ | rfl | ⟨l, off, rows, rfl, h1, h2, h3⟩
  · simp at hb; subst hb
    simp at hab; subst hab
    simp only [List.length_nil] at hh
    simp [lslV, hl, hh, cutV]
  · simp [lslV, hl, hh, cutV, hab, hb]
  · simp only [lslV, hl, hh, cutV, h1, Option.bind_some]
    rw [if_pos ⟨trivial, hab, by omega⟩]
theorem Rd.mono (h : Rd σ z v es) (hH : ∀ l off len, v = .slc l off len → σ'.H l = σ.H l) : Rd σ' z v es := by
  rcases h.inv with ⟨rfl, rfl⟩ | rfl | ⟨l, off, rows, rfl, h1, h2, h3⟩
  · rfl
  · simp [Rd, cont]
  · unfold Rd cont at *
    simp only [hH l off _ rfl]
    exact h
def V.row : V → Option Nat
  | .slc l _ _ => some l
  | _ => none
def Sl (σ : St) (z : Nat) (v : V) (es : List (List V)) : Prop :=
  (v = .nils ∧ es = []) ∨ ∃ l, v = .slc l 0 es.length ∧ σ.H l = some (.row z es)
theorem Sl.rd (h : Sl σ z v es) : Rd σ z v es := by
  rcases h with ⟨rfl, rfl⟩ | ⟨l, rfl, h⟩
  · rfl
  · simp [Rd, cont, h]
theorem Sl.mono (h : Sl σ z v es) (hH : ∀ l, v.row = some l → σ'.H l = σ.H l) : Sl σ' z v es := by
  rcases h with ⟨rfl, rfl⟩ | ⟨l, rfl, h⟩
  · exact .inl ⟨rfl, rfl⟩
  · exact .inr ⟨l, rfl, by rw [hH l rfl]; exact h⟩
theorem srcOf_rd {v : V} {es : List (List V)} (h : Rd σ z v es) : srcOf σ z v = some es := by
  rcases h.inv with ⟨rfl, rfl⟩ | rfl | ⟨l, off, rows, rfl, h1, h2, h3⟩ <;> exact h
def grown (σ : St) (v : V) : St :=
  match v with
  | .slc l _ _ => σ.kill l
  | _ => σ
@[simp] theorem grown_n (σ : St) (v : V) : (grown σ v).n = σ.n := by cases v <;> rfl
@[simp] theorem grown_W (σ : St) (v : V) : (grown σ v).W = σ.W := by cases v <;> rfl
theorem grown_H (σ : St) (v : V) (l : Nat) : (grown σ v).H l = if v.row = some l then none else σ.H l := by
  cases v <;> simp [grown, V.row, eq_comm]
theorem Sl.app (h : Sl σ z v es) {y : V} {ys : List (List V)} (hy : srcOf σ z y = some ys) (hne : ys ≠ []) {bytes : Nat} (hb : (es.length + ys.length) * bytes ≤ reach) (hr : es.length + ys.length ≤ reach) :
    appV σ bytes z v y = some (.slc σ.n 0 (es.length + ys.length), (grown σ v).new (.row z (es ++ ys))) := by
  have hl : 0 < ys.length := List.length_pos_iff.2 hne
  rcases h with ⟨rfl, rfl⟩ | ⟨l, rfl, h⟩
  · simp at hb hr
    simp [appV, hy, hne, hb, hr, grown]
  · simp [appV, hy, hne, hb, hr, h, grown]
    omega
theorem Sl.app0 (h : Sl σ z v es) {y : V} (hy : srcOf σ z y = some []) {bytes : Nat} : appV σ bytes z v y = some (v, σ) := by
  rcases h with ⟨rfl, rfl⟩ | ⟨l, rfl, h⟩ <;> simp [appV, hy]
theorem vT {p : Prop} [Decidable p] (h : p) : V.bool (decide p) = .bool true := by rw [decide_eq_true h]
theorem vF {p : Prop} [Decidable p] (h : ¬ p) : V.bool (decide p) = .bool false := by rw [decide_eq_false h]
theorem u8n {c : UInt8} {n : Nat} (h : n < 256) : ((c.toNat : Int) = n) ↔ c = UInt8.ofNat n := by
  constructor
  · intro e
    apply UInt8.toNat_inj.1
    simp
    omega
  · rintro rfl
    simp
    omega
def Bs (σ : St) (v : V) (s : List UInt8) : Prop := Rd σ 1 v (s.map byteE)
variable {s : List UInt8}
theorem Bs.len (h : Bs σ v s) : lenV v = some (.int .i64 s.length) := by simpa using Rd.len h
theorem Bs.at (h : Bs σ v s) {k : IntKind} {i : Nat} (hi : i < s.length) : iaV σ 1 v (.int k i) = some (elA v i) := Rd.at h (by simpa using hi)
theorem Bs.at0 (h : Bs σ v s) {k : IntKind} (hi : 0 < s.length) : iaV σ 1 v (.int k 0) = some (elA v 0) := h.at (i := 0) hi
theorem Bs.ld (h : Bs σ v s) {i : Nat} {c : UInt8} (hi : s[i]? = some c) : ldV σ (elA v i) = some (.int .u8 c.toNat) := by
  have := Rd.el h (i := i) (e := byteE c) (by simp [hi])
  simpa [byteE] using this
theorem Bs.cut (h : Bs σ v s) {a b : Nat} (hab : a ≤ b) (hb : b ≤ s.length) : Bs σ (cutV v a b) ((s.take b).drop a) := by
  have := Rd.cut h hab (by simpa using hb)
  simpa [Bs] using this
theorem Bs.lsl (h : Bs σ v s) {env : Env} {lo hi : Option Opd} {a b : Nat} (hl : bound env 0 lo = some a) (hh : bound env s.length hi = some b) (hab : a ≤ b) (hb : b ≤ s.length) : lslV env σ 1 v lo hi = some (cutV v a b) :=
  Rd.lsl h hl (by simpa using hh) hab (by simpa using hb)
theorem Bs.lslTo (h : Bs σ v s) {env : Env} {hi : Opd} {b : Nat} {k : IntKind} (hh : hi.ev env = .int k b) (hb : b ≤ s.length) : lslV env σ 1 v none (some hi) = some (cutV v 0 b) :=
  h.lsl (by simp) (by simp [hh]) (by omega) hb
theorem Bs.lslFrom (h : Bs σ v s) {env : Env} {lo : Opd} {a : Nat} {k : IntKind} (hh : lo.ev env = .int k a) (ha : a ≤ s.length) : lslV env σ 1 v (some lo) none = some (cutV v a s.length) :=
  h.lsl (by simp [hh]) (by simp) ha (by omega)
theorem Bs.lslBoth (h : Bs σ v s) {env : Env} {lo hi : Opd} {a b : Nat} {k k' : IntKind} (hl : lo.ev env = .int k a) (hh : hi.ev env = .int k' b) (hab : a ≤ b) (hb : b ≤ s.length) : lslV env σ 1 v (some lo) (some hi) = some (cutV v a b) :=
  h.lsl (by simp [hl]) (by simp [hh]) hab hb
theorem Bs.b2s (h : Bs σ v s) : ((cont σ 1 v).bind fun es => (es.mapM byteOf).map V.str) = some (.str s) := by
  have h' : cont σ 1 v = some (s.map byteE) := h
  rw [h']
  simp only [Option.bind_some]
  have : (s.map byteE).mapM byteOf = some s := by
    clear h h'
    induction s with
    | nil => rfl
    | cons c s ih =>
      have hc : byteOf (byteE c) = some c := by
        simp only [byteE, byteOf]
        rw [if_pos ⟨by omega, by have := c.toNat_lt; omega⟩]
        simp
      simp [List.mapM_cons, hc, ih]
  rw [this]; rfl
theorem Bs.mono (h : Bs σ v s) (hH : ∀ l off len, v = .slc l off len → σ'.H l = σ.H l) : Bs σ' v s := Rd.mono h hH
theorem Rd.scal (h : Rd σ z v es) : v.scal = true := by
  rcases h.inv with ⟨rfl, rfl⟩ | rfl | ⟨l, off, rows, rfl, h1, h2, h3⟩ <;> rfl
theorem Sl.scal (h : Sl σ z v es) : v.scal = true := h.rd.scal
end
section
variable (H : Nat → Option Blk) (n : Nat → Bool)
theorem frzC_pure : ∀ (k : Nat) {v : V}, v.pure = true → frzC H n k v = v
  | 0, v, h => by simp [frzC, h]
  | k + 1, v, h => by
    have ih : ∀ {v : V}, v.pure = true → frzC H n k v = v := fun h => frzC_pure k h
    show frzS H n (frzC H n k) v = v
    cases v <;> (try rfl) <;> (try (simp [V.pure] at h; done))
    case func fn a b =>
      simp only [V.pure, Bool.and_eq_true, List.isEmpty_iff] at h
      obtain ⟨rfl, rfl⟩ := h; rfl
    case iface t v =>
      have hv : v.pure = true := by cases v <;> simp_all [V.pure]
      show V.iface t _ = _
      congr 1
      cases v <;> (try exact ih hv)
      simp [V.pure] at hv
theorem frz_list {vs : List V} (h : ∀ v ∈ vs, v.pure = true) (k : Nat) : vs.map (frzC H n k) = vs := by
  conv => rhs; rw [← List.map_id vs]
  exact List.map_congr_left fun v hv => frzC_pure H n k (h v hv)
theorem frz_rows {es : List (List V)} (h : ∀ e ∈ es, ∀ v ∈ e, v.pure = true) (k : Nat) : es.map (·.map (frzC H n k)) = es := by
  conv => rhs; rw [← List.map_id es]
  exact List.map_congr_left fun e he => frz_list H n (h e he) k
variable (v : V) (vs : List V) (k : IntKind) (i : Int) (b : Bool) (t : List UInt8)
@[simp] theorem frzO_ret : frzO H n (.ret v) = .ret (frzV H n v) := rfl
@[simp] theorem frzO_pan : frzO H n (.panic v) = .panic (frzV H n v) := rfl
@[simp] theorem frzV_int : frzV H n (.int k i) = .int k i := rfl
@[simp] theorem frzV_bool : frzV H n (.bool b) = .bool b := rfl
@[simp] theorem frzV_str : frzV H n (.str t) = .str t := rfl
@[simp] theorem frzV_nilp : frzV H n .nilp = .nilp := rfl
@[simp] theorem frzV_nils : frzV H n .nils = .nils := rfl
@[simp] theorem frzV_islc (z : Nat) (es : List (List V)) : frzV H n (.islc z es) = .islc z es := rfl
@[simp] theorem frzV_slc (l o m : Nat) : frzV H n (.slc l o m) = frzC H n 1099511627776 (.slc l o m) := rfl
@[simp] theorem frzV_ptr (l i j : Nat) : frzV H n (.ptr l i j) = frzC H n 1099511627776 (.ptr l i j) := rfl
@[simp] theorem frzV_agg : frzV H n (.agg vs) = .agg (vs.map (frzC H n 1099511627776)) := rfl
@[simp] theorem frzV_tup : frzV H n (.tup vs) = .tup (vs.map (frzA H n)) := rfl
@[simp] theorem frzV_iface (ty : TypeId) : frzV H n (.iface ty v) = frzC H n 1099511627776 (.iface ty v) := rfl
@[simp] theorem frzA_int : frzA H n (.int k i) = .int k i := rfl
@[simp] theorem frzA_bool : frzA H n (.bool b) = .bool b := rfl
@[simp] theorem frzA_str : frzA H n (.str t) = .str t := rfl
@[simp] theorem frzA_nilp : frzA H n .nilp = .nilp := rfl
@[simp] theorem frzA_nils : frzA H n .nils = .nils := rfl
@[simp] theorem frzA_islc (z : Nat) (es : List (List V)) : frzA H n (.islc z es) = .islc z es := rfl
@[simp] theorem frzA_slc (l o m : Nat) : frzA H n (.slc l o m) = frzC H n 1099511627776 (.slc l o m) := rfl
@[simp] theorem frzA_ptr (l i j : Nat) : frzA H n (.ptr l i j) = frzC H n 1099511627776 (.ptr l i j) := rfl
@[simp] theorem frzA_agg : frzA H n (.agg vs) = .agg (vs.map (frzC H n 1099511627776)) := rfl
@[simp] theorem frzC_int (m : Nat) : frzC H n (m + 1) (.int k i) = .int k i := rfl
@[simp] theorem frzC_bool (m : Nat) : frzC H n (m + 1) (.bool b) = .bool b := rfl
@[simp] theorem frzC_str (m : Nat) : frzC H n (m + 1) (.str t) = .str t := rfl
@[simp] theorem frzC_nilp (m : Nat) : frzC H n (m + 1) .nilp = .nilp := rfl
@[simp] theorem frzC_nils (m : Nat) : frzC H n (m + 1) .nils = .nils := rfl
@[simp] theorem frzC_islc (m z : Nat) (es : List (List V)) : frzC H n (m + 1) (.islc z es) = .islc z es := rfl
@[simp] theorem frzC_iptr (m j : Nat) (es : List V) : frzC H n (m + 1) (.iptr es j) = .iptr es j := rfl
theorem frz_slc {l off len z : Nat} {es : List (List V)} (m : Nat) (hl : n l = false) (hH : H l = some (.row z es)) (ho : off + len ≤ es.length) (hp : ∀ e ∈ es, ∀ v ∈ e, v.pure = true) : frzC H n (m + 1) (.slc l off len) = .islc z ((es.drop off).take len) := by
  show frzS H n (frzC H n m) (.slc l off len) = _
  have hp' : ∀ e ∈ (es.drop off).take len, ∀ v ∈ e, v.pure = true := fun e he => hp e (List.mem_of_mem_drop (List.mem_of_mem_take he))
  simp only [frzS, hl, hH, frz_rows H n hp' m]
  rw [if_neg (by simp), if_pos ⟨ho, List.all_eq_true.2 fun e he => List.all_eq_true.2 fun v hv => hp' e he v hv⟩]
theorem frz_old {l off len : Nat} (m : Nat) (hl : n l = true) : frzC H n (m + 1) (.slc l off len) = .slc l off len := by
  show frzS H n (frzC H n m) (.slc l off len) = _
  simp [frzS, hl]
theorem frz_oldp {l i j : Nat} (m : Nat) (hl : n l = true) : frzC H n (m + 1) (.ptr l i j) = .ptr l i j := by
  show frzS H n (frzC H n m) (.ptr l i j) = _
  simp [frzS, hl]
end
section
variable {P : Program} {E : En P} {k : FuncId} {fd : FD} {vs : List V} {σ σ' : St} {o o' : CO}
theorem ev_cut {r : CO × St} (h : E.T k = some fd) (hl : vs.length ≤ fd.nt) (hz : fd.fz = .cut) (hr : run E false (.cut σ :: fd.res) [.d fd.body] ⟨envOf vs, []⟩ σ = some r) : ev E k vs σ = some r := by
  rw [ev_eq h hl, show headR fd σ = .cut σ :: fd.res by simp [headR, hz], hr]; simp [cutR, hz]
theorem cut_pure (hH : ∀ l, l < σ.n → σ'.H l = σ.H l) (hW : σ'.W = σ.W) (ho : frzO σ'.H (fun l => decide (l < σ.n)) o = o') : cutR .all σ (o, σ') = (o', σ) := by
  simp [cutR, frz_same hH hW, ho]
theorem cut_set {p : Nat} {b : Blk} (hp : p < σ.n)
    (hb : (σ'.H p).map (frzB σ'.H fun l => decide (l < σ.n)) = some b) (hH : ∀ l, l < σ.n → l ≠ p → σ'.H l = σ.H l) (hW : σ'.W = σ.W) (hb' : σ'.H p = σ.H p → σ.H p = some b)
    (ho : frzO σ'.H (fun l => decide (l < σ.n)) o = o') : cutR .all σ (o, σ') = (o', σ.set p b) := by
  simp [cutR, frz_set hp hb hH hW hb', ho]
theorem ev_raw (h : E.T k = some fd) (hl : vs.length ≤ fd.nt) (hz : fd.fz = .raw) (hr : run E false fd.res [.d fd.body] ⟨envOf vs, []⟩ σ = some (o, σ')) : ev E k vs σ = some (o, σ') := by
  rw [ev_eq h hl, show headR fd σ = fd.res by simp [headR, hz], hr]; simp [cutR, hz]
theorem ev_pure (h : E.T k = some fd) (hl : vs.length ≤ fd.nt) (hz : fd.fz = .all) (hr : run E false fd.res [.d fd.body] ⟨envOf vs, []⟩ σ = some (o, σ')) (hH : ∀ l, l < σ.n → σ'.H l = σ.H l) (hW : σ'.W = σ.W)
    (ho : frzO σ'.H (fun l => decide (l < σ.n)) o = o') : ev E k vs σ = some (o', σ) := by
  rw [ev_eq h hl, show headR fd σ = fd.res by simp [headR, hz], hr]; simp [cutR, hz, frz_same hH hW, ho]
theorem ev_same (h : E.T k = some fd) (hl : vs.length ≤ fd.nt) (hz : fd.fz = .all) (hr : run E false fd.res [.d fd.body] ⟨envOf vs, []⟩ σ = some (o, σ)) (ho : frzO σ.H (fun l => decide (l < σ.n)) o = o') : ev E k vs σ = some (o', σ) :=
  ev_pure h hl hz hr (fun _ _ => rfl) rfl ho
theorem ev_set {p : Nat} {b : Blk} (h : E.T k = some fd) (hl : vs.length ≤ fd.nt) (hz : fd.fz = .all) (hr : run E false fd.res [.d fd.body] ⟨envOf vs, []⟩ σ = some (o, σ')) (hp : p < σ.n)
    (hb : (σ'.H p).map (frzB σ'.H fun l => decide (l < σ.n)) = some b) (hH : ∀ l, l < σ.n → l ≠ p → σ'.H l = σ.H l) (hW : σ'.W = σ.W) (hb' : σ'.H p = σ.H p → σ.H p = some b)
    (ho : frzO σ'.H (fun l => decide (l < σ.n)) o = o') : ev E k vs σ = some (o', σ.set p b) := by
  rw [ev_eq h hl, show headR fd σ = fd.res by simp [headR, hz], hr]; simp [cutR, hz, frz_set hp hb hH hW hb', ho]
end
end Go.Proofs.YtmkgmjdbgjiehaaDoor.Ab
namespace Go.Proofs.YtmkgmjdbgjiehaaDoor.Ab
open Go.RowKit
set_option linter.unusedVariables false
set_option linter.unusedSimpArgs false
section
variable {P : Program} {E : En P} {dd : Bool} {rs : List RC} {s : List SE}
theorem r_loopU {ts : List Nat} {B b : D} {f : Fr} {σ : St} (h : B = b) : run E dd rs (.d (.loop ts B) :: s) f σ = run E dd rs (.d b :: .lp ts B :: s) (kp ts f) σ := by rw [r_loop, h]
def Lands (E : En P) (dd : Bool) (rs : List RC) (s : List SE) (Q : Fr → St → Prop) (r : Option (CO × St)) : Prop := ∃ f' σ', r = run E dd rs s f' σ' ∧ Q f' σ'
theorem Lands.to {C : Option (CO × St) → Prop} {Q : Fr → St → Prop} {r : Option (CO × St)} (h : Lands E dd rs s Q r) (k : ∀ f' σ', Q f' σ' → C (run E dd rs s f' σ')) : C r := by
  obtain ⟨f', σ', rfl, h⟩ := h; exact k f' σ' h
theorem Lands.here {Q : Fr → St → Prop} {f : Fr} {σ : St} (h : Q f σ) : Lands E dd rs s Q (run E dd rs s f σ) := ⟨f, σ, rfl, h⟩
theorem Lands.mono {Q Q' : Fr → St → Prop} {r : Option (CO × St)} (h : Lands E dd rs s Q r) (k : ∀ f' σ', Q f' σ' → Q' f' σ') : Lands E dd rs s Q' r := by
  obtain ⟨f', σ', e, h⟩ := h; exact ⟨f', σ', e, k f' σ' h⟩
section
variable {f : Fr} {σ : St} {e e' : Env} {ds : List AD} {m : Nat} {ps : List Nat} {asg body : D} {gf : FuncId} {cap : List V} {ky : V} {all : List (List V)} {i : Nat} {x : List V}
theorem rng_in (g : Opd) (hn : noRnd s = true) (hg : g.ev f.env = .func (.func gf) [] cap) (hI : E.It gf cap σ = some (ky, all)) :
    run E dd rs (.d (.rng g ps asg body) :: s) f σ = run E dd rs (.rnd f.env f.ds σ.n ps asg body gf cap ky all 0 :: s) f (σ.new (.lp .busy)) := r_rng E dd rs s f σ g ps asg body hn hg hI
theorem rnd_end (h : σ.H m = some (.lp .busy)) (hI : E.It gf cap (σ.set m (.lp .ready)) = some (ky, all)) (hi : all[i]? = none) :
    run E dd rs (.rnd e ds m ps asg body gf cap ky all i :: s) f σ = run E dd rs s ⟨e, .coll :: ds⟩ (σ.kill m) := r_rnd_end E dd rs s f σ h hI hi
theorem rnd_at {b : D} (hb : body = b) (h : σ.H m = some (.lp .busy)) (hI : E.It gf cap (σ.set m (.lp .ready)) = some (ky, all)) (hi : all[i]? = some x) (hl : x.length = ps.length) (he : asgM asg (setPs e ps x) = some e') :
    run E dd rs (.rnd e ds m ps asg body gf cap ky all i :: s) f σ = run E dd rs (.d b :: .rnd e ds m ps asg body gf cap ky all (i + 1) :: s) ⟨e', []⟩ σ := by
  rw [← hb, r_rnd_at E dd rs s f σ h hI hi hl (asgM_E _ _ _ _ he) (by simp [St.set, upd]), set_back h]
end
open Classical in
theorem r_cks {f : Fr} {σ : St} (q : RI) (qs : List RI) : run E dd rs (.ck (q :: qs) :: s) f σ = if chk q f σ then run E dd rs (.ck qs :: s) f σ else none := by
  rw [run_eq]; show nxF E (run E) dd rs (stCk q qs s f σ) = _
  unfold stCk; split <;> rfl
theorem chk_x {f : Fr} {σ : St} (d : Nat) (i : Ins) : chk ⟨some d, none, i⟩ f σ = (evI f.env σ i = some (f.env d, σ)) := rfl
theorem chk_n {f : Fr} {σ : St} (g : Option (Nat × Bool)) (i : Ins) : chk ⟨none, g, i⟩ f σ = True := rfl
end
structure Gr (σ σ' : St) : Prop where
  n : σ.n ≤ σ'.n
  H : ∀ l, l < σ.n → σ'.H l = σ.H l
  W : σ'.W = σ.W
section
variable {σ σ' τ : St} {z : Nat} {v : V} {es : List (List V)} {s : List UInt8}
theorem Gr.refl (σ : St) : Gr σ σ := ⟨Nat.le_refl _, fun _ _ => rfl, rfl⟩
theorem Gr.trans (h : Gr σ σ') (k : Gr σ' τ) : Gr σ τ := ⟨Nat.le_trans h.n k.n, fun l hl => (k.H l (Nat.lt_of_lt_of_le hl h.n)).trans (h.H l hl), k.W.trans h.W⟩
theorem Gr.new (h : Gr σ σ') (b : Blk) : Gr σ (σ'.new b) := ⟨by have := h.n; simp; omega, fun l hl => by have := h.n; simp [show l ≠ σ'.n by omega, h.H l hl], h.W⟩
theorem Gr.set (h : Gr σ σ') {l : Nat} (hl : σ.n ≤ l) (b : Blk) : Gr σ (σ'.set l b) := ⟨h.n, fun k hk => by simp [show k ≠ l by omega, h.H k hk], h.W⟩
theorem Gr.kill (h : Gr σ σ') {l : Nat} (hl : σ.n ≤ l) : Gr σ (σ'.kill l) := ⟨h.n, fun k hk => by simp [show k ≠ l by omega, h.H k hk], h.W⟩
theorem Gr.grown (h : Gr σ σ') (hv : ∀ l, v.row = some l → σ.n ≤ l) : Gr σ (grown σ' v) := by
  cases v <;> (try exact h)
  exact h.kill (hv _ rfl)
theorem Gr.turn (h : Gr σ σ') {p : Nat} (hp : σ.n ≤ p) (hn : τ.n = σ'.n) (hW : τ.W = σ'.W) (hH : ∀ l, l ≠ p → τ.H l = σ'.H l) : Gr σ τ :=
  ⟨by rw [hn]; exact h.n, fun l hl => (hH l (by omega)).trans (h.H l hl), hW.trans h.W⟩
theorem Bs.str (h : Bs σ v s) : b2sV σ v = some (.str s) := Bs.b2s h
def V.old (σ : St) (v : V) : Prop := ∀ l off len, v = .slc l off len → l < σ.n
theorem Rd.gr (h : Rd σ z v es) (g : Gr σ σ') (ho : v.old σ) : Rd σ' z v es := h.mono fun l off len e => g.H l (ho l off len e)
theorem Bs.gr (h : Bs σ v s) (g : Gr σ σ') (ho : v.old σ) : Bs σ' v s := Rd.gr h g ho
theorem V.old_islc (z : Nat) (es : List (List V)) : (V.islc z es).old σ := fun _ _ _ h => by simp at h
theorem V.old_nils : (V.nils).old σ := fun _ _ _ h => by simp at h
theorem V.old_cut (h : v.old σ) (a b : Nat) : (cutV v a b).old σ := by
  cases v <;> first | exact h | (intro l off len e; simp [cutV] at e; try exact h _ _ _ (by rw [e.1]) )
theorem V.old_gr (h : v.old σ) (g : Gr σ σ') : v.old σ' := fun l off len e => Nat.lt_of_lt_of_le (h l off len e) g.n
theorem Rd.lda (h : Rd σ z v es) {i m : Nat} {e : List V} (he : es[i]? = some e) (hm : m = e.length) : ldaV σ m (elA v i) = some (.agg e) := by
  subst hm
  have hi : i < es.length := (List.getElem?_eq_some_iff.1 he).1
  rcases h.inv with ⟨rfl, rfl⟩ | rfl | ⟨l, off, rows, rfl, h1, h2, h3⟩
  · simp at he
  · simp [elA, he]
  · have : rows[off + i]? = some e := by
      rw [h3, List.getElem?_take, List.getElem?_drop] at he
      simpa [hi] using he
    simp [elA, h1, this]
def told (z : Nat) (v : V) (es : List (List V)) : V := match v with
  | .nils => .nils
  | _ => .islc z es
theorem Sl.frz (h : Sl σ z v es) {n : Nat → Bool} (hn : ∀ l, v.row = some l → n l = false) (hp : ∀ e ∈ es, ∀ u ∈ e, u.pure = true) (m : Nat) : frzC σ.H n (m + 1) v = told z v es := by
  rcases h with ⟨rfl, rfl⟩ | ⟨l, rfl, h⟩
  · rfl
  · rw [frz_slc _ _ m (hn l rfl) h (by omega) hp]
    simp [told]
theorem told_is {z : Nat} {v : V} {es : List (List V)} (h : v ≠ .nils) : told z v es = .islc z es := by
  cases v <;> first | rfl | exact absurd rfl h
theorem told_rd (h : Sl σ z v es) : Rd σ' z (told z v es) es := by
  rcases h with ⟨rfl, rfl⟩ | ⟨l, rfl, h⟩
  · rfl
  · simp [told, Rd, cont]
structure Own (σ0 σ : St) (z : Nat) (v : V) (es : List (List V)) : Prop where
  sl : Sl σ z v es
  gr : Gr σ0 σ
  lo : ∀ k, v.row = some k → σ0.n ≤ k ∧ k < σ.n
theorem Own.rd {σ0 σ : St} (h : Own σ0 σ z v es) : Rd σ z v es := h.sl.rd
theorem Own.old {σ0 σ : St} (h : Own σ0 σ z v es) : v.old σ := fun l off len e => (h.lo l (by rw [e]; rfl)).2
theorem Own.nils (σ : St) (z : Nat) : Own σ σ z .nils [] := ⟨.inl ⟨rfl, rfl⟩, .refl _, fun k h => by simp [V.row] at h⟩
theorem Own.new {σ0 σ : St} (g : Gr σ0 σ) (z : Nat) (es : List (List V)) {n : Nat} (hn : n = es.length) : Own σ0 (σ.new (.row z es)) z (.slc σ.n 0 n) es :=
  ⟨.inr ⟨σ.n, by rw [hn], by simp⟩, g.new _, fun k h => by simp [V.row] at h; subst h; exact ⟨g.n, by simp⟩⟩
theorem Own.step {σ0 σ τ : St} (h : Own σ0 σ z v es) (g : Gr σ τ) : Own σ0 τ z v es :=
  ⟨h.sl.mono fun l hl => g.H l (h.lo l hl).2, h.gr.trans g, fun k hk => ⟨(h.lo k hk).1, Nat.lt_of_lt_of_le (h.lo k hk).2 g.n⟩⟩
theorem Own.app {σ0 σ : St} (h : Own σ0 σ z v es) {y : V} {ys : List (List V)} (hy : srcOf σ z y = some ys) (hne : ys ≠ []) {bytes : Nat} (hb : (es.length + ys.length) * bytes ≤ reach) (hr : es.length + ys.length ≤ reach) :
    appV σ bytes z v y = some (.slc σ.n 0 (es.length + ys.length), (grown σ v).new (.row z (es ++ ys))) ∧ Own σ0 ((grown σ v).new (.row z (es ++ ys))) z (.slc σ.n 0 (es.length + ys.length)) (es ++ ys) := by
  refine ⟨h.sl.app hy hne hb hr, ?_⟩
  have := Own.new (σ0 := σ0) (σ := grown σ v) (h.gr.grown fun l hl => (h.lo l hl).1) z (es ++ ys) (n := es.length + ys.length) (by simp)
  simpa using this
theorem Own.base {σ0 σ1 σ : St} (h : Own σ1 σ z v es) (g : Gr σ0 σ1) : Own σ0 σ z v es := ⟨h.sl, g.trans h.gr, fun k hk => ⟨Nat.le_trans g.n (h.lo k hk).1, (h.lo k hk).2⟩⟩
theorem Own.appA {σ0 σ : St} (h : Own σ0 σ z v es) {y : V} {ys : List (List V)} (hy : srcOf σ z y = some ys) {bytes : Nat} (hb : (es.length + ys.length) * bytes ≤ reach) (hr : es.length + ys.length ≤ reach) :
    ∃ u τ, appV σ bytes z v y = some (u, τ) ∧ Own σ0 τ z u (es ++ ys) ∧ (v ≠ .nils → u ≠ .nils) := by
  by_cases hne : ys = []
  · subst hne
    exact ⟨v, σ, h.sl.app0 hy, by simpa using h, id⟩
  · obtain ⟨h1, h2⟩ := h.app hy hne hb hr
    exact ⟨_, _, h1, h2, fun _ => by simp⟩
theorem Own.app1 {σ0 σ : St} (h : Own σ0 σ z v es) (ys : List (List V)) (hne : ys ≠ []) {bytes : Nat} (hb : (es.length + ys.length) * bytes ≤ reach) (hr : es.length + ys.length ≤ reach) {n : Nat} (hn : n = ys.length) :
    ∃ u τ, appV (σ.new (.row z ys)) bytes z v (.slc σ.n 0 n) = some (u, τ) ∧ Own σ0 τ z u (es ++ ys) := by
  subst hn
  have h' := h.step ((Gr.refl σ).new (.row z ys))
  exact ⟨_, _, h'.app (by simp [srcOf, cont]) hne hb hr⟩
theorem Own.app1N {σ0 σ : St} (h : Own σ0 σ z v es) (ys : List (List V)) (hne : ys ≠ []) {bytes : Nat} (hb : (es.length + ys.length) * bytes ≤ reach) (hr : es.length + ys.length ≤ reach) {n : Nat} (hn : n = ys.length) :
    ∃ u τ, appV (σ.new (.row z ys)) bytes z v (.slc σ.n 0 n) = some (u, τ) ∧ Own σ0 τ z u (es ++ ys) ∧ (∀ k, u.row = some k → σ.n ≤ k) ∧ σ.n ≤ τ.n ∧ (∀ l, l < σ.n → v.row ≠ some l → τ.H l = σ.H l) := by
  subst hn
  have h' := h.step ((Gr.refl σ).new (.row z ys))
  obtain ⟨h1, h2⟩ := h'.app (y := .slc σ.n 0 ys.length) (ys := ys) (by simp [srcOf, cont]) hne hb hr
  refine ⟨_, _, h1, h2, fun k hk => ?_, by simp; omega, fun l hl hv => ?_⟩
  · simp [V.row] at hk; omega
  · have e1 : l ≠ (grown (σ.new (.row z ys)) v).n := by simp; omega
    simp only [new_H, if_neg e1, grown_H, if_neg hv]
    simp [show l ≠ σ.n by omega]
theorem Own.frz {σ0 σ : St} (h : Own σ0 σ z v es) (hp : ∀ e ∈ es, ∀ u ∈ e, u.pure = true) (m : Nat) : frzC σ.H (fun l => decide (l < σ0.n)) (m + 1) v = told z v es :=
  h.sl.frz (fun l hl => by have := (h.lo l hl).1; simp; omega) hp m
theorem Own.frzV {σ0 σ : St} (h : Own σ0 σ z v es) (hp : ∀ e ∈ es, ∀ u ∈ e, u.pure = true) : frzV σ.H (fun l => decide (l < σ0.n)) v = told z v es := by
  have := h.frz hp 1099511627775
  rcases h.sl with ⟨rfl, rfl⟩ | ⟨l, rfl, h'⟩
  · rfl
  · simpa using this
theorem Own.told {σ0 σ τ : St} (h : Own σ0 σ z v es) : Rd τ z (told z v es) es := told_rd h.sl
def Tl (z : Nat) (v : V) (es : List (List V)) : Prop := (v = .nils ∧ es = []) ∨ v = .islc z es
theorem Tl.rd {σ : St} (h : Tl z v es) : Rd σ z v es := by
  rcases h with ⟨rfl, rfl⟩ | rfl
  · rfl
  · simp [Rd, cont]
theorem Tl.old {σ : St} (h : Tl z v es) : v.old σ := by
  rcases h with ⟨rfl, _⟩ | rfl
  · exact V.old_nils
  · exact V.old_islc _ _
theorem Tl.nils (z : Nat) : Tl z .nils [] := .inl ⟨rfl, rfl⟩
theorem Tl.islc (z : Nat) (es : List (List V)) : Tl z (.islc z es) es := .inr rfl
theorem Tl.frz (h : Tl z v es) (H : Nat → Option Blk) (n : Nat → Bool) (m : Nat) : frzC H n (m + 1) v = v := by
  rcases h with ⟨rfl, _⟩ | rfl <;> rfl
theorem Tl.frzV (h : Tl z v es) (H : Nat → Option Blk) (n : Nat → Bool) : frzV H n v = v := by
  rcases h with ⟨rfl, _⟩ | rfl <;> rfl
theorem Tl.scal (h : Tl z v es) : v.scal = true := by rcases h with ⟨rfl, _⟩ | rfl <;> rfl
end
section
variable {P : Program} {E : En P} {k : FuncId} {fd : FD} {vs : List V} {σ σ' : St} {o o' : CO}
def St.add (σ : St) (p : Nat) (b : Blk) : St := ⟨fun l => if l = p then some b else σ.H l, p + 1, σ.W⟩
@[simp] theorem add_n {p : Nat} (b : Blk) : (σ.add p b).n = p + 1 := rfl
@[simp] theorem add_W {p : Nat} (b : Blk) : (σ.add p b).W = σ.W := rfl
@[simp] theorem add_H {p : Nat} (b : Blk) (l : Nat) : (σ.add p b).H l = if l = p then some b else σ.H l := rfl
theorem ev_own0 (h : E.T k = some fd) (hl : vs.length ≤ fd.nt) (hz : fd.fz = .own) (hr : run E false fd.res [.d fd.body] ⟨envOf vs, []⟩ σ = some (o, σ')) (hp : ptrs o = []) (hH : ∀ l, l < σ.n → σ'.H l = σ.H l) (hW : σ'.W = σ.W)
    (ho : frzO σ'.H (fun l => decide (l < σ.n)) o = o') : ev E k vs σ = some (o', σ) := by
  rw [ev_eq h hl, show headR fd σ = fd.res by simp [headR, hz], hr]
  simp only [cutR, hz, hp, Option.map_some, List.contains_nil, Bool.or_false, List.foldl_nil, frz_same hH hW, ho]
end
end Go.Proofs.YtmkgmjdbgjiehaaDoor.Ab
namespace Go.Proofs.YtmkgmjdbgjiehaaDoor.Ab
set_option linter.unusedVariables false
structure TK where
  kind : Nat
  txt : List UInt8
  fr : Nat
def TK.to (t : TK) : Nat := t.fr + t.txt.length
inductive Ex where
  | mk (kind : Nat) (name : List UInt8) (num : Nat) (args : List Ex) (fr to : Nat)
def Ex.kind : Ex → Nat | .mk k _ _ _ _ _ => k
def Ex.name : Ex → List UInt8 | .mk _ n _ _ _ _ => n
def Ex.num : Ex → Nat | .mk _ _ n _ _ _ => n
def Ex.args : Ex → List Ex | .mk _ _ _ l _ _ => l
def Ex.fr : Ex → Nat | .mk _ _ _ _ a _ => a
def Ex.to : Ex → Nat | .mk _ _ _ _ _ b => b
structure Ty where
  base : Nat
  len : Nat
  pred : Option Ex
  fr : Nat
  to : Nat
structure Pm where
  name : List UInt8
  ty : Ty
  fr : Nat
  to : Nat
structure It where
  kind : Nat
  pub : Bool
  name : List UInt8
  fr : Nat
  to : Nat
  params : List Pm
  result : Ty
  body : Ex
inductive Rs (α : Type) where
  | ok (a : α) (r : List TK)
  | bad (fr to e : Nat) (r : List TK)
  | off
def Rs.bind {α β : Type} : Rs α → (α → List TK → Rs β) → Rs β
  | .ok a r, f => f a r
  | .bad a b e r, _ => .bad a b e r
  | .off, _ => .off
@[simp] theorem Rs.bind_ok {α β : Type} (a : α) (r : List TK) (f : α → List TK → Rs β) : (Rs.ok a r).bind f = f a r := rfl
@[simp] theorem Rs.bind_bad {α β : Type} (a b e : Nat) (r : List TK) (f : α → List TK → Rs β) : (Rs.bad a b e r : Rs α).bind f = .bad a b e r := rfl
@[simp] theorem Rs.bind_off {α β : Type} (f : α → List TK → Rs β) : (Rs.off : Rs α).bind f = .off := rfl
def isT (s : List UInt8) : List TK → Bool
  | [] => false
  | t :: _ => (t.kind == 2 || t.kind == 4) && t.txt == s
def takeT (s : List UInt8) : List TK → Option (List TK)
  | [] => none
  | t :: r => if isT s (t :: r) = true then some r else none
def missT {α : Type} : List TK → Rs α
  | [] => .off
  | t :: r => .bad t.fr t.to (if t.kind = 0 then 11 else 21) (t :: r)
def needT {α : Type} (ts : List TK) (x : Rs α) : Rs α := match ts with
  | [] => .off
  | _ :: _ => x
def wantT (s : List UInt8) (ts : List TK) : Rs Unit :=
  match takeT s ts with
  | some r => .ok () r
  | none => missT ts
def nameT : List TK → Rs TK
  | [] => .off
  | t :: r => if t.kind = 1 then .ok t r else missT (t :: r)
def numD (s : List UInt8) : Nat := s.foldl (fun n c => n * 10 + (c.toNat - 48)) 0
def wellD : List UInt8 → Bool
  | [] => false
  | c :: s => (c :: s).all (fun c => decide (48 ≤ c.toNat ∧ c.toNat ≤ 57)) && !(c.toNat == 48 && decide (0 < s.length))
def placesT : List TK → Rs Nat
  | [] => .off
  | t :: r => if t.kind = 3 then (if wellD t.txt = true ∧ numD t.txt ≤ 1000000 then .ok (numD t.txt) r else .bad t.fr t.to 3 (t :: r)) else missT (t :: r)
def toT (L r : List TK) : Nat := match L[L.length - r.length - 1]? with
  | some t => t.to
  | none => 0
def fewT (c : Option Nat) (n : Nat) : Bool := match c with
  | none => false
  | some k => decide (n < k)
def manyT (c : Option Nat) (l : List Ex) : Option Ex := match c with
  | none => none
  | some k => l[k]?
def signK (lv : Nat) (s : List UInt8) : Nat :=
  match lv with
  | 0 => if s = [111, 114] then 20 else 0
  | 1 => if s = [97, 110, 100] then 19 else 0
  | 2 => if s = [61] then 13 else if s = [33, 61] then 14 else if s = [60] then 15 else if s = [60, 61] then 16 else if s = [62] then 17 else if s = [62, 61] then 18 else 0
  | 3 => if s = [43] then 8 else if s = [45] then 9 else 0
  | 4 => if s = [42] then 10 else if s = [47] then 11 else if s = [37] then 12 else 0
  | _ => 0
def levelT (lv : Nat) (t : TK) : Nat := if t.kind = 4 ∨ t.kind = 2 then signK lv t.txt else 0
section
variable (M : Nat) (L : List TK)
mutual
def exprT : Nat → Nat → List TK → Rs Ex
  | 0, _, _ => .off
  | n + 1, d, ts =>
    match ts with
    | [] => .off
    | t :: r => if M < d + 1 then .bad t.fr t.to 13 (t :: r) else
      match takeT [108, 101, 116] (t :: r) with
      | some r1 => (nameT r1).bind fun nm r2 => (wantT [61] r2).bind fun _ r3 => (exprT n (d + 1) r3).bind fun a r4 => (wantT [105, 110] r4).bind fun _ r5 => (exprT n (d + 1) r5).bind fun b r6 => .ok (.mk 21 nm.txt 0 [a, b] t.fr (toT L r6)) r6
      | none =>
        match takeT [105, 102] (t :: r) with
        | some r1 => (exprT n (d + 1) r1).bind fun a r2 => (wantT [116, 104, 101, 110] r2).bind fun _ r3 => (exprT n (d + 1) r3).bind fun b r4 => (wantT [101, 108, 115, 101] r4).bind fun _ r5 => (exprT n (d + 1) r5).bind fun c r6 => .ok (.mk 22 [] 0 [a, b, c] t.fr (toT L r6)) r6
        | none =>
          match takeT [97, 115, 115, 101, 114, 116] (t :: r) with
          | some r1 => (exprT n (d + 1) r1).bind fun a r2 => (wantT [105, 110] r2).bind fun _ r3 => (exprT n (d + 1) r3).bind fun b r4 => .ok (.mk 23 [] 0 [a, b] t.fr (toT L r4)) r4
          | none => rowT n 0 (d + 1) (t :: r)
def rowT : Nat → Nat → Nat → List TK → Rs Ex
  | 0, _, _, _ => .off
  | n + 1, lv, d, ts =>
    if lv = 5 then unaryT n d ts else
    match ts with
    | [] => .off
    | t :: r => (rowT n (lv + 1) d (t :: r)).bind fun a r2 => loopT n lv d t.fr a r2
def loopT : Nat → Nat → Nat → Nat → Ex → List TK → Rs Ex
  | 0, _, _, _, _, _ => .off
  | n + 1, lv, d, fr, a, ts =>
    match ts with
    | [] => .off
    | t :: r => if levelT lv t = 0 then .ok a (t :: r) else (rowT n (lv + 1) d r).bind fun b r2 =>
      if lv = 2 then .ok (.mk (levelT lv t) [] 0 [a, b] fr (toT L r2)) r2 else loopT n lv d fr (.mk (levelT lv t) [] 0 [a, b] fr (toT L r2)) r2
def unaryT : Nat → Nat → List TK → Rs Ex
  | 0, _, _ => .off
  | n + 1, d, ts =>
    match ts with
    | [] => .off
    | t :: r => if M < d + 1 then .bad t.fr t.to 13 (t :: r) else
      match takeT [45] (t :: r) with
      | some r1 => (unaryT n (d + 1) r1).bind fun a r2 => .ok (.mk 6 [] 0 [a] t.fr (toT L r2)) r2
      | none =>
        match takeT [110, 111, 116] (t :: r) with
        | some r1 => (unaryT n (d + 1) r1).bind fun a r2 => .ok (.mk 7 [] 0 [a] t.fr (toT L r2)) r2
        | none => atomT n (d + 1) (t :: r)
def atomT : Nat → Nat → List TK → Rs Ex
  | 0, _, _ => .off
  | n + 1, d, ts =>
    match ts with
    | [] => .off
    | t :: r =>
      if t.kind = 3 then (if wellD t.txt = true then .ok (.mk 1 [] (numD t.txt) [] t.fr t.to) r else .bad t.fr t.to 6 (t :: r))
      else if t.kind = 1 then
        needT r (if isT [40] r = true then (argsT n none d r).bind fun l r2 => .ok (.mk 5 t.txt 0 l t.fr (toT L r2)) r2 else .ok (.mk 4 t.txt 0 [] t.fr t.to) r)
      else match takeT [118] (t :: r) with
      | some r1 => .ok (.mk 4 [118] 0 [] t.fr t.to) r1
      | none => match takeT [116, 114, 117, 101] (t :: r) with
        | some r1 => .ok (.mk 2 [] 0 [] t.fr t.to) r1
        | none => match takeT [102, 97, 108, 115, 101] (t :: r) with
          | some r1 => .ok (.mk 3 [] 0 [] t.fr t.to) r1
          | none => match takeT [40] (t :: r) with
            | some r1 => (exprT n d r1).bind fun e r2 => (wantT [41] r2).bind fun _ r3 => .ok e r3
            | none => arrT n d t.fr (t :: r)
def arrT : Nat → Nat → Nat → List TK → Rs Ex
  | 0, _, _, _ => .off
  | n + 1, d, fr, ts =>
    match takeT [103, 101, 116] ts with
    | some r1 => (argsT n (some 2) d r1).bind fun l r2 => .ok (.mk 24 [] 0 l fr (toT L r2)) r2
    | none => match takeT [115, 101, 116] ts with
      | some r1 => (argsT n (some 3) d r1).bind fun l r2 => .ok (.mk 25 [] 0 l fr (toT L r2)) r2
      | none => match takeT [108, 101, 110] ts with
        | some r1 => (argsT n (some 1) d r1).bind fun l r2 => .ok (.mk 26 [] 0 l fr (toT L r2)) r2
        | none => match takeT [102, 105, 108, 108] ts with
          | some r1 => (wantT [40] r1).bind fun _ r2 => (placesT r2).bind fun k r3 => (wantT [44] r3).bind fun _ r4 => (exprT n d r4).bind fun a r5 => (wantT [41] r5).bind fun _ r6 => .ok (.mk 27 [] k [a] fr (toT L r6)) r6
          | none => missT ts
def argsT : Nat → Option Nat → Nat → List TK → Rs (List Ex)
  | 0, _, _, _ => .off
  | n + 1, c, d, ts => (wantT [40] ts).bind fun _ r1 => (argT n c d [] r1).bind fun l r2 =>
    match manyT c l with
    | some e => .bad e.fr e.to 21 r2
    | none => (wantT [41] r2).bind fun _ r3 => .ok l r3
def argT : Nat → Option Nat → Nat → List Ex → List TK → Rs (List Ex)
  | 0, _, _, _, _ => .off
  | n + 1, c, d, acc, ts =>
    if (!isT [41] ts || fewT c acc.length) = true then
      (if acc = [] then .ok () ts else wantT [44] ts).bind fun _ r1 => (exprT n d r1).bind fun e r2 =>
        if 6 < acc.length + 1 then .bad e.fr e.to 3 r2 else argT n c d (acc ++ [e]) r2
    else .ok acc ts
end
def typT (n : Nat) (ts : List TK) : Rs Ty :=
  match ts with
  | [] => .off
  | t :: r =>
    (match takeT [105, 110, 116] (t :: r) with
      | some r1 => .ok (1, 0) r1
      | none => match takeT [98, 111, 111, 108] (t :: r) with
        | some r1 => .ok (2, 0) r1
        | none => match takeT [97, 114, 114] (t :: r) with
          | some r1 => (placesT r1).bind fun k r2 => .ok (3, k) r2
          | none => missT (t :: r) : Rs (Nat × Nat)).bind fun b r2 =>
    needT r2 (match takeT [123] r2 with
    | some r3 => (exprT M L n 0 r3).bind fun e r4 => (wantT [125] r4).bind fun _ r5 => .ok ⟨b.1, b.2, some e, t.fr, toT L r5⟩ r5
    | none => .ok ⟨b.1, b.2, none, t.fr, toT L r2⟩ r2)
def qualT : Nat → List Pm → List TK → Rs (List Pm)
  | 0, _, _ => .off
  | n + 1, acc, ts => (nameT ts).bind fun x r1 =>
    if 12 < acc.length + 1 then .bad x.fr x.to 3 r1 else
    needT r1 (match takeT [44] r1 with
    | some r2 => qualT n (acc ++ [⟨x.txt, ⟨1, 0, none, x.fr, x.to⟩, x.fr, x.to⟩]) r2
    | none => .ok (acc ++ [⟨x.txt, ⟨1, 0, none, x.fr, x.to⟩, x.fr, x.to⟩]) r1)
def parsT (m : Nat) : Nat → List Pm → List TK → Rs (List Pm)
  | 0, _, _ => .off
  | n + 1, acc, ts =>
    if isT [41] ts = true then .ok acc ts else
      (if acc = [] then .ok () ts else wantT [44] ts).bind fun _ r1 => (nameT r1).bind fun x r2 => (wantT [58] r2).bind fun _ r3 => (typT M L m r3).bind fun y r4 =>
        if 6 < acc.length + 1 then .bad x.fr x.to 3 r4 else parsT m n (acc ++ [⟨x.txt, y, x.fr, x.to⟩]) r4
structure Hd where
  kind : Nat
  pub : Bool
  nm : TK
  params : List Pm
  result : Ty
def headT (n : Nat) (ts : List TK) : Rs Hd :=
  match takeT [113, 117, 97, 108] ts with
  | some r1 => (nameT r1).bind fun t r2 => (wantT [40] r2).bind fun _ r3 => (qualT n [] r3).bind fun l r4 => (wantT [41] r4).bind fun _ r5 => .ok ⟨2, false, t, l, ⟨2, 0, none, 0, 0⟩⟩ r5
  | none =>
    (match takeT [112, 117, 98] ts with | some r => Rs.ok true r | none => .ok false ts).bind fun p r0 =>
    (wantT [102, 110] r0).bind fun _ r1 => (nameT r1).bind fun t r2 => (wantT [40] r2).bind fun _ r3 => (parsT M L n n [] r3).bind fun l r4 => (wantT [41] r4).bind fun _ r5 => (wantT [45, 62] r5).bind fun _ r6 => (typT M L n r6).bind fun y r7 => .ok ⟨1, p, t, l, y⟩ r7
def itemT (n : Nat) (ts : List TK) : Rs It :=
  (headT M L n ts).bind fun h r1 => (wantT [61] r1).bind fun _ r2 => (exprT M L n 0 r2).bind fun b r3 => (wantT [59] r3).bind fun _ r4 =>
    match r4 with
    | [] => .off
    | t :: r => if t.kind = 0 then .ok ⟨h.kind, h.pub, h.nm.txt, h.nm.fr, h.nm.to, h.params, h.result, b⟩ (t :: r) else .bad t.fr t.to 12 (t :: r)
end
end Go.Proofs.YtmkgmjdbgjiehaaDoor.Ab
namespace Go.Proofs.YtmkgmjdbgjiehaaDoor.Ab
set_option linter.unusedVariables false
def Wk {α : Type} (ts : List TK) (x : Rs α) : Prop := ∀ a r, x = .ok a r → r <:+ ts
def Sh {α : Type} (ts : List TK) (x : Rs α) : Prop := ∀ a r, x = .ok a r → r <:+ ts ∧ r.length < ts.length
section
variable {α β : Type} {ts : List TK} {x : Rs α} {f : α → List TK → Rs β}
theorem Sh.wk (h : Sh ts x) : Wk ts x := fun a r e => (h a r e).1
theorem Wk.mono {ts' : List TK} (h : Wk ts x) (s : ts <:+ ts') : Wk ts' x := fun a r e => (h a r e).trans s
theorem Sh.bind (h : Sh ts x) (k : ∀ a r, x = .ok a r → Wk r (f a r)) : Sh ts (x.bind f) := fun b r e => by
  cases hx : x with
  | ok a r' =>
    rw [hx] at e
    have h1 := h a r' hx
    have h2 := k a r' hx b r e
    exact ⟨h2.trans h1.1, Nat.lt_of_le_of_lt h2.length_le h1.2⟩
  | bad => rw [hx] at e; simp at e
  | off => rw [hx] at e; simp at e
theorem Wk.bind (h : Wk ts x) (k : ∀ a r, x = .ok a r → Wk r (f a r)) : Wk ts (x.bind f) := fun b r e => by
  cases hx : x with
  | ok a r' =>
    rw [hx] at e
    exact (k a r' hx b r e).trans (h a r' hx)
  | bad => rw [hx] at e; simp at e
  | off => rw [hx] at e; simp at e
theorem Wk.ok (a : α) (ts : List TK) : Wk ts (.ok a ts) := fun b r e => by cases e; exact List.suffix_refl _
theorem Wk.off : Wk ts (.off : Rs α) := fun b r e => by cases e
theorem Wk.bad (a b e : Nat) (r : List TK) : Wk ts (.bad a b e r : Rs α) := fun b r e => by cases e
theorem Sh.off : Sh ts (.off : Rs α) := fun b r e => by cases e
theorem Sh.bad (a b e : Nat) (r : List TK) : Sh ts (.bad a b e r : Rs α) := fun b r e => by cases e
theorem Sh.one (a : α) (t : TK) (r : List TK) : Sh (t :: r) (.ok a r) := fun b r' e => by cases e; exact ⟨List.suffix_cons _ _, by simp⟩
end
theorem Sh.tail {α : Type} {t : TK} {r : List TK} {x : Rs α} (h : Sh r x) : Sh (t :: r) x := fun a u e => ⟨(h a u e).1.trans (List.suffix_cons _ _), by have := (h a u e).2; simp; omega⟩
theorem Sh.need {α : Type} {ts u : List TK} {x : Rs α} (h : Sh ts x) : Sh ts (needT u x) := by cases u; exact .off; exact h
theorem Wk.need {α : Type} {ts u : List TK} {x : Rs α} (h : Wk ts x) : Wk ts (needT u x) := by cases u; exact .off; exact h
theorem Sh.miss {α : Type} (ts : List TK) : Sh ts (missT ts : Rs α) := by cases ts <;> intro b r e <;> cases e
theorem takeT_some {s : List UInt8} {ts r : List TK} (h : takeT s ts = some r) : r <:+ ts ∧ r.length < ts.length := by
  cases ts with
  | nil => simp [takeT] at h
  | cons t u =>
    simp only [takeT] at h
    split at h
    · cases h; exact ⟨List.suffix_cons _ _, by simp⟩
    · cases h
theorem Sh.take {α : Type} {s : List UInt8} {ts r : List TK} {x : Rs α} (h : takeT s ts = some r) (k : Wk r x) : Sh ts x := fun a u e => by
  have h1 := takeT_some h
  have h2 := k a u e
  exact ⟨h2.trans h1.1, Nat.lt_of_le_of_lt h2.length_le h1.2⟩
theorem Sh.want (s : List UInt8) (ts : List TK) : Sh ts (wantT s ts) := by
  unfold wantT
  split
  · rename_i h; exact .take h (.ok _ _)
  · exact .miss _
theorem Sh.name (ts : List TK) : Sh ts (nameT ts) := by
  cases ts with
  | nil => exact .off
  | cons t r => simp only [nameT]; split; exact .one _ _ _; exact .miss _
theorem Sh.places (ts : List TK) : Sh ts (placesT ts) := by
  cases ts with
  | nil => exact .off
  | cons t r =>
    simp only [placesT]
    split
    · split
      · exact .one _ _ _
      · exact .bad _ _ _ _
    · exact .miss _
section
variable (M : Nat) (L : List TK)
structure AllSh (n : Nat) : Prop where
  expr : ∀ d ts, Sh ts (exprT M L n d ts)
  row : ∀ lv d ts, Sh ts (rowT M L n lv d ts)
  loop : ∀ lv d fr a ts, Wk ts (loopT M L n lv d fr a ts)
  unary : ∀ d ts, Sh ts (unaryT M L n d ts)
  atom : ∀ d ts, Sh ts (atomT M L n d ts)
  arr : ∀ d fr ts, Sh ts (arrT M L n d fr ts)
  args : ∀ c d ts, Sh ts (argsT M L n c d ts)
  arg : ∀ c d acc ts, Wk ts (argT M L n c d acc ts)
theorem allSh : ∀ n, AllSh M L n
  | 0 => ⟨fun _ _ => by unfold exprT; exact .off, fun _ _ _ => by unfold rowT; exact .off, fun _ _ _ _ _ => by unfold loopT; exact .off, fun _ _ => by unfold unaryT; exact .off, fun _ _ => by unfold atomT; exact .off, fun _ _ _ => by unfold arrT; exact .off, fun _ _ _ => by unfold argsT; exact .off, fun _ _ _ _ => by unfold argT; exact .off⟩
  | n + 1 => by
    have ih := allSh n
    constructor
    · intro d ts
      unfold exprT
      split
      · exact .off
      · split
        · exact .bad _ _ _ _
        · split
          · rename_i h
            exact .take h ((Sh.name _).wk.bind fun _ _ _ => (Sh.want _ _).wk.bind fun _ _ _ => (ih.expr _ _).wk.bind fun _ _ _ => (Sh.want _ _).wk.bind fun _ _ _ => (ih.expr _ _).wk.bind fun _ _ _ => .ok _ _)
          · split
            · rename_i h
              exact .take h ((ih.expr _ _).wk.bind fun _ _ _ => (Sh.want _ _).wk.bind fun _ _ _ => (ih.expr _ _).wk.bind fun _ _ _ => (Sh.want _ _).wk.bind fun _ _ _ => (ih.expr _ _).wk.bind fun _ _ _ => .ok _ _)
            · split
              · rename_i h
                exact .take h ((ih.expr _ _).wk.bind fun _ _ _ => (Sh.want _ _).wk.bind fun _ _ _ => (ih.expr _ _).wk.bind fun _ _ _ => .ok _ _)
              · exact ih.row _ _ _
    · intro lv d ts
      unfold rowT
      split
      · exact ih.unary _ _
      · split
        · exact .off
        · exact (ih.row _ _ _).bind fun _ _ _ => ih.loop _ _ _ _ _
    · intro lv d fr a ts
      unfold loopT
      split
      · exact .off
      · split
        · exact .ok _ _
        · refine Wk.mono ?_ (List.suffix_cons _ _)
          refine (ih.row _ _ _).wk.bind fun _ _ _ => ?_
          split
          · exact .ok _ _
          · exact ih.loop _ _ _ _ _
    · intro d ts
      unfold unaryT
      split
      · exact .off
      · split
        · exact .bad _ _ _ _
        · split
          · rename_i h
            exact .take h ((ih.unary _ _).wk.bind fun _ _ _ => .ok _ _)
          · split
            · rename_i h
              exact .take h ((ih.unary _ _).wk.bind fun _ _ _ => .ok _ _)
            · exact ih.atom _ _
    · intro d ts
      unfold atomT
      split
      · exact .off
      · split
        · split
          · exact .one _ _ _
          · exact .bad _ _ _ _
        · split
          · refine Sh.need ?_
            split
            · exact Sh.tail ((ih.args _ _ _).bind fun _ _ _ => .ok _ _)
            · exact .one _ _ _
          · split
            · rename_i h; exact .take h (.ok _ _)
            · split
              · rename_i h; exact .take h (.ok _ _)
              · split
                · rename_i h; exact .take h (.ok _ _)
                · split
                  · rename_i h; exact .take h ((ih.expr _ _).wk.bind fun _ _ _ => (Sh.want _ _).wk.bind fun _ _ _ => .ok _ _)
                  · exact ih.arr _ _ _
    · intro d fr ts
      unfold arrT
      split
      · rename_i h; exact .take h ((ih.args _ _ _).wk.bind fun _ _ _ => .ok _ _)
      · split
        · rename_i h; exact .take h ((ih.args _ _ _).wk.bind fun _ _ _ => .ok _ _)
        · split
          · rename_i h; exact .take h ((ih.args _ _ _).wk.bind fun _ _ _ => .ok _ _)
          · split
            · rename_i h; exact .take h ((Sh.want _ _).wk.bind fun _ _ _ => (Sh.places _).wk.bind fun _ _ _ => (Sh.want _ _).wk.bind fun _ _ _ => (ih.expr _ _).wk.bind fun _ _ _ => (Sh.want _ _).wk.bind fun _ _ _ => .ok _ _)
            · exact .miss _
    · intro c d ts
      unfold argsT
      refine (Sh.want _ _).bind fun _ _ _ => (ih.arg _ _ _ _).bind fun _ _ _ => ?_
      split
      · exact .bad _ _ _ _
      · exact (Sh.want _ _).wk.bind fun _ _ _ => .ok _ _
    · intro c d acc ts
      unfold argT
      split
      · refine Wk.bind ?_ fun _ _ _ => (ih.expr _ _).wk.bind fun _ _ _ => ?_
        · split
          · exact .ok _ _
          · exact (Sh.want _ _).wk
        · split
          · exact .bad _ _ _ _
          · exact ih.arg _ _ _ _
      · exact .ok _ _
end
end Go.Proofs.YtmkgmjdbgjiehaaDoor.Ab
namespace Go.Proofs.YtmkgmjdbgjiehaaDoor.Ab
set_option linter.unusedVariables false
def Ends : List TK → Prop
  | [] => False
  | [t] => t.kind = 0
  | _ :: t :: r => Ends (t :: r)
theorem Ends.tail {t : TK} {r : List TK} (h : Ends (t :: r)) (hk : t.kind ≠ 0) : Ends r := by
  cases r with
  | nil => exact absurd h hk
  | cons u r => exact h
def To {α : Type} (x : Rs α) : Prop := x ≠ .off ∧ ∀ a r, x = .ok a r → Ends r
theorem To.bind {α β : Type} {x : Rs α} {f : α → List TK → Rs β} (h : To x) (k : ∀ a r, x = .ok a r → Ends r → To (f a r)) : To (x.bind f) := by
  cases hx : x with
  | off => exact absurd hx h.1
  | bad a b e r => exact ⟨by simp, fun _ _ h => by simp at h⟩
  | ok a r => exact k a r hx (h.2 a r hx)
theorem To.ok {α : Type} {a : α} {r : List TK} (h : Ends r) : To (.ok a r) := ⟨by simp, fun _ _ e => by cases e; exact h⟩
theorem To.bad {α : Type} (a b e : Nat) (r : List TK) : To (.bad a b e r : Rs α) := ⟨by simp, fun _ _ e => by cases e⟩
theorem To.miss {α : Type} {ts : List TK} (h : Ends ts) : To (missT ts : Rs α) := by
  cases ts with
  | nil => exact h.elim
  | cons t r => exact To.bad _ _ _ _
theorem isT_kind {s : List UInt8} {t : TK} {r : List TK} (h : isT s (t :: r) = true) : t.kind ≠ 0 := by
  simp only [isT, Bool.and_eq_true, Bool.or_eq_true, beq_iff_eq] at h; omega
theorem Ends.take {s : List UInt8} {ts r : List TK} (h : Ends ts) (k : takeT s ts = some r) : Ends r := by
  cases ts with
  | nil => exact h.elim
  | cons t u =>
    simp only [takeT] at k
    split at k
    · rename_i h2; cases k; exact h.tail (isT_kind h2)
    · cases k
theorem To.want {s : List UInt8} {ts : List TK} (h : Ends ts) : To (wantT s ts) := by
  unfold wantT
  split
  · rename_i k; exact .ok (h.take k)
  · exact .miss h
theorem To.name {ts : List TK} (h : Ends ts) : To (nameT ts) := by
  cases ts with
  | nil => exact h.elim
  | cons t r =>
    simp only [nameT]; split
    · rename_i k; exact .ok (h.tail (by omega))
    · exact .miss h
theorem To.places {ts : List TK} (h : Ends ts) : To (placesT ts) := by
  cases ts with
  | nil => exact h.elim
  | cons t r =>
    simp only [placesT]; split
    · split
      · exact .ok (h.tail (by omega))
      · exact .bad _ _ _ _
    · exact .miss h
theorem To.need {α : Type} {ts : List TK} {x : Rs α} (h : Ends ts) (k : To x) : To (needT ts x) := by
  cases ts with
  | nil => exact h.elim
  | cons t r => exact k
section
variable (M : Nat) (L : List TK)
structure AllTo (n : Nat) : Prop where
  expr : ∀ d ts, Ends ts → ts.length * 40 + 12 ≤ n → To (exprT M L n d ts)
  row : ∀ lv d ts, Ends ts → lv ≤ 5 → ts.length * 40 + 11 ≤ n + lv → To (rowT M L n lv d ts)
  loop : ∀ lv d fr a ts, Ends ts → lv < 5 → ts.length * 40 + 19 ≤ n → To (loopT M L n lv d fr a ts)
  unary : ∀ d ts, Ends ts → ts.length * 40 + 5 ≤ n → To (unaryT M L n d ts)
  atom : ∀ d ts, Ends ts → ts.length * 40 + 4 ≤ n → To (atomT M L n d ts)
  arr : ∀ d fr ts, Ends ts → ts.length * 40 + 3 ≤ n → To (arrT M L n d fr ts)
  args : ∀ c d ts, Ends ts → ts.length * 40 + 14 ≤ n → To (argsT M L n c d ts)
  arg : ∀ c d acc ts, Ends ts → ts.length * 40 + 13 ≤ n → To (argT M L n c d acc ts)
theorem allTo : ∀ n, AllTo M L n
  | 0 => ⟨fun d ts he h => by omega, fun lv d ts he hl h => by cases ts with | nil => exact he.elim | cons _ _ => simp only [List.length_cons] at h; omega, fun _ _ _ _ _ _ _ h => by omega, fun _ _ _ h => by omega, fun _ _ _ h => by omega, fun _ _ _ _ h => by omega, fun _ _ _ _ h => by omega, fun _ _ _ _ _ h => by omega⟩
  | n + 1 => by
    have ih := allTo n
    have sh := allSh M L n
    constructor
    · intro d ts he hn
      cases ts with
      | nil => exact he.elim
      | cons t r =>
        unfold exprT
        simp only
        split
        · exact .bad _ _ _ _
        · split
          · rename_i h1 r1 h
            have l1 := (takeT_some h).2
            refine (To.name (he.take h)).bind fun a r2 e2 h2 => (To.want h2).bind fun _ r3 e3 h3 => ?_
            have l2 := (Sh.name _ _ _ e2).2
            have l3 := (Sh.want _ _ _ _ e3).2
            refine (ih.expr _ _ h3 (by omega)).bind fun b r4 e4 h4 => (To.want h4).bind fun _ r5 e5 h5 => ?_
            have l4 := (sh.expr _ _ _ _ e4).2
            have l5 := (Sh.want _ _ _ _ e5).2
            exact (ih.expr _ _ h5 (by omega)).bind fun c r6 _ h6 => .ok h6
          · split
            · rename_i h1 _ r1 h
              have l1 := (takeT_some h).2
              refine (ih.expr _ _ (he.take h) (by omega)).bind fun b r4 e4 h4 => (To.want h4).bind fun _ r5 e5 h5 => ?_
              have l4 := (sh.expr _ _ _ _ e4).2
              have l5 := (Sh.want _ _ _ _ e5).2
              refine (ih.expr _ _ h5 (by omega)).bind fun b r6 e6 h6 => (To.want h6).bind fun _ r7 e7 h7 => ?_
              have l6 := (sh.expr _ _ _ _ e6).2
              have l7 := (Sh.want _ _ _ _ e7).2
              exact (ih.expr _ _ h7 (by omega)).bind fun c r6 _ h6 => .ok h6
            · split
              · rename_i h1 _ _ r1 h
                have l1 := (takeT_some h).2
                refine (ih.expr _ _ (he.take h) (by omega)).bind fun b r4 e4 h4 => (To.want h4).bind fun _ r5 e5 h5 => ?_
                have l4 := (sh.expr _ _ _ _ e4).2
                have l5 := (Sh.want _ _ _ _ e5).2
                exact (ih.expr _ _ h5 (by omega)).bind fun c r6 _ h6 => .ok h6
              · exact ih.row _ _ _ he (by omega) (by omega)
    · intro lv d ts he hlv hn
      unfold rowT
      split
      · exact ih.unary _ _ he (by omega)
      · cases ts with
        | nil => exact he.elim
        | cons t r =>
          refine (ih.row _ _ _ he (by omega) (by omega)).bind fun a r2 e2 h2 => ?_
          have l2 := (sh.row _ _ _ _ _ e2).2
          exact ih.loop _ _ _ _ _ h2 (by omega) (by omega)
    · intro lv d fr a ts he hlv hn
      cases ts with
      | nil => exact he.elim
      | cons t r =>
        unfold loopT
        simp only
        split
        · exact .ok he
        · rename_i hk
          have hk0 : t.kind ≠ 0 := fun h => hk (by unfold levelT; rw [if_neg (by omega)])
          simp only [List.length_cons] at hn
          refine (ih.row _ _ _ (he.tail hk0) (by omega) (by omega)).bind fun b r2 e2 h2 => ?_
          have l2 := (sh.row _ _ _ _ _ e2).2
          split
          · exact .ok h2
          · exact ih.loop _ _ _ _ _ h2 hlv (by omega)
    · intro d ts he hn
      cases ts with
      | nil => exact he.elim
      | cons t r =>
        unfold unaryT
        simp only
        split
        · exact .bad _ _ _ _
        · split
          · rename_i h1 r1 h
            have l1 := (takeT_some h).2
            exact (ih.unary _ _ (he.take h) (by omega)).bind fun c r6 _ h6 => .ok h6
          · split
            · rename_i h1 _ r1 h
              have l1 := (takeT_some h).2
              exact (ih.unary _ _ (he.take h) (by omega)).bind fun c r6 _ h6 => .ok h6
            · exact ih.atom _ _ he (by omega)
    · intro d ts he hn
      cases ts with
      | nil => exact he.elim
      | cons t r =>
        unfold atomT
        simp only
        split
        · split
          · exact .ok (he.tail (by omega))
          · exact .bad _ _ _ _
        · split
          · rename_i hk
            have h1 := he.tail (show t.kind ≠ 0 by omega)
            simp only [List.length_cons] at hn
            refine To.need h1 ?_
            split
            · exact (ih.args _ _ _ h1 (by omega)).bind fun c r6 _ h6 => .ok h6
            · exact .ok h1
          · split
            · rename_i h; exact .ok (he.take h)
            · split
              · rename_i h; exact .ok (he.take h)
              · split
                · rename_i h; exact .ok (he.take h)
                · split
                  · rename_i r1 h
                    have l1 := (takeT_some h).2
                    exact (ih.expr _ _ (he.take h) (by omega)).bind fun e r2 _ h2 => (To.want h2).bind fun _ r3 _ h3 => .ok h3
                  · exact ih.arr _ _ _ he (by omega)
    · intro d fr ts he hn
      unfold arrT
      split
      · rename_i h; have l1 := (takeT_some h).2; exact (ih.args _ _ _ (he.take h) (by omega)).bind fun c r6 _ h6 => .ok h6
      · split
        · rename_i h; have l1 := (takeT_some h).2; exact (ih.args _ _ _ (he.take h) (by omega)).bind fun c r6 _ h6 => .ok h6
        · split
          · rename_i h; have l1 := (takeT_some h).2; exact (ih.args _ _ _ (he.take h) (by omega)).bind fun c r6 _ h6 => .ok h6
          · split
            · rename_i h
              have l1 := (takeT_some h).2
              refine (To.want (he.take h)).bind fun _ r2 e2 h2 => (To.places h2).bind fun k r3 e3 h3 => (To.want h3).bind fun _ r4 e4 h4 => ?_
              have l2 := (Sh.want _ _ _ _ e2).2
              have l3 := (Sh.places _ _ _ e3).2
              have l4 := (Sh.want _ _ _ _ e4).2
              exact (ih.expr _ _ h4 (by omega)).bind fun a r5 _ h5 => (To.want h5).bind fun _ r6 _ h6 => .ok h6
            · exact .miss he
    · intro c d ts he hn
      unfold argsT
      refine (To.want he).bind fun _ r1 e1 h1 => ?_
      have l1 := (Sh.want _ _ _ _ e1).2
      refine (ih.arg _ _ _ _ h1 (by omega)).bind fun l r2 _ h2 => ?_
      split
      · exact .bad _ _ _ _
      · exact (To.want h2).bind fun _ r3 _ h3 => .ok h3
    · intro c d acc ts he hn
      unfold argT
      split
      · refine To.bind (f := fun _ r1 => (exprT M L n d r1).bind fun e r2 => if 6 < acc.length + 1 then .bad e.fr e.to 3 r2 else argT M L n c d (acc ++ [e]) r2) ?_ fun _ r1 e1 h1 => ?_
        · split
          · exact .ok he
          · exact .want he
        · have l1 : r1.length ≤ ts.length := by
            split at e1
            · cases e1; omega
            · exact Nat.le_of_lt (Sh.want _ _ _ _ e1).2
          refine (ih.expr _ _ h1 (by omega)).bind fun e r2 e2 h2 => ?_
          have l2 := (sh.expr _ _ _ _ e2).2
          split
          · exact .bad _ _ _ _
          · exact ih.arg _ _ _ _ h2 (by omega)
      · exact .ok he
theorem To.typ {n : Nat} {ts : List TK} (he : Ends ts) (hn : ts.length * 40 + 12 ≤ n) : To (typT M L n ts) := by
  cases ts with
  | nil => exact he.elim
  | cons t r =>
    unfold typT
    refine To.bind ?_ fun b r2 e2 h2 => To.need h2 ?_
    · split
      · rename_i h; exact .ok (he.take h)
      · split
        · rename_i h; exact .ok (he.take h)
        · split
          · rename_i h; exact (To.places (he.take h)).bind fun k r2 _ h2 => .ok h2
          · exact .miss he
    · have l2 : r2.length < (t :: r).length := by
        split at e2
        · rename_i h; cases e2; exact (takeT_some h).2
        · split at e2
          · rename_i h; cases e2; exact (takeT_some h).2
          · split at e2
            · rename_i h
              have := (((Sh.places _).wk.bind fun a r _ => Wk.ok (α := Nat × Nat) _ _) _ _ e2).length_le
              have := (takeT_some h).2; omega
            · simp [missT] at e2
      split
      · rename_i h
        have l3 := (takeT_some h).2
        exact ((allTo M L n).expr _ _ (h2.take h) (by omega)).bind fun e r4 _ h4 => (To.want h4).bind fun _ r5 _ h5 => .ok h5
      · exact .ok h2
theorem Sh.typ (n : Nat) (ts : List TK) : Sh ts (typT M L n ts) := by
  cases ts with
  | nil => exact .off
  | cons t r =>
    unfold typT
    refine Sh.bind ?_ fun b r2 _ => Wk.need ?_
    · split
      · rename_i h; exact Sh.take h (Wk.ok _ _)
      · split
        · rename_i h; exact Sh.take h (Wk.ok _ _)
        · split
          · rename_i h; exact Sh.take h ((Sh.places _).wk.bind fun _ _ _ => Wk.ok _ _)
          · exact Sh.miss _
    · split
      · rename_i h; exact (Sh.take h (((allSh M L n).expr _ _).wk.bind fun _ _ _ => (Sh.want _ _).wk.bind fun _ _ _ => Wk.ok _ _)).wk
      · exact Wk.ok _ _
theorem To.qual : ∀ (n : Nat) (acc : List Pm) (ts : List TK), Ends ts → ts.length < n → To (qualT n acc ts)
  | 0, acc, ts, he, hn => by omega
  | n + 1, acc, ts, he, hn => by
    unfold qualT
    refine (To.name he).bind fun x r1 e1 h1 => ?_
    have l1 := (Sh.name _ _ _ e1).2
    split
    · exact .bad _ _ _ _
    · refine To.need h1 ?_
      split
      · rename_i h
        have l2 := (takeT_some h).2
        exact To.qual n _ _ (h1.take h) (by omega)
      · exact .ok h1
theorem To.pars {m : Nat} : ∀ (n : Nat) (acc : List Pm) (ts : List TK), Ends ts → ts.length < n → ts.length * 40 + 12 ≤ m → To (parsT M L m n acc ts)
  | 0, acc, ts, he, hn, hm => by omega
  | n + 1, acc, ts, he, hn, hm => by
    unfold parsT
    split
    · exact .ok he
    · refine To.bind (x := if acc = [] then .ok () ts else wantT [44] ts) ?_ fun _ r1 e1 h1 => ?_
      · split
        · exact .ok he
        · exact .want he
      · have l1 : r1.length ≤ ts.length := by
          split at e1
          · cases e1; omega
          · exact Nat.le_of_lt (Sh.want _ _ _ _ e1).2
        refine (To.name h1).bind fun x r2 e2 h2 => (To.want h2).bind fun _ r3 e3 h3 => ?_
        have l2 := (Sh.name _ _ _ e2).2
        have l3 := (Sh.want _ _ _ _ e3).2
        refine (To.typ M L h3 (by omega)).bind fun y r4 e4 h4 => ?_
        have l4 := (Sh.typ M L _ _ _ _ e4).2
        split
        · exact .bad _ _ _ _
        · exact To.pars n _ _ h4 (by omega) (by omega)
theorem Sh.qual : ∀ (n : Nat) (acc : List Pm) (ts : List TK), Sh ts (qualT n acc ts)
  | 0, acc, ts => .off
  | n + 1, acc, ts => by
    unfold qualT
    refine (Sh.name _).bind fun x r1 _ => ?_
    split
    · exact .bad _ _ _ _
    · refine Wk.need ?_
      split
      · rename_i h; exact (Sh.take h (Sh.qual n _ _).wk).wk
      · exact .ok _ _
theorem Wk.pars (m : Nat) : ∀ (n : Nat) (acc : List Pm) (ts : List TK), Wk ts (parsT M L m n acc ts)
  | 0, acc, ts => .off
  | n + 1, acc, ts => by
    unfold parsT
    split
    · exact .ok _ _
    · refine Wk.bind (x := if acc = [] then .ok () ts else wantT [44] ts) ?_ fun _ r1 _ => (Sh.name _).wk.bind fun _ _ _ => (Sh.want _ _).wk.bind fun _ _ _ => (Sh.typ M L _ _).wk.bind fun _ _ _ => ?_
      · split
        · exact .ok _ _
        · exact (Sh.want _ _).wk
      · split
        · exact .bad _ _ _ _
        · exact Wk.pars m n _ _
theorem To.item {n : Nat} {ts : List TK} (he : Ends ts) (hn : ts.length * 40 + 12 ≤ n) : To (itemT M L n ts) := by
  unfold itemT
  have hhead : To (headT M L n ts) ∧ Wk ts (headT M L n ts) := by
    unfold headT
    split
    · rename_i h
      have l1 := (takeT_some h).2
      constructor
      · refine (To.name (he.take h)).bind fun t r2 e2 h2 => (To.want h2).bind fun _ r3 e3 h3 => ?_
        have l2 := (Sh.name _ _ _ e2).2
        have l3 := (Sh.want _ _ _ _ e3).2
        exact (To.qual n _ _ h3 (by omega)).bind fun l r4 _ h4 => (To.want h4).bind fun _ r5 _ h5 => .ok h5
      · exact (Sh.take h ((Sh.name _).wk.bind fun _ _ _ => (Sh.want _ _).wk.bind fun _ _ _ => (Sh.qual n _ _).wk.bind fun _ _ _ => (Sh.want _ _).wk.bind fun _ _ _ => Wk.ok _ _)).wk
    · constructor
      · refine To.bind (x := match takeT [112, 117, 98] ts with | some r => Rs.ok true r | none => .ok false ts) ?_ fun pb r0 e0 h0 => ?_
        · split
          · rename_i h; exact .ok (he.take h)
          · exact .ok he
        · have l0 : r0.length ≤ ts.length := by
            split at e0
            · rename_i h; cases e0; exact Nat.le_of_lt (takeT_some h).2
            · cases e0; omega
          refine (To.want h0).bind fun _ r1 e1 h1 => (To.name h1).bind fun t r2 e2 h2 => (To.want h2).bind fun _ r3 e3 h3 => ?_
          have l1 := (Sh.want _ _ _ _ e1).2
          have l2 := (Sh.name _ _ _ e2).2
          have l3 := (Sh.want _ _ _ _ e3).2
          refine (To.pars M L n _ _ h3 (by omega) (by omega)).bind fun l r4 e4 h4 => (To.want h4).bind fun _ r5 e5 h5 => (To.want h5).bind fun _ r6 e6 h6 => ?_
          have l4 := (Wk.pars M L _ _ _ _ _ _ e4).length_le
          have l5 := (Sh.want _ _ _ _ e5).2
          have l6 := (Sh.want _ _ _ _ e6).2
          exact (To.typ M L h6 (by omega)).bind fun y r7 _ h7 => .ok h7
      · refine Wk.bind (x := match takeT [112, 117, 98] ts with | some r => Rs.ok true r | none => .ok false ts) ?_ fun _ _ _ => (Sh.want _ _).wk.bind fun _ _ _ => (Sh.name _).wk.bind fun _ _ _ => (Sh.want _ _).wk.bind fun _ _ _ => (Wk.pars M L _ _ _ _).bind fun _ _ _ => (Sh.want _ _).wk.bind fun _ _ _ => (Sh.want _ _).wk.bind fun _ _ _ => (Sh.typ M L _ _).wk.bind fun _ _ _ => Wk.ok _ _
        split
        · rename_i h; exact (Sh.take h (Wk.ok _ _)).wk
        · exact .ok _ _
  refine hhead.1.bind fun hd r1 e1 h1 => (To.want h1).bind fun _ r2 e2 h2 => ?_
  have l1 := (hhead.2 _ _ e1).length_le
  have l2 := (Sh.want _ _ _ _ e2).2
  refine ((allTo M L n).expr _ _ h2 (by omega)).bind fun b r3 e3 h3 => (To.want h3).bind fun _ r4 e4 h4 => ?_
  cases r4 with
  | nil => exact h4.elim
  | cons t r =>
    simp only
    split
    · exact .ok h4
    · exact .bad _ _ _ _
end
end Go.Proofs.YtmkgmjdbgjiehaaDoor.Ab
namespace Go.Proofs.YtmkgmjdbgjiehaaDoor.Ab
set_option linter.unusedVariables false
set_option linter.unusedSimpArgs false
def digD (c : UInt8) : Bool := decide (48 ≤ c.toNat ∧ c.toNat ≤ 57)
def smallB (c : UInt8) : Bool := decide (97 ≤ c.toNat ∧ c.toNat ≤ 122)
def digitB (c : UInt8) : Bool := decide (48 ≤ c.toNat ∧ c.toNat ≤ 57)
def goesB (c : UInt8) : Bool := smallB c || digitB c || c.toNat == 95
def blankB (c : UInt8) : Bool := c.toNat == 32 || c.toNat == 9 || c.toNat == 10 || c.toNat == 13
def slashB : List UInt8 → Bool
  | [] => false
  | c :: _ => c.toNat == 47
def offB (r : Bool) (c : UInt8) (t : List UInt8) : Bool := r && c.toNat != 10 || (c.toNat == 47 && slashB t)
def skipF : Bool → List UInt8 → List UInt8
  | _, [] => []
  | r, c :: t => if offB r c t || blankB c then skipF (offB r c t) t else c :: t
def wordsL : List (List UInt8) := [[102, 110], [112, 117, 98], [113, 117, 97, 108], [108, 101, 116], [105, 110], [105, 102], [116, 104, 101, 110], [101, 108, 115, 101], [97, 115, 115, 101, 114, 116], [116, 114, 117, 101], [102, 97, 108, 115, 101], [105, 110, 116], [98, 111, 111, 108], [97, 114, 114], [103, 101, 116], [115, 101, 116], [108, 101, 110], [102, 105, 108, 108], [110, 111, 116], [97, 110, 100], [111, 114], [118]]
def wordB (s : List UInt8) : Bool := decide (s ∈ wordsL)
def twoB (c d : UInt8) : Bool := (c.toNat == 45 && d.toNat == 62) || (c.toNat == 60 && d.toNat == 61) || (c.toNat == 62 && d.toNat == 61) || (c.toNat == 33 && d.toNat == 61)
def oneL : List Nat := [40, 41, 123, 125, 44, 58, 61, 59, 43, 45, 42, 47, 37, 60, 62]
def twoS : UInt8 → List UInt8 → Bool
  | _, [] => false
  | c, d :: _ => twoB c d
def signF : List UInt8 → Nat
  | [] => 0
  | c :: t => if twoS c t then 2 else if oneL.contains c.toNat then 1 else 0
def tokF (s : List UInt8) : Nat × List UInt8 × Nat :=
  match s with
  | [] => (0, [], 20)
  | c :: _ =>
    if smallB c then
      (if (s.takeWhile goesB).length > 24 then (0, [], 3) else (if wordB (s.takeWhile goesB) then 2 else 1, s.takeWhile goesB, 0))
    else if digitB c then
      (if (s.takeWhile digitB).length > 40 then (0, [], 3) else (3, s.takeWhile digitB, 0))
    else if signF s = 0 then (0, [], 20) else (4, s.take (signF s), 0)
theorem tokF_name {c : UInt8} {t : List UInt8} (h : smallB c = true) : tokF (c :: t) = (if ((c :: t).takeWhile goesB).length > 24 then (0, [], 3) else (if wordB ((c :: t).takeWhile goesB) then 2 else 1, (c :: t).takeWhile goesB, 0)) := by
  simp only [tokF, h, if_true]
theorem tokF_dig {c : UInt8} {t : List UInt8} (h : smallB c = false) (h2 : digitB c = true) : tokF (c :: t) = (if ((c :: t).takeWhile digitB).length > 40 then (0, [], 3) else (3, (c :: t).takeWhile digitB, 0)) := by
  unfold tokF
  simp only [h, h2, if_true]
  rfl
theorem tokF_sign {c : UInt8} {t : List UInt8} (h : smallB c = false) (h2 : digitB c = false) : tokF (c :: t) = (if signF (c :: t) = 0 then (0, [], 20) else (4, (c :: t).take (signF (c :: t)), 0)) := by
  unfold tokF
  simp only [h, h2]
  rfl
theorem sign_cons (c : UInt8) (t : List UInt8) : signF (c :: t) = if twoS c t = true then 2 else if oneL.contains c.toNat = true then 1 else 0 := rfl
theorem sign_le (c : UInt8) (t : List UInt8) : signF (c :: t) ≤ (c :: t).length ∧ signF (c :: t) ≤ 2 := by
  unfold signF
  cases t with
  | nil => simp [twoS]; split <;> omega
  | cons d t => simp only [List.length_cons]; split <;> (try split) <;> omega
theorem take_takeWhile {α : Type} (p : α → Bool) : ∀ l : List α, l.take (l.takeWhile p).length = l.takeWhile p
  | [] => rfl
  | c :: t => by
    by_cases h : p c = true
    · rw [List.takeWhile_cons_of_pos h]; simp only [List.length_cons, List.take_succ_cons, take_takeWhile p t]
    · rw [List.takeWhile_cons_of_neg h]; rfl
theorem takeWhile_le {α : Type} (p : α → Bool) (l : List α) : (l.takeWhile p).length ≤ l.length := (List.takeWhile_prefix p).length_le
theorem skip_suf : ∀ (s : List UInt8) (r : Bool), skipF r s <:+ s
  | [], r => by simp [skipF]
  | c :: t, r => by
    unfold skipF
    split
    · exact (skip_suf t _).trans (List.suffix_cons c t)
    · exact List.suffix_refl _
theorem suf_drop {b s : List UInt8} (h : s <:+ b) : b.drop (b.length - s.length) = s := (List.suffix_iff_eq_drop.1 h).symm
theorem tok_len {c : UInt8} {t : List UInt8} (h : (tokF (c :: t)).2.2 = 0) : 1 ≤ (tokF (c :: t)).2.1.length ∧ (tokF (c :: t)).2.1 = (c :: t).take (tokF (c :: t)).2.1.length ∧ (tokF (c :: t)).2.1.length ≤ (c :: t).length := by
  cases g : smallB c with
  | true =>
    rw [tokF_name g] at h ⊢
    have hg : goesB c = true := by simp [goesB, g]
    split at h
    · simp at h
    · rename_i l
      rw [if_neg l]
      refine ⟨?_, (take_takeWhile _ _).symm, takeWhile_le _ _⟩
      rw [List.takeWhile_cons_of_pos hg]; simp
  | false =>
    cases g2 : digitB c with
    | true =>
      rw [tokF_dig g g2] at h ⊢
      split at h
      · simp at h
      · rename_i l
        rw [if_neg l]
        refine ⟨?_, (take_takeWhile _ _).symm, takeWhile_le _ _⟩
        rw [List.takeWhile_cons_of_pos g2]; simp
    | false =>
      rw [tokF_sign g g2] at h ⊢
      split at h
      · simp at h
      · rename_i l
        rw [if_neg l]
        have hs := (sign_le c t).1
        have e2 : ((c :: t).take (signF (c :: t))).length = signF (c :: t) := by rw [List.length_take]; omega
        simp only [e2]
        exact ⟨by omega, trivial, hs⟩
def toksF (L : Nat) : Nat → List UInt8 → List TK × Nat × Nat
  | 0, _ => ([], 0, 0)
  | n + 1, s => match skipF false s with
    | [] => ([⟨0, [], L⟩], 0, 0)
    | c :: t =>
      if (tokF (c :: t)).2.2 = 0 then
        (if (toksF L n ((c :: t).drop (tokF (c :: t)).2.1.length)).2.2 = 0 then (⟨(tokF (c :: t)).1, (tokF (c :: t)).2.1, L - (c :: t).length⟩ :: (toksF L n ((c :: t).drop (tokF (c :: t)).2.1.length)).1, 0, 0)
        else ([], (toksF L n ((c :: t).drop (tokF (c :: t)).2.1.length)).2.1, (toksF L n ((c :: t).drop (tokF (c :: t)).2.1.length)).2.2))
      else ([], L - (c :: t).length, (tokF (c :: t)).2.2)
theorem tokF_num {c : UInt8} {t : List UInt8} (h0 : (tokF (c :: t)).2.2 = 0) (h : (tokF (c :: t)).1 = 3) : (tokF (c :: t)).2.1.all digD = true ∧ (tokF (c :: t)).2.1.length ≤ 40 := by
  cases g : smallB c with
  | true =>
    rw [tokF_name g] at h h0
    split at h
    · simp at h
    · split at h <;> simp at h
  | false =>
    cases g2 : digitB c with
    | true =>
      rw [tokF_dig g g2] at h h0 ⊢
      split
      · rename_i l; rw [if_pos l] at h0; simp at h0
      · rename_i l
        refine ⟨?_, show (List.takeWhile digitB (c :: t)).length ≤ 40 by omega⟩
        have : ∀ l : List UInt8, (l.takeWhile digitB).all digD = true := fun l => by
          induction l with
          | nil => rfl
          | cons a l ih =>
            by_cases ha : digitB a = true
            · rw [List.takeWhile_cons_of_pos ha, List.all_cons, ih]; simpa [digD, digitB] using ha
            · rw [List.takeWhile_cons_of_neg ha]; rfl
        exact this _
    | false =>
      rw [tokF_sign g g2] at h h0
      split at h
      · simp at h
      · simp at h
theorem toks_good {K : Nat} : ∀ (n : Nat) (s : List UInt8), s.length < n → (toksF K n s).2.2 = 0 → Ends (toksF K n s).1 ∧ (∀ t ∈ (toksF K n s).1, t.kind = 3 → t.txt.all digD = true ∧ t.txt.length ≤ 40) ∧ (toksF K n s).1.length ≤ s.length + 1
  | 0, s, h, _ => by omega
  | n + 1, s, h, h0 => by
    unfold toksF at h0 ⊢
    split
    · refine ⟨rfl, fun t ht hk => ?_, by simp⟩
      simp at ht; subst ht; simp at hk
    · rename_i c t hk
      rw [hk] at h0
      simp only at h0
      have hsuf := (skip_suf s false).length_le
      rw [hk] at hsuf
      split
      · rename_i h1
        rw [if_pos h1] at h0
        obtain ⟨l1, l2, l3⟩ := tok_len h1
        have hlen : ((c :: t).drop (tokF (c :: t)).2.1.length).length = (c :: t).length - (tokF (c :: t)).2.1.length := List.length_drop
        split
        · rename_i h2
          obtain ⟨i1, i2, i3⟩ := toks_good n ((c :: t).drop (tokF (c :: t)).2.1.length) (by omega) h2
          refine ⟨?_, fun u hu hk' => ?_, by simp only [List.length_cons] at *; omega⟩
          · simp only
            revert i1
            cases (toksF K n ((c :: t).drop (tokF (c :: t)).2.1.length)).1 with
            | nil => exact fun h => h.elim
            | cons a b => exact fun h => h
          · rcases List.mem_cons.1 hu with rfl | hu
            · exact tokF_num h1 hk'
            · exact i2 u hu hk'
        · rename_i h2; rw [if_neg h2] at h0; exact absurd h0 h2
      · rename_i h1; rw [if_neg h1] at h0; exact absurd h0 h1
theorem toks_at (K : Nat) : ∀ (n : Nat) (s : List UInt8), s.length < n → (toksF K n s).2.1 ≤ K
  | 0, s, h => by omega
  | n + 1, s, h => by
    unfold toksF
    split
    · simp
    · rename_i c t hk
      have hsuf := (skip_suf s false).length_le
      rw [hk] at hsuf
      split
      · rename_i h1
        obtain ⟨l1, l2, l3⟩ := tok_len h1
        have hlen : ((c :: t).drop (tokF (c :: t)).2.1.length).length = (c :: t).length - (tokF (c :: t)).2.1.length := List.length_drop
        have := toks_at K n ((c :: t).drop (tokF (c :: t)).2.1.length) (by omega)
        split
        · simp
        · exact this
      · simp
def tksF (b : List UInt8) : List TK × Nat × Nat := toksF b.length (b.length + 1) b
inductive PR where
  | good (it : It)
  | err (fr to e : Nat)
def fuelF (L : List TK) : Nat := L.length * 40 + 12
def parseF (b : List UInt8) : PR :=
  if (tksF b).2.2 = 0 then
    match itemT 60 (tksF b).1 (fuelF (tksF b).1) (tksF b).1 with
    | .ok it _ => .good it
    | .bad a b e _ => .err a b e
    | .off => .err 0 0 0
  else .err (tksF b).2.1 ((tksF b).2.1 + 1) (tksF b).2.2
end Go.Proofs.YtmkgmjdbgjiehaaDoor.Ab
