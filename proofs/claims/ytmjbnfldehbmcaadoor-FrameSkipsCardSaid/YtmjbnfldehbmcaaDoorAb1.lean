/-
The walk over the program's texts, told with what its values say: a part of it. No further condition.
-/
import Derived.Recover
import Derived.Orders
import Derived.Below
import Derived.Laws.Sem
import Derived.Laws.World
namespace Go.Proofs.YtmjbnfldehbmcaaDoor.Ab
open Go.RowKit
set_option linter.unusedVariables false
/-- A value as the proofs see it: no capacity, no address; rows that nobody writes any more are told whole. -/
inductive V where
  | bool (b : Bool)
  | int (k : IntKind) (n : Int)
  | str (s : List UInt8)
  | nilp
  | ptr (l i j : Nat)
  | iptr (e : List V) (j : Nat)
  | nils
  | slc (l off len : Nat)
  | islc (z : Nat) (es : List (List V))
  | mapn
  | map (l : Nat)
  | func (fn : Fn) (first captured : List V)
  | nilf
  | iface (t : TypeId) (v : V)
  | nili
  | agg (cs : List V)
  | tup (vs : List V)
  | any
instance : Inhabited V := ⟨.any⟩
/-- A cell's value that names no row that may turn. -/
def V.pure : V → Bool
  | .ptr _ _ _ | .slc _ _ _ | .map _ | .agg _ | .tup _ => false
  | .func _ a b => a.isEmpty && b.isEmpty
  | .iface _ v => match v with
    | .agg _ | .tup _ => false
    | v => v.pure
  | _ => true
abbrev Phi := Nat → Option (Nat × Nat × Nat)
/-- How many cells a block has. -/
def cellsOf (w : World) (b : Nat) : Nat :=
  match w.heap[b]? with
  | some (.cells c _ _) => c.size
  | _ => 0
inductive Rel (φ : Phi) (I : Nat → Prop) (w : World) : V → Value → Prop where
  | bool (b : Bool) : Rel φ I w (.bool b) (.bool b)
  | int (k : IntKind) (n : Int) : Rel φ I w (.int k n) (.int k n)
  | str {s : ByteArray} {l : List UInt8} (h : s.data.toList = l) : Rel φ I w (.str l) (.string s)
  | nilp : Rel φ I w .nilp (.pointer none)
  | ptr {l : Nat} (i j : Nat) {b base z : Nat} (h : φ l = some (b, base, z)) : Rel φ I w (.ptr l i j) (.pointer (some ⟨b, base + i * z + j, none⟩))
  | iptr {e : List V} (j : Nat) {b o : Nat} {cs : Nat → Value} (hI : I b) (hc : ∀ k, k < e.length → w.cell? ⟨b, o + k, none⟩ = some (cs k))
      (ho : ∀ k, k < e.length → (cs k).oneCell' = true) (hp : e.all V.pure = true) (hr : ∀ k v, e[k]? = some v → Rel φ I w v (cs k)) : Rel φ I w (.iptr e j) (.pointer (some ⟨b, o + j, none⟩))
  | nils : Rel φ I w .nils (.slice none 0 0)
  | slc {l off len : Nat} {b base z cap : Nat} {a : Addr} (h : φ l = some (b, base, z)) (hl : len ≤ cap) (hN : base + (off + cap) * z = cellsOf w b)
      (ha : cap ≠ 0 → a = ⟨b, base + off * z, none⟩) : Rel φ I w (.slc l off len) (.slice (some a) len cap)
  | islc {z : Nat} {es : List (List V)} {b o cap : Nat} {a : Addr} {cs : Nat → Nat → Value} (hl : es.length ≤ cap) (ha : es ≠ [] → a = ⟨b, o, none⟩ ∧ I b)
      (hz : ∀ e ∈ es, e.length = z) (hc : ∀ i j, i < es.length → j < z → w.cell? ⟨b, o + i * z + j, none⟩ = some (cs i j))
      (ho : ∀ i j, i < es.length → j < z → (cs i j).oneCell' = true) (hp : es.all (fun e => e.all V.pure) = true) (hr : ∀ i j e v, es[i]? = some e → e[j]? = some v → Rel φ I w v (cs i j)) : Rel φ I w (.islc z es) (.slice (some a) es.length cap)
  | mapn : Rel φ I w .mapn (.map none)
  | map {l b base z : Nat} (h : φ l = some (b, base, z)) : Rel φ I w (.map l) (.map (some b))
  | func (fn : Fn) {first captured : List V} {fs cs : Array Value} (h1 : fs.size = first.length) (r1 : ∀ i v, first[i]? = some v → Rel φ I w v (fs.getD i undef))
      (h2 : cs.size = captured.length) (r2 : ∀ i v, captured[i]? = some v → Rel φ I w v (cs.getD i undef)) : Rel φ I w (.func fn first captured) (.func fn fs cs)
  | nilf : Rel φ I w .nilf .nilFunc
  | iface (t : TypeId) {v : V} {c : Value} (h : Rel φ I w v c) : Rel φ I w (.iface t v) (.iface t c)
  | nili : Rel φ I w .nili .nilIface
  | agg {vs : List V} {cs : Array Value} (h : cs.size = vs.length) (r : ∀ i v, vs[i]? = some v → Rel φ I w v (cs.getD i undef)) : Rel φ I w (.agg vs) (.agg cs)
  | tup {vs : List V} {cs : Array Value} (h : cs.size = vs.length) (r : ∀ i v, vs[i]? = some v → Rel φ I w v (cs.getD i undef)) : Rel φ I w (.tup vs) (.tuple cs)
  | any (c : Value) : Rel φ I w .any c
inductive Blk where
  | row (z : Nat) (es : List (List V))
  | map (es : List (V × V))
structure St where
  H : Nat → Option Blk
  n : Nat
  W : World
def fits (arr : Array Value) (fz : Nat × Nat) : Prop := fz.1 = fz.2 ∨ arr.size ≤ fz.1
theorem fits.not {arr : Array Value} {fz : Nat × Nat} (h : fits arr fz) {o : Nat} (ho : o < arr.size) : ¬ (fz.1 ≤ o ∧ o < fz.2) := by
  rcases h with h | h <;> omega
theorem fits.size {arr arr' : Array Value} {fz : Nat × Nat} (h : fits arr fz) (hs : arr'.size = arr.size) : fits arr' fz := by
  rcases h with h | h
  · exact .inl h
  · exact .inr (by omega)
inductive BlkRel (φ : Phi) (I : Nat → Prop) (w : World) : Blk → Nat × Nat × Nat → Prop where
  | row {es : List (List V)} {b base z : Nat} {arr : Array Value} {t : TypeId} {fz : Nat × Nat} (hh : w.heap[b]? = some (.cells arr t fz)) (hfz : fits arr fz)
      (hpos : 0 < z) (hz : ∀ e ∈ es, e.length = z) (hsz : base + es.length * z ≤ arr.size)
      (ho : ∀ i j, i < es.length → j < z → (arr.getD (base + i * z + j) undef).oneCell' = true)
      (hr : ∀ i j e v, es[i]? = some e → e[j]? = some v → Rel φ I w v (arr.getD (base + i * z + j) undef)) : BlkRel φ I w (.row z es) (b, base, z)
  | map {es : List (V × V)} {b base z : Nat} {ents : Array MapEntry} {clock : Nat} (hh : w.heap[b]? = some (.map ents clock)) (hn : ents.size = es.length)
      (hr : ∀ (i : Nat) (kv : V × V) (e : MapEntry), es[i]? = some kv → ents[i]? = some e → Rel φ I w kv.1 e.key ∧ Rel φ I w kv.2 e.val) : BlkRel φ I w (.map es) (b, base, z)
def Live (φ : Phi) (σ : St) (b : Nat) : Prop := ∃ l x, (σ.H l).isSome = true ∧ φ l = some x ∧ x.1 = b
structure Sim (φ : Phi) (I : Nat → Prop) (σ : St) (w : World) : Prop where
  dom : ∀ l x, φ l = some x → l < σ.n
  blk : ∀ l x, φ l = some x → x.1 < w.heap.size
  live : ∀ l b, σ.H l = some b → ∃ x, φ l = some x ∧ BlkRel φ I w b x
  notI : ∀ b, Live φ σ b → ¬ I b
  inj : ∀ l l' x x', (σ.H l).isSome = true → (σ.H l').isSome = true → φ l = some x → φ l' = some x' → x.1 = x'.1 → l = l'
  imm : ∀ b, I b → b < w.heap.size
  base : ∀ b, b < σ.W.heap.size → I b ∧ w.heap[b]? = σ.W.heap[b]?
structure Evo (φ : Phi) (I : Nat → Prop) (σ : St) (w : World) (φ' : Phi) (I' : Nat → Prop) (σ' : St) (w' : World) : Prop where
  phi : ∀ l x, φ l = some x → φ' l = some x
  imm : ∀ b, I b → I' b
  immNew : ∀ b, I' b → I b ∨ Live φ σ b ∨ w.heap.size ≤ b
  liveNew : ∀ b, Live φ' σ' b → Live φ σ b ∨ w.heap.size ≤ b
  size : w.heap.size ≤ w'.heap.size
  shape : ∀ b, b < w.heap.size → cellsOf w' b = cellsOf w b
  frame : ∀ b, b < w.heap.size → ¬ Live φ σ b → w'.heap[b]? = w.heap[b]?
  os : w'.os = w.os
  tape : w'.tape = w.tape
  output : w'.output = w.output
  base : σ'.W = σ.W
theorem Evo.refl (φ : Phi) (I : Nat → Prop) (σ : St) (w : World) : Evo φ I σ w φ I σ w :=
  ⟨fun _ _ h => h, fun _ h => h, fun _ h => .inl h, fun _ h => .inl h, Nat.le_refl _, fun _ _ => rfl, fun _ _ _ => rfl, rfl, rfl, rfl, rfl⟩
theorem Evo.trans {φ φ' φ'' : Phi} {I I' I'' : Nat → Prop} {σ σ' σ'' : St} {w w' w'' : World} (h : Evo φ I σ w φ' I' σ' w') (k : Evo φ' I' σ' w' φ'' I'' σ'' w'') :
    Evo φ I σ w φ'' I'' σ'' w'' := by
  refine ⟨fun l x e => k.phi l x (h.phi l x e), fun b e => k.imm b (h.imm b e), fun b e => ?_, fun b e => ?_, Nat.le_trans h.size k.size, fun b e => ?_, fun b e hn => ?_,
    k.os.trans h.os, k.tape.trans h.tape, k.output.trans h.output, k.base.trans h.base⟩
  · rcases k.immNew b e with e | e | e
    · exact h.immNew b e
    · exact .inr (h.liveNew b e)
    · exact .inr (.inr (Nat.le_trans h.size e))
  · rcases k.liveNew b e with e | e
    · exact h.liveNew b e
    · exact .inr (Nat.le_trans h.size e)
  · exact (k.shape b (Nat.lt_of_lt_of_le e h.size)).trans (h.shape b e)
  · refine (k.frame b (Nat.lt_of_lt_of_le e h.size) (fun hl => ?_)).trans (h.frame b e hn)
    rcases h.liveNew b hl with hl | hl
    · exact hn hl
    · omega
theorem cell?_of_heap {w w' : World} {a : Addr} (h : w'.heap[a.block]? = w.heap[a.block]?) : w'.cell? a = w.cell? a := by
  unfold World.cell?
  rw [h]
/-- A value stays what it is where nothing that it hangs on has turned. -/
theorem Rel.mono {φ φ' : Phi} {I I' : Nat → Prop} {w w' : World} {v : V} {c : Value} (h : Rel φ I w v c) (hφ : ∀ l x, φ l = some x → φ' l = some x)
    (hI : ∀ b, I b → I' b) (hc : ∀ b, I b → w'.heap[b]? = w.heap[b]?) (hN : ∀ l x, φ l = some x → cellsOf w' x.1 = cellsOf w x.1) : Rel φ' I' w' v c := by
  induction h with
  | bool b => exact .bool b
  | int k n => exact .int k n
  | str h => exact .str h
  | nilp => exact .nilp
  | ptr i j h => exact .ptr i j (hφ _ _ h)
  | iptr j hb hcs ho hp hr ih => exact .iptr j (hI _ hb) (fun k hk => (cell?_of_heap (hc _ hb)).trans (hcs k hk)) ho hp (fun k v hk => ih k v hk)
  | nils => exact .nils
  | slc h hl hn ha => exact .slc (hφ _ _ h) hl (hn.trans (hN _ _ h).symm) ha
  | islc hl ha hz hcs ho hp hr ih =>
    refine .islc hl (fun e => ⟨(ha e).1, hI _ (ha e).2⟩) hz (fun i j hi hj => ?_) ho hp (fun i j e v h1 h2 => ih i j e v h1 h2)
    have hne := ha (fun e => by simp [e] at hi)
    exact (cell?_of_heap (hc _ hne.2)).trans (hcs i j hi hj)
  | mapn => exact .mapn
  | map h => exact .map (hφ _ _ h)
  | func fn h1 r1 h2 r2 ih1 ih2 => exact .func fn h1 ih1 h2 ih2
  | nilf => exact .nilf
  | iface t h ih => exact .iface t ih
  | nili => exact .nili
  | agg h r ih => exact .agg h ih
  | tup h r ih => exact .tup h ih
  | any c => exact .any c
theorem Rel.evo {φ φ' : Phi} {I I' : Nat → Prop} {σ σ' : St} {w w' : World} {v : V} {c : Value} (h : Rel φ I w v c) (hs : Sim φ I σ w) (he : Evo φ I σ w φ' I' σ' w') : Rel φ' I' w' v c :=
  h.mono he.phi he.imm (fun b hb => he.frame b (hs.imm b hb) (fun hl => hs.notI b hl hb)) (fun l x hx => he.shape _ (hs.blk l x hx))
end Go.Proofs.YtmjbnfldehbmcaaDoor.Ab
