/-
The walk over the program's texts, told with what its values say: a part of it. No further condition.
-/
import Derived.Recover
import Derived.Orders
import Derived.Below
import Derived.Laws.Sem
import Derived.Laws.World
import Derived.Laws.StructEq
import Derived.Laws.Cells
import Derived.Laws.Small
import Derived.Laws.Entries
import Derived.Laws.BytesString
namespace Go.Proofs.YtmkgmjdbgjiehaaDoor.Ab
open Go.RowKit
set_option linter.unusedVariables false
inductive V where
  | bool (b : Bool)
  | int (k : IntKind) (n : Int)
  | str (s : List UInt8)
  | nilp
  | ptr (l i j : Nat)
  | iptr (e : List V) (j : Nat)
  | nils
  | slc (l off len : Nat)
  | islc (z : Nat) (es : List (List V))
  | mapn
  | map (l : Nat)
  | func (fn : Fn) (first captured : List V)
  | nilf
  | iface (t : TypeId) (v : V)
  | nili
  | agg (cs : List V)
  | tup (vs : List V)
  | any
instance : Inhabited V := ⟨.any⟩
def V.pure : V → Bool
  | .ptr _ _ _ | .slc _ _ _ | .map _ | .agg _ | .tup _ => false
  | .func _ a b => a.isEmpty && b.isEmpty
  | .iface _ v => match v with
    | .agg _ | .tup _ => false
    | v => v.pure
  | _ => true
abbrev Phi := Nat → Option (Nat × Nat × Nat)
def cellsOf (w : World) (b : Nat) : Nat :=
  match w.heap[b]? with
  | some (.cells c _ _) => c.size
  | _ => 0
inductive Rel (φ : Phi) (I : Nat → Prop) (w : World) : V → Value → Prop where
  | bool (b : Bool) : Rel φ I w (.bool b) (.bool b)
  | int (k : IntKind) (n : Int) : Rel φ I w (.int k n) (.int k n)
  | str {s : ByteArray} {l : List UInt8} (h : s.data.toList = l) : Rel φ I w (.str l) (.string s)
  | nilp : Rel φ I w .nilp (.pointer none)
  | ptr {l : Nat} (i j : Nat) {b base z : Nat} (h : φ l = some (b, base, z)) : Rel φ I w (.ptr l i j) (.pointer (some ⟨b, base + i * z + j, none⟩))
  | iptr {e : List V} (j : Nat) {b o : Nat} {cs : Nat → Value} (hI : I b) (hc : ∀ k, k < e.length → w.cell? ⟨b, o + k, none⟩ = some (cs k))
      (ho : ∀ k, k < e.length → (cs k).oneCell' = true) (hp : e.all V.pure = true) (hr : ∀ k v, e[k]? = some v → Rel φ I w v (cs k)) : Rel φ I w (.iptr e j) (.pointer (some ⟨b, o + j, none⟩))
  | nils : Rel φ I w .nils (.slice none 0 0)
  | slc {l off len : Nat} {b base z cap : Nat} {a : Addr} (h : φ l = some (b, base, z)) (hl : len ≤ cap) (hN : base + (off + cap) * z = cellsOf w b)
      (ha : cap ≠ 0 → a = ⟨b, base + off * z, none⟩) : Rel φ I w (.slc l off len) (.slice (some a) len cap)
  | islc {z : Nat} {es : List (List V)} {b o cap : Nat} {a : Addr} {cs : Nat → Nat → Value} (hl : es.length ≤ cap) (ha : es ≠ [] → a = ⟨b, o, none⟩ ∧ I b)
      (hz : ∀ e ∈ es, e.length = z) (hc : ∀ i j, i < es.length → j < z → w.cell? ⟨b, o + i * z + j, none⟩ = some (cs i j))
      (ho : ∀ i j, i < es.length → j < z → (cs i j).oneCell' = true) (hp : es.all (fun e => e.all V.pure) = true) (hr : ∀ i j e v, es[i]? = some e → e[j]? = some v → Rel φ I w v (cs i j)) : Rel φ I w (.islc z es) (.slice (some a) es.length cap)
  | mapn : Rel φ I w .mapn (.map none)
  | map {l b base z : Nat} (h : φ l = some (b, base, z)) : Rel φ I w (.map l) (.map (some b))
  | func (fn : Fn) {first captured : List V} {fs cs : Array Value} (h1 : fs.size = first.length) (r1 : ∀ i v, first[i]? = some v → Rel φ I w v (fs.getD i undef))
      (h2 : cs.size = captured.length) (r2 : ∀ i v, captured[i]? = some v → Rel φ I w v (cs.getD i undef)) : Rel φ I w (.func fn first captured) (.func fn fs cs)
  | nilf : Rel φ I w .nilf .nilFunc
  | iface (t : TypeId) {v : V} {c : Value} (h : Rel φ I w v c) : Rel φ I w (.iface t v) (.iface t c)
  | nili : Rel φ I w .nili .nilIface
  | agg {vs : List V} {cs : Array Value} (h : cs.size = vs.length) (r : ∀ i v, vs[i]? = some v → Rel φ I w v (cs.getD i undef)) : Rel φ I w (.agg vs) (.agg cs)
  | tup {vs : List V} {cs : Array Value} (h : cs.size = vs.length) (r : ∀ i v, vs[i]? = some v → Rel φ I w v (cs.getD i undef)) : Rel φ I w (.tup vs) (.tuple cs)
  | any (c : Value) : Rel φ I w .any c
inductive LS where
  | ready
  | busy
  | done (j : Option Nat)
  | gone
inductive Blk where
  | row (z : Nat) (es : List (List V))
  | map (es : List (V × V))
  | lp (s : LS)
structure St where
  H : Nat → Option Blk
  n : Nat
  W : World
def fits (arr : Array Value) (fz : Nat × Nat) : Prop := fz.1 = fz.2 ∨ arr.size ≤ fz.1
theorem fits.not {arr : Array Value} {fz : Nat × Nat} (h : fits arr fz) {o : Nat} (ho : o < arr.size) : ¬ (fz.1 ≤ o ∧ o < fz.2) := by
  rcases h with h | h <;> omega
theorem fits.size {arr arr' : Array Value} {fz : Nat × Nat} (h : fits arr fz) (hs : arr'.size = arr.size) : fits arr' fz := by
  rcases h with h | h
  · exact .inl h
  · exact .inr (by omega)
def jc : Option Nat → Code
  | some id => .exit id
  | none => .ret
def LSR : LS → Loop → Prop
  | .ready, r => r.state = .ready ∧ r.pending = none
  | .busy, r => r.state = .busy
  | .done j, r => r.state = .done ∧ r.pending = some (jc j)
  | .gone, _ => True
inductive BlkRel (φ : Phi) (I : Nat → Prop) (w : World) : Blk → Nat × Nat × Nat → Prop where
  | row {es : List (List V)} {b base z : Nat} {arr : Array Value} {t : TypeId} {fz : Nat × Nat} (hh : w.heap[b]? = some (.cells arr t fz)) (hfz : fits arr fz)
      (hpos : 0 < z) (hz : ∀ e ∈ es, e.length = z) (hsz : base + es.length * z ≤ arr.size)
      (ho : ∀ i j, i < es.length → j < z → (arr.getD (base + i * z + j) undef).oneCell' = true)
      (hr : ∀ i j e v, es[i]? = some e → e[j]? = some v → Rel φ I w v (arr.getD (base + i * z + j) undef)) : BlkRel φ I w (.row z es) (b, base, z)
  | map {es : List (V × V)} {b base z : Nat} {ents : Array MapEntry} {clock : Nat} (hh : w.heap[b]? = some (.map ents clock)) (hn : ents.size = es.length)
      (hr : ∀ (i : Nat) (kv : V × V) (e : MapEntry), es[i]? = some kv → ents[i]? = some e → Rel φ I w kv.1 e.key ∧ Rel φ I w kv.2 e.val) : BlkRel φ I w (.map es) (b, base, z)
  | lp {s : LS} {r : Loop} {b base z : Nat} (hh : w.heap[b]? = some (.loop r)) (hr : LSR s r) : BlkRel φ I w (.lp s) (b, base, z)
def Live (φ : Phi) (σ : St) (b : Nat) : Prop := ∃ l x, (σ.H l).isSome = true ∧ φ l = some x ∧ x.1 = b
structure Sim (φ : Phi) (I : Nat → Prop) (σ : St) (w : World) : Prop where
  dom : ∀ l x, φ l = some x → l < σ.n
  blk : ∀ l x, φ l = some x → x.1 < w.heap.size
  live : ∀ l b, σ.H l = some b → ∃ x, φ l = some x ∧ BlkRel φ I w b x
  notI : ∀ b, Live φ σ b → ¬ I b
  inj : ∀ l l' x x', (σ.H l).isSome = true → (σ.H l').isSome = true → φ l = some x → φ l' = some x' → x.1 = x'.1 → l = l'
  imm : ∀ b, I b → b < w.heap.size
  base : ∀ b, b < σ.W.heap.size → I b ∧ w.heap[b]? = σ.W.heap[b]?
def Loops (w w' : World) : Prop := ∀ (b : Nat) (r : Loop), w.heap[b]? = some (.loop r) → ∃ st pe, w'.heap[b]? = some (.loop { r with state := st, pending := pe })
theorem Loops.same {w w' : World} (h : ∀ b, b < w.heap.size → w'.heap[b]? = w.heap[b]?) : Loops w w' := fun b r hr => ⟨r.state, r.pending, by rw [h b (Array.getElem?_eq_some_iff.1 hr).1]; exact hr⟩
theorem Loops.refl (w : World) : Loops w w := .same fun _ _ => rfl
theorem Loops.trans {w w' w'' : World} (h : Loops w w') (k : Loops w' w'') : Loops w w'' := fun b r hr => by
  obtain ⟨st, pe, h1⟩ := h b r hr
  obtain ⟨st', pe', h2⟩ := k b _ h1
  exact ⟨st', pe', h2⟩
structure Evo (φ : Phi) (I : Nat → Prop) (σ : St) (w : World) (φ' : Phi) (I' : Nat → Prop) (σ' : St) (w' : World) : Prop where
  phi : ∀ l x, φ l = some x → φ' l = some x
  imm : ∀ b, I b → I' b
  immNew : ∀ b, I' b → I b ∨ Live φ σ b ∨ w.heap.size ≤ b
  liveNew : ∀ b, Live φ' σ' b → Live φ σ b ∨ w.heap.size ≤ b
  size : w.heap.size ≤ w'.heap.size
  shape : ∀ b, b < w.heap.size → cellsOf w' b = cellsOf w b
  frame : ∀ b, b < w.heap.size → ¬ Live φ σ b → w'.heap[b]? = w.heap[b]?
  os : w'.os = w.os
  tape : w'.tape = w.tape
  output : w'.output = w.output
  base : σ'.W = σ.W
  loops : Loops w w'
theorem Evo.refl (φ : Phi) (I : Nat → Prop) (σ : St) (w : World) : Evo φ I σ w φ I σ w :=
  ⟨fun _ _ h => h, fun _ h => h, fun _ h => .inl h, fun _ h => .inl h, Nat.le_refl _, fun _ _ => rfl, fun _ _ _ => rfl, rfl, rfl, rfl, rfl, Loops.refl _⟩
theorem Evo.trans {φ φ' φ'' : Phi} {I I' I'' : Nat → Prop} {σ σ' σ'' : St} {w w' w'' : World} (h : Evo φ I σ w φ' I' σ' w') (k : Evo φ' I' σ' w' φ'' I'' σ'' w'') :
    Evo φ I σ w φ'' I'' σ'' w'' := by
  refine ⟨fun l x e => k.phi l x (h.phi l x e), fun b e => k.imm b (h.imm b e), fun b e => ?_, fun b e => ?_, Nat.le_trans h.size k.size, fun b e => ?_, fun b e hn => ?_,
    k.os.trans h.os, k.tape.trans h.tape, k.output.trans h.output, k.base.trans h.base, h.loops.trans k.loops⟩
  · rcases k.immNew b e with e | e | e
    · exact h.immNew b e
    · exact .inr (h.liveNew b e)
    · exact .inr (.inr (Nat.le_trans h.size e))
  · rcases k.liveNew b e with e | e
    · exact h.liveNew b e
    · exact .inr (Nat.le_trans h.size e)
  · exact (k.shape b (Nat.lt_of_lt_of_le e h.size)).trans (h.shape b e)
  · refine (k.frame b (Nat.lt_of_lt_of_le e h.size) (fun hl => ?_)).trans (h.frame b e hn)
    rcases h.liveNew b hl with hl | hl
    · exact hn hl
    · omega
theorem cell?_of_heap {w w' : World} {a : Addr} (h : w'.heap[a.block]? = w.heap[a.block]?) : w'.cell? a = w.cell? a := by
  unfold World.cell?
  rw [h]
theorem Rel.mono {φ φ' : Phi} {I I' : Nat → Prop} {w w' : World} {v : V} {c : Value} (h : Rel φ I w v c) (hφ : ∀ l x, φ l = some x → φ' l = some x)
    (hI : ∀ b, I b → I' b) (hc : ∀ b, I b → w'.heap[b]? = w.heap[b]?) (hN : ∀ l x, φ l = some x → cellsOf w' x.1 = cellsOf w x.1) : Rel φ' I' w' v c := by
  induction h with
  | bool b => exact .bool b
  | int k n => exact .int k n
  | str h => exact .str h
  | nilp => exact .nilp
  | ptr i j h => exact .ptr i j (hφ _ _ h)
  | iptr j hb hcs ho hp hr ih => exact .iptr j (hI _ hb) (fun k hk => (cell?_of_heap (hc _ hb)).trans (hcs k hk)) ho hp (fun k v hk => ih k v hk)
  | nils => exact .nils
  | slc h hl hn ha => exact .slc (hφ _ _ h) hl (hn.trans (hN _ _ h).symm) ha
  | islc hl ha hz hcs ho hp hr ih =>
    refine .islc hl (fun e => ⟨(ha e).1, hI _ (ha e).2⟩) hz (fun i j hi hj => ?_) ho hp (fun i j e v h1 h2 => ih i j e v h1 h2)
    have hne := ha (fun e => by simp [e] at hi)
    exact (cell?_of_heap (hc _ hne.2)).trans (hcs i j hi hj)
  | mapn => exact .mapn
  | map h => exact .map (hφ _ _ h)
  | func fn h1 r1 h2 r2 ih1 ih2 => exact .func fn h1 ih1 h2 ih2
  | nilf => exact .nilf
  | iface t h ih => exact .iface t ih
  | nili => exact .nili
  | agg h r ih => exact .agg h ih
  | tup h r ih => exact .tup h ih
  | any c => exact .any c
theorem Rel.evo {φ φ' : Phi} {I I' : Nat → Prop} {σ σ' : St} {w w' : World} {v : V} {c : Value} (h : Rel φ I w v c) (hs : Sim φ I σ w) (he : Evo φ I σ w φ' I' σ' w') : Rel φ' I' w' v c :=
  h.mono he.phi he.imm (fun b hb => he.frame b (hs.imm b hb) (fun hl => hs.notI b hl hb)) (fun l x hx => he.shape _ (hs.blk l x hx))
end Go.Proofs.YtmkgmjdbgjiehaaDoor.Ab
namespace Go.Proofs.YtmkgmjdbgjiehaaDoor.Ab
open Go.RowKit
set_option linter.unusedVariables false
def V.cells : V → List V
  | .agg cs => cs
  | v => [v]
def V.scal : V → Bool
  | .agg _ | .tup _ | .any => false
  | _ => true
abbrev Env := Nat → V
def Env.put (env : Env) (d : Option Nat) (v : V) : Env :=
  match d with
  | some d => fun t => if t = d then v else env t
  | none => env
inductive Opd where
  | t (i : Nat)
  | c (v : V)
def Opd.ev (env : Env) : Opd → V
  | .t i => env i
  | .c v => v
def upd (H : Nat → Option Blk) (l : Nat) (b : Option Blk) : Nat → Option Blk := fun k => if k = l then b else H k
def St.new (σ : St) (b : Blk) : St := ⟨upd σ.H σ.n (some b), σ.n + 1, σ.W⟩
def St.set (σ : St) (l : Nat) (b : Blk) : St := ⟨upd σ.H l (some b), σ.n, σ.W⟩
def St.kill (σ : St) (l : Nat) : St := ⟨upd σ.H l none, σ.n, σ.W⟩
def setAt (cs : List V) (j : Nat) (vs : List V) : List V := cs.take j ++ vs ++ cs.drop (j + vs.length)
def byteE (b : UInt8) : List V := [.int .u8 b.toNat]
def byteOf : List V → Option UInt8
  | [.int .u8 n] => if 0 ≤ n ∧ n < 256 then some (UInt8.ofNat n.toNat) else none
  | _ => none
def cont (σ : St) (z : Nat) : V → Option (List (List V))
  | .nils => some []
  | .islc z' es => if z' = z then some es else none
  | .slc l off len =>
    match σ.H l with
    | some (.row z' es) => if z' = z ∧ off + len ≤ es.length then some ((es.drop off).take len) else none
    | _ => none
  | _ => none
def srcOf (σ : St) (z : Nat) : V → Option (List (List V))
  | .str s => if z = 1 then some (s.map byteE) else none
  | v => cont σ z v
inductive CK where
  | int | str | bool
inductive Ins where
  | mv (x : Opd)
  | pick (c a b : Opd)
  | new (z : List V)
  | box (x : Opd)
  | build (z : List V) (ps : List (Nat × Nat × Opd))
  | bslice (z : List V) (len : Nat) (ps : List (Nat × Opd))
  | ld (x : Opd)
  | lda (n : Nat) (x : Opd)
  | st (n : Nat) (a x : Opd)
  | nilck (x : Opd)
  | bin (op : BinOp) (x y : Opd)
  | beq (neg : Bool) (x y : Opd)
  | nq (neg : Bool) (fam : Nat) (x y : Opd)
  | eqa (neg : Bool) (ks : List CK) (x y : Opd)
  | un (op : UnOp) (x : Opd)
  | cvi (k : IntKind) (x : Opd)
  | cvs (x : Opd)
  | s2b (x : Opd)
  | b2s (x : Opd)
  | b2b (x : Opd)
  | mki (t : TypeId) (x : Opd)
  | mkf (fn : Fn) (first captured : List Opd)
  | mkmap
  | mksl (bytes : Nat) (z : List V) (l c : Opd)
  | ssl (x : Opd) (lo hi : Option Opd)
  | lsl (z : Nat) (x : Opd) (lo hi : Option Opd)
  | fa (j : Nat) (x : Opd)
  | fld (n : Option Nat) (off : Nat) (x : Opd)
  | ia (z : Nat) (x i : Opd)
  | aa (n z : Nat) (x i : Opd)
  | sx (x i : Opd)
  | tas (t : TypeId) (zero : V) (ok : Bool) (x : Opd)
  | ext (x : Opd) (i : Nat)
  | slen (x : Opd)
  | llen (x : Opd)
  | app (bytes : Nat) (z : Nat) (x y : Opd)
  | mm (isMax : Bool) (xs : List Opd)
  | call (f : FuncId) (as : List Opd)
  | callv (f : Opd) (as : List Opd)
  | defer (f : Opd) (as : List Opd)
  | panic (x : Opd)
  | recover
def intBin (op : BinOp) (k : IntKind) (a b : Int) : Option V :=
  match op with
  | .add => some (.int k (k.wrap (a + b)))
  | .sub => some (.int k (k.wrap (a - b)))
  | .mul => some (.int k (k.wrap (a * b)))
  | .quo => if b = 0 then none else some (.int k (k.wrap (a.tdiv b)))
  | .rem => if b = 0 then none else some (.int k (a.tmod b))
  | .and => some (.int k (k.wrap (BitVec.ofInt k.bits a &&& BitVec.ofInt k.bits b).toNat))
  | .or => some (.int k (k.wrap (BitVec.ofInt k.bits a ||| BitVec.ofInt k.bits b).toNat))
  | .xor => some (.int k (k.wrap (BitVec.ofInt k.bits a ^^^ BitVec.ofInt k.bits b).toNat))
  | .andNot => some (.int k (k.wrap (BitVec.ofInt k.bits a &&& ~~~(BitVec.ofInt k.bits b)).toNat))
  | .eql => some (.bool (decide (a = b)))
  | .neq => some (.bool (decide (a ≠ b)))
  | .lss => some (.bool (decide (a < b)))
  | .leq => some (.bool (decide (a ≤ b)))
  | .gtr => some (.bool (decide (a > b)))
  | .geq => some (.bool (decide (a ≥ b)))
  | _ => none
def strBin (op : BinOp) (a b : List UInt8) : Option V :=
  match op with
  | .add => if a.length + b.length ≤ 9223372036854775807 then some (.str (a ++ b)) else none
  | .eql => some (.bool (decide (a = b)))
  | .neq => some (.bool (decide (a ≠ b)))
  | .lss => some (.bool (Op.bytesLess a b))
  | .leq => some (.bool (Op.bytesLess a b || decide (a = b)))
  | .gtr => some (.bool !(Op.bytesLess a b || decide (a = b)))
  | .geq => some (.bool !(Op.bytesLess a b))
  | _ => none
def binV (op : BinOp) : V → V → Option V
  | .int k a, .int k' b =>
    match op with
    | .shl => if b < 0 then none else some (.int k (k.wrap (a * 2 ^ (min b.toNat k.bits))))
    | .shr => if b < 0 then none else some (.int k (a.fdiv (2 ^ (min b.toNat k.bits))))
    | _ => if k = k' then intBin op k a b else none
  | .str a, .str b => strBin op a b
  | _, _ => none
def nilK : V → Option (Nat × Bool)
  | .nilp => some (1, true)
  | .ptr _ _ _ => some (1, false)
  | .iptr _ _ => some (1, false)
  | .nils => some (2, true)
  | .slc _ _ _ => some (2, false)
  | .islc _ _ => some (2, false)
  | .nilf => some (3, true)
  | .func _ _ _ => some (3, false)
  | .nili => some (4, true)
  | .iface _ _ => some (4, false)
  | .mapn => some (5, true)
  | .map _ => some (5, false)
  | _ => none
def nilEq (fam : Nat) (x y : V) : Option Bool :=
  match nilK x, nilK y with
  | some (f, a), some (g, b) => if f = fam ∧ g = fam ∧ (a || b) = true then some (a && b) else none
  | _, _ => none
def eqCells : List CK → List V → List V → Option Bool
  | [], [], [] => some true
  | .int :: ks, .int k a :: xs, .int k' b :: ys => if k = k' then (eqCells ks xs ys).map (decide (a = b) && ·) else none
  | .str :: ks, .str a :: xs, .str b :: ys => (eqCells ks xs ys).map (decide (a = b) && ·)
  | .bool :: ks, .bool a :: xs, .bool b :: ys => (eqCells ks xs ys).map (decide (a = b) && ·)
  | _, _, _ => none
def buildV (env : Env) : List V → List (Nat × Nat × Opd) → Option (List V)
  | cs, [] => some cs
  | cs, (off, size, x) :: ps =>
    if (x.ev env).cells.length = size ∧ off + size ≤ cs.length ∧ (x.ev env).cells.all V.scal = true then buildV env (setAt cs off (x.ev env).cells) ps else none
def bsliceV (env : Env) (z : Nat) : List (List V) → List (Nat × Opd) → Option (List (List V))
  | es, [] => some es
  | es, (i, x) :: ps => if (x.ev env).cells.length = z ∧ i < es.length ∧ (x.ev env).cells.all V.scal = true then bsliceV env z (es.set i (x.ev env).cells) ps else none
def bound (env : Env) (d : Nat) : Option Opd → Option Nat
  | none => some d
  | some x => match x.ev env with
    | .int _ n => if 0 ≤ n then some n.toNat else none
    | _ => none
def mmV (isMax : Bool) : V → V → Option V
  | .int k x, .int k' y => if k = k' then some (.int k (if isMax then (if y > x then y else x) else (if y < x then y else x))) else none
  | _, _ => none
def mmL (isMax : Bool) (v : V) : List V → Option V
  | [] => some v
  | y :: ys => (mmV isMax v y).bind fun v => mmL isMax v ys
def reach : Nat := 70368744177664
def evI (env : Env) (σ : St) : Ins → Option (V × St)
  | .mv x => some (x.ev env, σ)
  | .pick c a b => match c.ev env with
    | .bool t => some (if t then a.ev env else b.ev env, σ)
    | _ => none
  | .new z => some (.ptr σ.n 0 0, σ.new (.row z.length [z]))
  | .box x => if (x.ev env).cells.all V.scal = true ∧ 0 < (x.ev env).cells.length then some (.ptr σ.n 0 0, σ.new (.row (x.ev env).cells.length [(x.ev env).cells])) else none
  | .build z ps => (buildV env z ps).map fun cs => (.agg cs, σ)
  | .bslice z len ps => (bsliceV env z.length (List.replicate len z) ps).map fun es => (.slc σ.n 0 len, σ.new (.row z.length es))
  | .ld x => match x.ev env with
    | .ptr l i j => match σ.H l with
      | some (.row _ es) => ((es[i]?).bind (·[j]?)).map (·, σ)
      | _ => none
    | .iptr e j => (e[j]?).map (·, σ)
    | _ => none
  | .lda n x => match x.ev env with
    | .ptr l i j => match σ.H l with
      | some (.row _ es) => (es[i]?).bind fun e => if j + n ≤ e.length then some (.agg ((e.drop j).take n), σ) else none
      | _ => none
    | .iptr e j => if j + n ≤ e.length then some (.agg ((e.drop j).take n), σ) else none
    | _ => none
  | .st n a x => match a.ev env with
    | .ptr l i j => match σ.H l with
      | some (.row z es) => (es[i]?).bind fun e =>
        if (x.ev env).cells.length = n ∧ j + n ≤ e.length ∧ (x.ev env).cells.all V.scal = true then some (.tup [], σ.set l (.row z (es.set i (setAt e j (x.ev env).cells)))) else none
      | _ => none
    | _ => none
  | .nilck x => match x.ev env with
    | .ptr l i j => some (.ptr l i j, σ)
    | .iptr e j => some (.iptr e j, σ)
    | .func (.func f) a b => some (.func (.func f) a b, σ)
    | _ => none
  | .bin op x y => (binV op (x.ev env) (y.ev env)).map (·, σ)
  | .beq neg x y => match x.ev env, y.ev env with
    | .bool a, .bool b => some (.bool (if neg then decide (a ≠ b) else decide (a = b)), σ)
    | _, _ => none
  | .nq neg fam x y => (nilEq fam (x.ev env) (y.ev env)).map fun b => (.bool (if neg then !b else b), σ)
  | .eqa neg ks x y => match x.ev env, y.ev env with
    | .agg a, .agg b => (eqCells ks a b).map fun r => (.bool (if neg then !r else r), σ)
    | _, _ => none
  | .un op x => match op, x.ev env with
    | .neg, .int k n => some (.int k (k.wrap (0 - n)), σ)
    | .xor, .int k n => some (.int k (k.wrap (BitVec.ofInt k.bits (if k.signed then -1 else k.max) ^^^ BitVec.ofInt k.bits n).toNat), σ)
    | .not, .bool b => some (.bool !b, σ)
    | _, _ => none
  | .cvi k x => match x.ev env with
    | .int _ n => some (.int k (k.wrap n), σ)
    | _ => none
  | .cvs x => match x.ev env with
    | .str s => some (.str s, σ)
    | _ => none
  | .s2b x => match x.ev env with
    | .str s => some (.slc σ.n 0 s.length, σ.new (.row 1 (s.map byteE)))
    | _ => none
  | .b2s x => (cont σ 1 (x.ev env)).bind fun es => (es.mapM byteOf).map fun s => (.str s, σ)
  | .b2b x => match x.ev env with
    | .slc l off len => match σ.H l with
      | some (.row _ _) => if 0 < len then some (.slc l off len, σ) else none
      | _ => none
    | _ => none
  | .mki t x => some (.iface t (x.ev env), σ)
  | .mkf fn first captured => some (.func fn (first.map (·.ev env)) (captured.map (·.ev env)), σ)
  | .mkmap => some (.map σ.n, σ.new (.map []))
  | .mksl bytes z l c => match l.ev env, c.ev env with
    | .int _ a, .int _ b => if 0 ≤ a ∧ a ≤ b ∧ bytes * b ≤ reach ∧ b ≤ reach then some (.slc σ.n 0 a.toNat, σ.new (.row z.length (List.replicate a.toNat z))) else none
    | _, _ => none
  | .ssl x lo hi => match x.ev env with
    | .str s => (bound env s.length hi).bind fun h => (bound env 0 lo).bind fun l => if l ≤ h ∧ h ≤ s.length then some (.str ((s.take h).drop l), σ) else none
    | _ => none
  | .lsl z x lo hi => match x.ev env with
    | .nils => (bound env 0 hi).bind fun h => (bound env 0 lo).bind fun l => if l = 0 ∧ h = 0 then some (.nils, σ) else none
    | .islc z' es => (bound env es.length hi).bind fun h => (bound env 0 lo).bind fun l => if z' = z ∧ l ≤ h ∧ h ≤ es.length then some (.islc z ((es.take h).drop l), σ) else none
    | .slc p off len => (bound env len hi).bind fun h => (bound env 0 lo).bind fun l => match σ.H p with
      | some (.row z' es) => if z' = z ∧ l ≤ h ∧ off + h ≤ es.length then some (.slc p (off + l) (h - l), σ) else none
      | _ => none
    | _ => none
  | .fa k x => match x.ev env with
    | .ptr l i j => some (.ptr l i (j + k), σ)
    | .iptr e j => some (.iptr e (j + k), σ)
    | _ => none
  | .fld n off x => match x.ev env with
    | .agg cs => match n with
      | none => (cs[off]?).map (·, σ)
      | some n => if off + n ≤ cs.length then some (.agg ((cs.drop off).take n), σ) else none
    | _ => none
  | .ia z x i => match i.ev env with
    | .int _ k => if 0 ≤ k then match x.ev env with
        | .islc z' es => if z' = z then (es[k.toNat]?).map fun e => (.iptr e 0, σ) else none
        | .slc l off len => match σ.H l with
          | some (.row z' es) => if z' = z ∧ k.toNat < len then some (.ptr l (off + k.toNat) 0, σ) else none
          | _ => none
        | _ => none
      else none
    | _ => none
  | .aa n z x i => match i.ev env with
    | .int _ k => if 0 ≤ k ∧ k < n then match x.ev env with
        | .ptr l i j => some (.ptr l i (j + k.toNat * z), σ)
        | .iptr e j => some (.iptr e (j + k.toNat * z), σ)
        | _ => none
      else none
    | _ => none
  | .sx x i => match x.ev env, i.ev env with
    | .str s, .int _ k => if 0 ≤ k then (s[k.toNat]?).map fun b => (.int .u8 b.toNat, σ) else none
    | _, _ => none
  | .tas t zero ok x => match x.ev env with
    | .iface t' v => if t' = t then some (if ok then .tup [v, .bool true] else v, σ) else if ok then some (.tup [zero, .bool false], σ) else none
    | .nili => if ok then some (.tup [zero, .bool false], σ) else none
    | _ => none
  | .ext x i => match x.ev env with
    | .tup vs => (vs[i]?).map (·, σ)
    | _ => none
  | .slen x => match x.ev env with
    | .str s => some (.int .i64 s.length, σ)
    | _ => none
  | .llen x => match x.ev env with
    | .nils => some (.int .i64 0, σ)
    | .islc _ es => some (.int .i64 es.length, σ)
    | .slc _ _ len => some (.int .i64 len, σ)
    | _ => none
  | .app bytes z x y =>
    (srcOf σ z (y.ev env)).bind fun ys =>
    match x.ev env with
    | .nils => if ys = [] then some (.nils, σ) else if ys.length * bytes ≤ reach ∧ ys.length ≤ reach then some (.slc σ.n 0 ys.length, σ.new (.row z ys)) else none
    | .islc z' es => if ys = [] then some (.islc z' es, σ) else none
    | .slc l off len => if ys = [] then some (.slc l off len, σ) else match σ.H l with
      | some (.row z' es) =>
        if z' = z ∧ (len + ys.length) * bytes ≤ reach ∧ len + ys.length ≤ reach then
          if off + len + ys.length ≤ es.length then some (.slc l off (len + ys.length), σ.set l (.row z (es.take (off + len) ++ ys ++ es.drop (off + len + ys.length))))
          else if off + len = es.length then some (.slc σ.n 0 (len + ys.length), (σ.kill l).new (.row z (es.drop off ++ ys)))
          else none
        else none
      | _ => none
    | _ => none
  | .mm isMax xs => match xs.map (·.ev env) with
    | v :: vs => (mmL isMax v vs).map (·, σ)
    | [] => none
  | .call .. | .callv .. | .defer .. | .panic .. | .recover => none
end Go.Proofs.YtmkgmjdbgjiehaaDoor.Ab
namespace Go.Proofs.YtmkgmjdbgjiehaaDoor.Ab
open Go.RowKit
set_option linter.unusedVariables false
def toV : Nat → Value → Option V
  | 0, _ => none
  | _ + 1, .bool b => some (.bool b)
  | _ + 1, .int k n => some (.int k n)
  | _ + 1, .string s => some (.str s.data.toList)
  | _ + 1, .pointer none => some .nilp
  | _ + 1, .slice none 0 0 => some .nils
  | _ + 1, .map none => some .mapn
  | _ + 1, .nilFunc => some .nilf
  | _ + 1, .nilIface => some .nili
  | n + 1, .iface t v => (toV n v).map (.iface t)
  | n + 1, .agg cs => (cs.toList.mapM (toV n)).map .agg
  | n + 1, .tuple cs => (cs.toList.mapM (toV n)).map .tup
  | _ + 1, .func (.func f) ⟨[]⟩ ⟨[]⟩ => some (.func (.func f) [] [])
  | _ + 1, _ => none
def cOpd (nt : Nat) : Operand → Option Opd
  | .tmp t => if t < nt then some (.t t) else none
  | .const v => (toV 9 v).map .c
  | .func f => some (.c (.func (.func f) [] []))
  | .global _ => none
def cOpds (nt : Nat) (xs : List Operand) : Option (List Opd) := xs.mapM (cOpd nt)
def cOpdO (nt : Nat) : Option Operand → Option (Option Opd)
  | none => some none
  | some x => (cOpd nt x).map some
def isAggD : TypeDesc → Bool
  | .struct _ | .array _ _ => true
  | _ => false
def isIntD : TypeDesc → Bool
  | .int _ => true
  | _ => false
def sizeD (P : Program) (t : TypeId) : Option Nat := (P.info? t).map (·.size)
def zeroC (P : Program) (t : TypeId) : Option (List V) :=
  (P.info? t).bind fun i => i.zero.bind fun z => (toV 9 z).bind fun v => if v.cells.all V.scal = true ∧ v.cells.length = i.size ∧ 0 < i.size then some v.cells else none
def zeroV (P : Program) (t : TypeId) : Option V := (P.info? t).bind fun i => i.zero.bind (toV 9)
def kinds (P : Program) : Nat → TypeId → Option (List CK)
  | 0, _ => none
  | d + 1, t => match P.underlying t with
    | some (.int _) => if sizeD P t = some 1 then some [.int] else none
    | some .string => if sizeD P t = some 1 then some [.str] else none
    | some .bool => if sizeD P t = some 1 then some [.bool] else none
    | some (.struct fs) =>
      if P.stoodInHeld t = true then none else
      (fs.toList.foldl (fun (o : Option (List CK)) f => o.bind fun acc => if f.name ≠ "_" ∧ f.offset = acc.length then (kinds P d f.type).map (acc ++ ·) else none) (some [])).bind fun ks =>
        if sizeD P t = some ks.length then some ks else none
    | _ => none
def compBin (P : Program) (op : BinOp) (t : TypeId) (x y : Opd) (c : Bool) : Option Ins :=
  match op with
  | .eql | .neq =>
    (P.underlying t).bind fun
      | .int _ | .string => some (.bin op x y)
      | .bool => some (.beq (op == .neq) x y)
      | .pointer _ => some (.nq (op == .neq) 1 x y)
      | .slice _ => some (.nq (op == .neq) 2 x y)
      | .func _ _ _ => some (.nq (op == .neq) 3 x y)
      | .interface _ => if c then some (.nq (op == .neq) 4 x y) else none
      | .map _ _ => some (.nq (op == .neq) 5 x y)
      | .struct _ => (kinds P 20 t).bind fun ks => if P.eqGuardType P.depth t = false then some (.eqa (op == .neq) ks x y) else none
      | _ => none
  | _ => some (.bin op x y)
def compConv (P : Program) (src dst : TypeId) (x : Opd) : Option Ins :=
  match P.underlying src, P.underlying dst with
  | some (.int _), some (.int k) => some (.cvi k x)
  | some .string, some .string => some (.cvs x)
  | some .string, some (.slice e) => match P.underlying e, sizeD P e with
    | some (.int .u8), some 1 => some (.s2b x)
    | _, _ => none
  | some (.slice e), some .string => match P.underlying e with
    | some (.int .u8) => some (.b2s x)
    | _ => none
  | some (.slice _), some (.slice e) => match P.underlying e with
    | some (.int .u8) => if src = dst then some (.b2b x) else none
    | _ => none
  | _, _ => none
def isConstO : Operand → Bool
  | .const _ => true
  | _ => false
def fieldD (P : Program) (s : TypeId) (f : Nat) : Option (Nat × TypeId × Nat) :=
  match P.underlying s with
  | some (.struct fs) => (fs[f]?).bind fun f => (sizeD P f.type).map fun n => (f.offset, f.type, n)
  | _ => none
def compB (P : Program) (nt : Nat) (c : Call) : Option Ins :=
  match c.callee with
  | .builtin .len => match c.argTypes[0]?, c.args.toList with
    | some t, [x] => match P.underlying t with
      | some .string => (cOpd nt x).map .slen
      | some (.slice _) => (cOpd nt x).map .llen
      | _ => none
    | _, _ => none
  | .builtin .append => match c.argTypes[0]?, c.argTypes[1]?, c.args.toList with
    | some t, some u, [x, y] => match P.underlying t, P.underlying u with
      | some (.slice e), some ud => match P.info? e with
        | some i => if isIntD ud = false ∧ 0 < i.size ∧ 0 < i.bytes ∧ i.bytes ≤ 65536 ∧ (i.zero.map fun z => z.cells.size) = some i.size then (cOpd nt x).bind fun x => (cOpd nt y).map fun y => .app i.bytes i.size x y else none
        | none => none
      | _, _ => none
    | _, _, _ => none
  | .builtin .max => (cOpds nt c.args.toList).map (.mm true)
  | .builtin .min => (cOpds nt c.args.toList).map (.mm false)
  | _ => none
def compP (P : Program) (nt : Nat) (o : Oper) : Option Ins :=
  match o.op with
  | .move x | .assign x => (cOpd nt x).map .mv
  | .pick c a b => (cOpd nt c).bind fun c => (cOpd nt a).bind fun a => (cOpd nt b).map fun b => .pick c a b
  | .alloc t => (zeroC P t).map .new
  | .box _ x => (cOpd nt x).map .box
  | .build t parts => match P.underlying t with
    | some (.struct fs) => (zeroC P t).bind fun z => (parts.toList.mapM fun (p : Nat × Operand) => (fieldD P t p.1).bind fun d => (cOpd nt p.2).map fun x => (d.1, d.2.2, x)).map fun ps =>
        if fs.all (fun f => (sizeD P f.type).isSome) then Ins.build z ps else .recover
    | _ => none
  | .buildSlice t len parts => match P.underlying t with
    | some (.slice e) => (zeroC P e).bind fun z => if len * z.length ≤ 2 ^ 24 then (parts.toList.mapM fun (p : Nat × Operand) => (cOpd nt p.2).map fun x => (p.1, x)).map fun ps => .bslice z len ps else none
    | _ => none
  | .load t x => (P.underlying t).bind fun d => if isAggD d then (sizeD P t).bind fun n => (cOpd nt x).map (.lda n) else (cOpd nt x).map .ld
  | .store t x y => (sizeD P t).bind fun n => (cOpd nt x).bind fun x => (cOpd nt y).map fun y => .st n x y
  | .nilCheck x => (cOpd nt x).map .nilck
  | .binOp op t x y _ => (cOpd nt x).bind fun x' => (cOpd nt y).bind fun y' => compBin P op t x' y' (isConstO x || isConstO y)
  | .unOp op _ x => (cOpd nt x).map (.un op)
  | .convert src dst x => (cOpd nt x).bind (compConv P src dst)
  | .makeInterface t x => match P.underlying t with
    | some (.interface _) | none => none
    | _ => (cOpd nt x).map (.mki t)
  | .makeFunc fn first captured => (cOpds nt first.toList).bind fun a => (cOpds nt captured.toList).map fun b => .mkf fn a b
  | .makeMap _ none => some .mkmap
  | .makeSlice t l c => match P.underlying t with
    | some (.slice e) => (zeroC P e).bind fun z => (P.info? e).bind fun i => if i.bytes ≤ 65536 then (cOpd nt l).bind fun l => (cOpd nt c).map fun c => .mksl i.bytes z l c else none
    | _ => none
  | .slice t x lo hi none => match P.underlying t with
    | some .string => (cOpd nt x).bind fun x => (cOpdO nt lo).bind fun lo => (cOpdO nt hi).map fun hi => .ssl x lo hi
    | some (.slice e) => (sizeD P e).bind fun z => if 0 < z then (cOpd nt x).bind fun x => (cOpdO nt lo).bind fun lo => (cOpdO nt hi).map fun hi => .lsl z x lo hi else none
    | _ => none
  | .fieldAddr s x f => (fieldD P s f).bind fun d => if d.2.2 ≠ 0 then (cOpd nt x).map (.fa d.1) else none
  | .field s x f => (fieldD P s f).bind fun d => (P.underlying d.2.1).bind fun u => (cOpd nt x).map fun x => .fld (if isAggD u then some d.2.2 else none) d.1 x
  | .indexAddr t x i => (cOpd nt x).bind fun x => (cOpd nt i).bind fun i => match P.underlying t with
    | some (.slice e) => (sizeD P e).bind fun z => if 0 < z then some (.ia z x i) else none
    | some (.array n e) => (sizeD P e).map fun z => .aa n z x i
    | _ => none
  | .index t x i => match P.underlying t with
    | some .string => (cOpd nt x).bind fun x => (cOpd nt i).map fun i => .sx x i
    | _ => none
  | .typeAssert x _ t ok => match P.underlying t with
    | some (.interface _) | none => none
    | _ => (zeroV P t).bind fun z => (cOpd nt x).map fun x => .tas t z ok x
  | .extract x i => (cOpd nt x).map (.ext · i)
  | .call c => compB P nt c
  | _ => none
def Ins.plain : Ins → Bool
  | .call _ _ | .callv _ _ | .defer _ _ | .panic _ | .recover => false
  | _ => true
def onlyPlain (i : Option Ins) : Option Ins := i.bind fun i => if i.plain = true then some i else none
def hasBody (P : Program) (k : FuncId) : Bool := (P.funcs[k]?).any fun fn => fn.body.isSome && fn.name != "runtime.NumGoroutine"
def compOp (P : Program) (nt : Nat) (o : Oper) : Option Ins :=
  match o.op with
  | .call c => match c.callee with
    | .value (.func f) => if hasBody P f = true then (cOpds nt c.args.toList).map (.call f) else none
    | .value x => (cOpd nt x).bind fun x => (cOpds nt c.args.toList).map (.callv x)
    | .builtin .recover => some .recover
    | _ => onlyPlain (compP P nt o)
  | .defer c => match c.callee with
    | .value f => (cOpd nt f).bind fun f => (cOpds nt c.args.toList).map (.defer f)
    | _ => none
  | .panic x => (cOpd nt x).map .panic
  | _ => onlyPlain (compP P nt o)
theorem mapM_some {α β : Type} {f : α → Option β} : ∀ {l : List α} {r : List β}, l.mapM f = some r → r.length = l.length ∧ ∀ (i : Nat) (y : β), r[i]? = some y → ∃ x, l[i]? = some x ∧ f x = some y
  | [], r, h => by
    simp at h; subst h
    exact ⟨rfl, fun i y hy => by simp at hy⟩
  | x :: l, r, h => by
    rw [List.mapM_cons] at h
    simp only [Option.bind_eq_bind, Option.bind_eq_some_iff, Option.pure_def, Option.some.injEq] at h
    obtain ⟨y, hy, r', hr', rfl⟩ := h
    obtain ⟨h1, h2⟩ := mapM_some hr'
    refine ⟨by simp [h1], fun i z hz => ?_⟩
    cases i with
    | zero => simp at hz; subst hz; exact ⟨x, rfl, hy⟩
    | succ i => simp at hz; obtain ⟨x', hx', hf⟩ := h2 i z hz; exact ⟨x', by simpa using hx', hf⟩
theorem toV_rel {φ : Phi} {I : Nat → Prop} {w : World} : ∀ (n : Nat) (c : Value) (v : V), toV n c = some v → Rel φ I w v c
  | 0, _, _, h => by simp [toV] at h
  | n + 1, c, v, h => by
    have ih := toV_rel (φ := φ) (I := I) (w := w) n
    have lst : ∀ (cs : Array Value) (vs : List V), cs.toList.mapM (toV n) = some vs → cs.size = vs.length ∧ ∀ i v, vs[i]? = some v → Rel φ I w v (cs.getD i undef) := fun cs vs hm => by
      obtain ⟨h1, h2⟩ := mapM_some hm
      refine ⟨by simpa using h1.symm, fun i v hv => ?_⟩
      obtain ⟨x, hx, hf⟩ := h2 i v hv
      have : cs.getD i undef = x := by simp only [Array.getElem?_toList] at hx; simp [hx]
      rw [this]
      exact ih _ _ hf
    unfold toV at h
    split at h <;> (try (simp only [Option.some.injEq, reduceCtorEq] at h)) <;> (try subst h) <;> first
      | exact .bool _
      | exact .int _ _
      | exact .str rfl
      | exact .nilp
      | exact .nils
      | exact .mapn
      | exact .nilf
      | exact .nili
      | (simp only [Option.map_eq_some_iff] at h; obtain ⟨x, hx, rfl⟩ := h; exact .iface _ (ih _ _ (by simp_all)))
      | (simp only [Option.map_eq_some_iff] at h; obtain ⟨x, hx, rfl⟩ := h; first | exact .agg (lst _ _ (by simp_all)).1 (lst _ _ (by simp_all)).2 | exact .tup (lst _ _ (by simp_all)).1 (lst _ _ (by simp_all)).2)
      | exact .func _ rfl (fun i v h => by simp at h) rfl (fun i v h => by simp at h)
      | (simp_all; done)
theorem cOpd_rel {φ : Phi} {I : Nat → Prop} {w : World} {nt : Nat} {env : Env} {a : Act} (hf : ∀ t, t < nt → Rel φ I w (env t) (a.tmps.getD t undef)) {x : Operand} {y : Opd} (h : cOpd nt x = some y) :
    Rel φ I w (y.ev env) (a.eval x) := by
  cases x with
  | tmp t =>
    simp only [cOpd] at h
    split at h
    · rename_i hlt; simp only [Option.some.injEq] at h; subst h; exact hf t hlt
    · simp at h
  | const v => simp only [cOpd, Option.map_eq_some_iff] at h; obtain ⟨x, hx, rfl⟩ := h; exact toV_rel _ _ _ hx
  | func f => simp only [cOpd, Option.some.injEq] at h; subst h; exact .func _ rfl (fun i v h => by simp at h) rfl (fun i v h => by simp at h)
  | global g => simp [cOpd] at h
end Go.Proofs.YtmkgmjdbgjiehaaDoor.Ab
namespace Go.Proofs.YtmkgmjdbgjiehaaDoor.Ab
open Go.RowKit
set_option linter.unusedVariables false
set_option linter.unusedSimpArgs false
theorem beqd {α : Type} [BEq α] [LawfulBEq α] [DecidableEq α] (a b : α) : (a == b) = decide (a = b) := by
  by_cases h : a = b <;> simp [h]
def Quiet (P : Program) (φ : Phi) (I : Nat → Prop) (w : World) (a : Act) (o : Oper) (v : V) : Prop :=
  ∃ c, (execOp a.eval o).run P w = .ok (.value c) w ∧ Rel φ I w v c
section
variable {P : Program} {φ : Phi} {I : Nat → Prop} {σ : St} {w : World} {nt : Nat} {env : Env} {a : Act}
theorem Rel.cells {v : V} {c : Value} (h : Rel φ I w v c) (hs : v.cells.all V.scal = true) :
    c.cells.size = v.cells.length ∧ ∀ i x, v.cells[i]? = some x → Rel φ I w x (c.cells.getD i undef) := by
  cases h with
  | agg h r => exact ⟨h, r⟩
  | tup h r => simp [V.cells, V.scal] at hs
  | any c => simp [V.cells, V.scal] at hs
  | _ =>
    refine ⟨rfl, fun i x hx => ?_⟩
    cases i with
    | zero => simp [V.cells] at hx; subst hx; simp [Value.cells]; first | exact .bool _ | exact .int _ _ | exact .str ‹_› | exact .nilp | exact .ptr _ _ ‹_› | exact .iptr _ ‹_› ‹_› ‹_› ‹_› ‹_› | exact .nils | exact .slc ‹_› ‹_› ‹_› ‹_› | exact .islc ‹_› ‹_› ‹_› ‹_› ‹_› ‹_› ‹_› | exact .mapn | exact .map ‹_› | exact .func _ ‹_› ‹_› ‹_› ‹_› | exact .nilf | exact .iface _ ‹_› | exact .nili
    | succ i => simp [V.cells] at hx
theorem Rel.scal {v : V} {c : Value} (h : Rel φ I w v c) (hs : v.scal = true) : c.oneCell' = true := by
  cases h <;> first | rfl | (simp [V.scal] at hs)
theorem quiet_mv {o : Oper} {x : Operand} {y : Opd} (ho : o.op = .move x ∨ o.op = .assign x) (hf : ∀ t, t < nt → Rel φ I w (env t) (a.tmps.getD t undef)) (hx : cOpd nt x = some y) :
    Quiet P φ I w a o (y.ev env) := by
  refine ⟨a.eval x, ?_, cOpd_rel hf hx⟩
  obtain ⟨dst, op, ty, pos, after, guard⟩ := o
  rcases ho with h | h <;> simp only at h <;> subst h <;> simp [execOp]
theorem Rel.bool_inv {b : Bool} {c : Value} (h : Rel φ I w (.bool b) c) : c = .bool b := by cases h; rfl
theorem Rel.int_inv {k : IntKind} {n : Int} {c : Value} (h : Rel φ I w (.int k n) c) : c = .int k n := by cases h; rfl
theorem Rel.str_inv {l : List UInt8} {c : Value} (h : Rel φ I w (.str l) c) : ∃ s : ByteArray, c = .string s ∧ s.data.toList = l := by cases h; exact ⟨_, rfl, ‹_›⟩
theorem quiet_pick {o : Oper} {c x y : Operand} {c' x' y' : Opd} {v : V} (ho : o.op = .pick c x y) (hf : ∀ t, t < nt → Rel φ I w (env t) (a.tmps.getD t undef)) (hc : cOpd nt c = some c')
    (hx : cOpd nt x = some x') (hy : cOpd nt y = some y') {b : Bool} (hb : c'.ev env = .bool b) (hv : v = if b then x'.ev env else y'.ev env) : Quiet P φ I w a o v := by
  have h := cOpd_rel hf hc
  rw [hb] at h
  have h := h.bool_inv
  obtain ⟨dst, op, ty, pos, after, guard⟩ := o
  simp only at ho; subst ho
  refine ⟨if b then a.eval x else a.eval y, by simp [execOp, h, asBool], ?_⟩
  subst hv
  cases b
  · exact cOpd_rel hf hy
  · exact cOpd_rel hf hx
theorem Sim.row (hs : Sim φ I σ w) {l z : Nat} {es : List (List V)} (h : σ.H l = some (.row z es)) :
    ∃ b base arr t fz, φ l = some (b, base, z) ∧ w.heap[b]? = some (.cells arr t fz) ∧ fits arr fz ∧ 0 < z ∧ (∀ e ∈ es, e.length = z) ∧ base + es.length * z ≤ arr.size ∧ (∀ i j, i < es.length → j < z → (arr.getD (base + i * z + j) undef).oneCell' = true) ∧
      ∀ i j e v, es[i]? = some e → e[j]? = some v → Rel φ I w v (arr.getD (base + i * z + j) undef) := by
  obtain ⟨⟨b, base, z'⟩, h1, h2⟩ := hs.live _ _ h
  cases h2 with
  | row hh hfz hpos hz hsz ho hr => exact ⟨b, base, _, _, _, h1, hh, hfz, hpos, hz, hsz, ho, hr⟩
theorem mul_lt_of {n i j z : Nat} (hi : i < n) (hj : j < z) : i * z + j < n * z := by
  have h1 : (i + 1) * z ≤ n * z := Nat.mul_le_mul_right z hi
  rw [Nat.add_mul] at h1
  omega
theorem Sim.cell (hs : Sim φ I σ w) {l z i j : Nat} {es : List (List V)} {e : List V} {v : V} (h : σ.H l = some (.row z es)) (hi : es[i]? = some e) (hj : e[j]? = some v)
    {b base z' : Nat} (hφ : φ l = some (b, base, z')) : z' = z ∧ ∃ c, w.cell? ⟨b, base + i * z + j, none⟩ = some c ∧ Rel φ I w v c ∧ w.frozen? ⟨b, base + i * z + j, none⟩ = false := by
  obtain ⟨b', base', arr, t, fz, h1, hh, hfz, hpos, hz, hsz, ho, hr⟩ := hs.row h
  rw [hφ] at h1
  simp only [Option.some.injEq, Prod.mk.injEq] at h1
  obtain ⟨rfl, rfl, rfl⟩ := h1
  have hil : i < es.length := (List.getElem?_eq_some_iff.1 hi).1
  have hjl : j < z' := by
    have h3 := hz e (List.mem_of_getElem? hi)
    have h4 := (List.getElem?_eq_some_iff.1 hj).1
    omega
  have hlt : base + i * z' + j < arr.size := by
    have := mul_lt_of hil hjl
    omega
  refine ⟨rfl, arr.getD (base + i * z' + j) undef, ?_, hr i j e v hi hj, ?_⟩
  · simp [World.cell?, hh, hlt]
  · have := hfz.not hlt
    simp only [World.frozen?, hh]
    simp only [Bool.and_eq_false_iff, decide_eq_false_iff_not]
    omega
theorem run_isAgg {t : TypeId} {d : TypeDesc} (hd : P.underlying t = some d) : (isAgg t).run P w = .ok (isAggD d) w := by
  unfold isAgg
  rw [Sem.run_bind, run_underlying hd]
  cases d <;> rfl
theorem run_sizeOf {t : TypeId} {n : Nat} (h : sizeD P t = some n) : (sizeOf t).run P w = .ok n w := by
  simp only [sizeD, Option.map_eq_some_iff] at h
  obtain ⟨i, hi, rfl⟩ := h
  simp [sizeOf, typeInfo, hi]
theorem run_load_cell {ad : Addr} {c : Value} (h : w.cell? ad = some c) : (load ad).run P w = .ok c w := by simp [h]
theorem quiet_ld {o : Oper} {t : TypeId} {x : Operand} {x' : Opd} {d : TypeDesc} {v : V} (ho : o.op = .load t x) (hd : P.underlying t = some d) (hag : isAggD d = false) (hs : Sim φ I σ w)
    (hf : ∀ t, t < nt → Rel φ I w (env t) (a.tmps.getD t undef)) (hx : cOpd nt x = some x') {σ' : St} (he : evI env σ (.ld x') = some (v, σ')) : σ' = σ ∧ Quiet P φ I w a o v := by
  have h := cOpd_rel hf hx
  have key : ∀ ad c, a.eval x = .pointer (some ad) → w.cell? ad = some c → (execOp a.eval o).run P w = .ok (.value c) w := fun ad c h1 h2 => by
    obtain ⟨dst, op, ty, pos, after, guard⟩ := o
    simp only at ho; subst ho
    simp [execOp, Instr.loadAt, h1, Instr.sureAddr, loadVar, run_isAgg hd, hag, h2]
  simp only [evI] at he
  split at he
  · rename_i l i j hv
    rw [hv] at h
    split at he
    · rename_i z es hH
      simp only [Option.map_eq_some_iff, Option.bind_eq_some_iff, Prod.mk.injEq] at he
      obtain ⟨v', ⟨e, h1, h2⟩, rfl, rfl⟩ := he
      generalize hq : a.eval x = q at h
      cases h with
      | ptr i j hφ =>
        obtain ⟨rfl, c, hc, hr, _⟩ := hs.cell hH h1 h2 hφ
        exact ⟨rfl, c, key _ _ hq hc, hr⟩
    · simp at he
  · rename_i e j hv
    rw [hv] at h
    simp only [Option.map_eq_some_iff, Prod.mk.injEq] at he
    obtain ⟨v', h2, rfl, rfl⟩ := he
    generalize hq : a.eval x = q at h
    cases h with
    | iptr j hI hc ho hp hr => exact ⟨rfl, _, key _ _ hq (hc _ (List.getElem?_eq_some_iff.1 h2).1), hr _ _ h2⟩
  · simp at he
theorem loadCells_of {ad : Addr} {n : Nat} {f : Nat → Value} (h : ∀ k, k < n → w.cell? (ad.add k) = some (f k)) : (loadCells ad n).run P w = .ok ((List.range n).map f).toArray w := by
  rw [run_loadCells w ad n f h]
theorem quiet_lda {o : Oper} {t : TypeId} {x : Operand} {x' : Opd} {d : TypeDesc} {n : Nat} {v : V} (ho : o.op = .load t x) (hd : P.underlying t = some d) (hag : isAggD d = true) (hn : sizeD P t = some n) (hs : Sim φ I σ w)
    (hf : ∀ t, t < nt → Rel φ I w (env t) (a.tmps.getD t undef)) (hx : cOpd nt x = some x') {σ' : St} (he : evI env σ (.lda n x') = some (v, σ')) : σ' = σ ∧ Quiet P φ I w a o v := by
  have h := cOpd_rel hf hx
  have key : ∀ ad (f : Nat → Value), a.eval x = .pointer (some ad) → (∀ k, k < n → w.cell? (ad.add k) = some (f k)) → (execOp a.eval o).run P w = .ok (.value (.agg ((List.range n).map f).toArray)) w := fun ad f h1 h2 => by
    obtain ⟨dst, op, ty, pos, after, guard⟩ := o
    simp only at ho; subst ho
    simp [execOp, Instr.loadAt, h1, Instr.sureAddr, loadVar, run_isAgg hd, hag, run_sizeOf hn, loadCells_of h2]
  have rl : ∀ (e : List V) (j : Nat) (f : Nat → Value), j + n ≤ e.length → (∀ k u, k < n → e[j + k]? = some u → Rel φ I w u (f k)) → Rel φ I w (.agg ((e.drop j).take n)) (.agg ((List.range n).map f).toArray) := fun e j f hl hr => by
    refine .agg (by simp; omega) (fun i u hu => ?_)
    have hi : i < n := by have := (List.getElem?_eq_some_iff.1 hu).1; simp at this; omega
    simp only [List.getElem?_take, hi, if_true, List.getElem?_drop] at hu
    simpa [hi] using hr i u hi hu
  simp only [evI] at he
  split at he
  · rename_i l i j hv
    rw [hv] at h
    split at he
    · rename_i z es hH
      simp only [Option.bind_eq_some_iff] at he
      obtain ⟨e, h1, he⟩ := he
      split at he
      · rename_i hle
        simp only [Option.some.injEq, Prod.mk.injEq] at he
        obtain ⟨rfl, rfl⟩ := he
        generalize hq : a.eval x = q at h
        cases h with
        | ptr i j hφ =>
          rename_i b base z'
          have hc : ∀ k, k < n → ∃ c, w.cell? ⟨b, base + i * z' + (j + k), none⟩ = some c ∧ ∀ u, e[j + k]? = some u → Rel φ I w u c := fun k hk => by
            obtain ⟨u, hu⟩ : ∃ u, e[j + k]? = some u := ⟨e[j + k], List.getElem?_eq_getElem _⟩
            obtain ⟨rfl, c, hc, hr, _⟩ := hs.cell hH h1 hu hφ
            exact ⟨c, hc, fun u' hu' => by rw [hu] at hu'; cases hu'; exact hr⟩
          let f : Nat → Value := fun k => if hk : k < n then (hc k hk).choose else undef
          have hfk : ∀ k, (hk : k < n) → f k = (hc k hk).choose := fun k hk => by simp [f, hk]
          refine ⟨rfl, _, key ⟨b, base + i * z' + j, none⟩ f hq (fun k hk => ?_), rl e j f hle (fun k u hk hu => ?_)⟩
          · have := (hc k hk).choose_spec.1
            rw [hfk k hk, Addr.add_lit, Nat.add_assoc]
            exact this
          · rw [hfk k hk]
            exact (hc k hk).choose_spec.2 u hu
      · simp at he
    · simp at he
  · rename_i e j hv
    rw [hv] at h
    split at he
    · rename_i hle
      simp only [Option.some.injEq, Prod.mk.injEq] at he
      obtain ⟨rfl, rfl⟩ := he
      generalize hq : a.eval x = q at h
      cases h with
      | iptr j hI hc ho hp hr =>
        rename_i b o' cs
        refine ⟨rfl, _, key ⟨b, o' + j, none⟩ (fun k => cs (j + k)) hq (fun k hk => ?_), rl e j _ hle (fun k u hk hu => hr _ _ hu)⟩
        rw [Addr.add_lit, Nat.add_assoc]
        exact hc _ (by omega)
    · simp at he
  · simp at he
theorem quiet_nilck {o : Oper} {x : Operand} {x' : Opd} {v : V} (ho : o.op = .nilCheck x)
    (hf : ∀ t, t < nt → Rel φ I w (env t) (a.tmps.getD t undef)) (hx : cOpd nt x = some x') {σ' : St} (he : evI env σ (.nilck x') = some (v, σ')) : σ' = σ ∧ Quiet P φ I w a o v := by
  have h := cOpd_rel hf hx
  obtain ⟨dst, op, ty, pos, after, guard⟩ := o
  simp only at ho; subst ho
  simp only [evI] at he
  split at he <;> (try (simp at he; done))
  all_goals
    rename_i hv
    simp only [Option.some.injEq, Prod.mk.injEq] at he
    obtain ⟨rfl, rfl⟩ := he
    refine ⟨rfl, a.eval x, ?_, by rw [hv] at h; exact h⟩
    rw [hv] at h
    generalize hq : a.eval x = q at h
    cases h
    simp [execOp, hq]
theorem intBin_run {op : BinOp} {k : IntKind} {x y : Int} {v : V} (h : intBin op k x y = some v) (hop : op ≠ .shl ∧ op ≠ .shr) (t : TypeId) :
    ∃ c, (binOp op t (.int k x) (.int k y)).run P w = .ok c w ∧ Rel φ I w v c := by
  cases op
  case shl => exact absurd rfl hop.1
  case shr => exact absurd rfl hop.2
  case quo =>
    simp only [intBin] at h
    split at h
    · simp at h
    · rename_i hne
      simp only [Option.some.injEq] at h; subst h
      exact ⟨.int k (k.wrap (x.tdiv y)), by simp [binOp, Op.intDiv, hne], .int _ _⟩
  case rem =>
    simp only [intBin] at h
    split at h
    · simp at h
    · rename_i hne
      simp only [Option.some.injEq] at h; subst h
      exact ⟨.int k (x.tmod y), by simp [binOp, Op.intDiv, hne], .int _ _⟩
  all_goals
    simp only [intBin, Option.some.injEq] at h
    subst h
  case add => exact ⟨.int k (k.wrap (x + y)), by simp [binOp, Op.intArith], .int _ _⟩
  case sub => exact ⟨.int k (k.wrap (x - y)), by simp [binOp, Op.intArith], .int _ _⟩
  case mul => exact ⟨.int k (k.wrap (x * y)), by simp [binOp, Op.intArith], .int _ _⟩
  case and => exact ⟨.int k _, by simp [binOp, Op.intBits], .int _ _⟩
  case or => exact ⟨.int k _, by simp [binOp, Op.intBits], .int _ _⟩
  case xor => exact ⟨.int k _, by simp [binOp, Op.intBits], .int _ _⟩
  case andNot => exact ⟨.int k _, by simp [binOp, Op.intBits], .int _ _⟩
  case eql => exact ⟨.bool (decide (x = y)), by simp [binOp, Op.intCmp, beqd], .bool _⟩
  case neq => exact ⟨.bool (decide (x ≠ y)), by simp [binOp, Op.intCmp, bne, beqd], .bool _⟩
  case lss => exact ⟨.bool (decide (x < y)), by simp [binOp, Op.intCmp], .bool _⟩
  case leq => exact ⟨.bool (decide (x ≤ y)), by simp [binOp, Op.intCmp], .bool _⟩
  case gtr => exact ⟨.bool (decide (x > y)), by simp [binOp, Op.intCmp], .bool _⟩
  case geq => exact ⟨.bool (decide (x ≥ y)), by simp [binOp, Op.intCmp], .bool _⟩
theorem bytes_toList (s : ByteArray) : s.toList = s.data.toList := ByteArray.toList_eq ..
theorem strBin_run {op : BinOp} {s t : ByteArray} {v : V} (h : strBin op s.data.toList t.data.toList = some v) (ty : TypeId) :
    ∃ c, (binOp op ty (.string s) (.string t)).run P w = .ok c w ∧ Rel φ I w v c := by
  cases op <;> simp only [strBin, Option.some.injEq, reduceCtorEq] at h
  case add =>
    split at h
    · rename_i hle
      simp only [Option.some.injEq] at h
      subst h
      refine ⟨.string (s ++ t), ?_, .str (by simp [ByteArray.data_append])⟩
      have h1 : (s.size : Int) + (t.size : Int) ≤ 9223372036854775807 := by
        simp only [ByteArray.size, Array.length_toList] at hle ⊢; omega
      have e : IntKind.i64.max = 9223372036854775807 := rfl
      simp [binOp, Op.stringOp, e, h1]
    · simp at h
  all_goals (subst h)
  case eql => exact ⟨.bool _, by simp [binOp, Op.stringOp, bytes_toList, beqd], .bool _⟩
  case neq => exact ⟨.bool _, by simp [binOp, Op.stringOp, bytes_toList, beqd], .bool _⟩
  case lss => exact ⟨.bool _, by simp [binOp, Op.stringOp, bytes_toList, beqd], .bool _⟩
  case leq => exact ⟨.bool _, by simp [binOp, Op.stringOp, bytes_toList, beqd], .bool _⟩
  case gtr => exact ⟨.bool _, by simp [binOp, Op.stringOp, bytes_toList, beqd], .bool _⟩
  case geq => exact ⟨.bool _, by simp [binOp, Op.stringOp, bytes_toList, beqd], .bool _⟩
theorem eqGuard_not {op : BinOp} (h : op ≠ .eql ∧ op ≠ .neq) (t : TypeId) (x y : Operand) (u v : Value) : eqGuard op t x y u v = pure () := by
  cases op <;> first | rfl | exact absurd rfl h.1 | exact absurd rfl h.2
theorem quiet_bin {o : Oper} {op : BinOp} {t u : TypeId} {x y : Operand} {x' y' : Opd} {v : V} (ho : o.op = .binOp op t x y u)
    (hf : ∀ t, t < nt → Rel φ I w (env t) (a.tmps.getD t undef)) (hx : cOpd nt x = some x') (hy : cOpd nt y = some y') {σ' : St} (he : evI env σ (.bin op x' y') = some (v, σ')) : σ' = σ ∧ Quiet P φ I w a o v := by
  have h1 := cOpd_rel hf hx
  have h2 := cOpd_rel hf hy
  obtain ⟨dst, op', ty, pos, after, guard⟩ := o
  simp only at ho; subst ho
  simp only [evI, Option.map_eq_some_iff, Prod.mk.injEq] at he
  obtain ⟨v', he, rfl, rfl⟩ := he
  refine ⟨rfl, ?_⟩
  unfold binV at he
  split at he
  · rename_i k x1 k' y1 e1 e2
    rw [e1] at h1; rw [e2] at h2
    have h1 := h1.int_inv
    have h2 := h2.int_inv
    split at he
    · split at he
      · simp at he
      · rename_i hn
        simp only [Option.some.injEq] at he; subst he
        exact ⟨_, by simp [execOp, h1, h2, eqGuard, binOp, Op.shift, hn], .int _ _⟩
    · split at he
      · simp at he
      · rename_i hn
        simp only [Option.some.injEq] at he; subst he
        exact ⟨_, by simp [execOp, h1, h2, eqGuard, binOp, Op.shift, hn], .int _ _⟩
    · rename_i n1 n2
      split at he
      · rename_i hk; subst hk
        obtain ⟨c, hc, hr⟩ := intBin_run (P := P) (φ := φ) (I := I) (w := w) he ⟨n1, n2⟩ t
        refine ⟨c, ?_, hr⟩
        have hg : eqGuard op t x y (.int k x1) (.int k y1) = pure () := by cases op <;> rfl
        simp [execOp, h1, h2, hg, hc]
      · simp at he
  · rename_i s1 s2 e1 e2
    rw [e1] at h1; rw [e2] at h2
    obtain ⟨b1, q1, rfl⟩ := h1.str_inv
    obtain ⟨b2, q2, rfl⟩ := h2.str_inv
    obtain ⟨c, hc, hr⟩ := strBin_run (P := P) (φ := φ) (I := I) (w := w) he t
    refine ⟨c, ?_, hr⟩
    have hg : eqGuard op t x y (.string b1) (.string b2) = pure () := by cases op <;> rfl
    simp [execOp, q1, q2, hg, hc]
  · simp at he
end
end Go.Proofs.YtmkgmjdbgjiehaaDoor.Ab
namespace Go.Proofs.YtmkgmjdbgjiehaaDoor.Ab
open Go.RowKit
set_option linter.unusedVariables false
set_option linter.unusedSimpArgs false
section
variable {P : Program} {φ : Phi} {I : Nat → Prop} {σ : St} {w : World} {nt : Nat} {env : Env} {a : Act}
theorem eq_at (t : TypeId) (x y : Value) {d : TypeDesc} (h : P.underlying t = some d) {r : Bool} (hr : ∀ n, (Op.equalIn (n + 1) t x y).run P w = .ok r w) : (Op.equal t x y).run P w = .ok r w := hr 9999
theorem eq_bool (t : TypeId) (x y : Bool) (h : P.underlying t = some .bool) : (Op.equal t (.bool x) (.bool y)).run P w = .ok (x == y) w :=
  eq_at t _ _ h fun n => by rw [Op.equalIn, Sem.run_bind, run_underlying h]; rfl
theorem eq_p1 (t : TypeId) (b : Option Addr) {e : TypeId} (h : P.underlying t = some (.pointer e)) : (Op.equal t (.pointer none) (.pointer b)).run P w = .ok b.isNone w :=
  eq_at t _ _ h fun n => by rw [Op.equalIn, Sem.run_bind, run_underlying h]; rfl
theorem eq_p2 (t : TypeId) (b : Addr) {e : TypeId} (h : P.underlying t = some (.pointer e)) : (Op.equal t (.pointer (some b)) (.pointer none)).run P w = .ok false w :=
  eq_at t _ _ h fun n => by rw [Op.equalIn, Sem.run_bind, run_underlying h]; rfl
theorem eq_s1 (t : TypeId) (b : Option Addr) (l c : Nat) {e : TypeId} (h : P.underlying t = some (.slice e)) : (Op.equal t (.slice none 0 0) (.slice b l c)).run P w = .ok b.isNone w :=
  eq_at t _ _ h fun n => by rw [Op.equalIn, Sem.run_bind, run_underlying h]; rfl
theorem eq_s2 (t : TypeId) (b : Addr) (l c : Nat) {e : TypeId} (h : P.underlying t = some (.slice e)) : (Op.equal t (.slice (some b) l c) (.slice none 0 0)).run P w = .ok false w :=
  eq_at t _ _ h fun n => by rw [Op.equalIn, Sem.run_bind, run_underlying h]; rfl
theorem eq_m1 (t : TypeId) (b : Option Nat) {k e : TypeId} (h : P.underlying t = some (.map k e)) : (Op.equal t (.map none) (.map b)).run P w = .ok b.isNone w :=
  eq_at t _ _ h fun n => by rw [Op.equalIn, Sem.run_bind, run_underlying h]; rfl
theorem eq_m2 (t : TypeId) (b : Nat) {k e : TypeId} (h : P.underlying t = some (.map k e)) : (Op.equal t (.map (some b)) (.map none)).run P w = .ok false w :=
  eq_at t _ _ h fun n => by rw [Op.equalIn, Sem.run_bind, run_underlying h]; rfl
theorem eq_f0 (t : TypeId) {ps rs : Array TypeId} {va : Bool} (h : P.underlying t = some (.func ps rs va)) : (Op.equal t .nilFunc .nilFunc).run P w = .ok true w :=
  eq_at t _ _ h fun n => by rw [Op.equalIn, Sem.run_bind, run_underlying h]; rfl
theorem eq_f1 (t : TypeId) {ps rs : Array TypeId} {va : Bool} (h : P.underlying t = some (.func ps rs va)) (f : Fn) (x y : Array Value) : (Op.equal t .nilFunc (.func f x y)).run P w = .ok false w :=
  eq_at t _ _ h fun n => by rw [Op.equalIn, Sem.run_bind, run_underlying h]; rfl
theorem eq_f2 (t : TypeId) {ps rs : Array TypeId} {va : Bool} (h : P.underlying t = some (.func ps rs va)) (f : Fn) (x y : Array Value) : (Op.equal t (.func f x y) .nilFunc).run P w = .ok false w :=
  eq_at t _ _ h fun n => by rw [Op.equalIn, Sem.run_bind, run_underlying h]; rfl
theorem eq_i0 (t : TypeId) {ms : Array (String × TypeId)} (h : P.underlying t = some (.interface ms)) : (Op.equal t .nilIface .nilIface).run P w = .ok true w :=
  eq_at t _ _ h fun n => by rw [Op.equalIn, Sem.run_bind, run_underlying h]; rfl
theorem eq_i1 (t : TypeId) {ms : Array (String × TypeId)} (h : P.underlying t = some (.interface ms)) (u : TypeId) (v : Value) : (Op.equal t .nilIface (.iface u v)).run P w = .ok false w :=
  eq_at t _ _ h fun n => by rw [Op.equalIn, Sem.run_bind, run_underlying h]; rfl
theorem eq_i2 (t : TypeId) {ms : Array (String × TypeId)} (h : P.underlying t = some (.interface ms)) (u : TypeId) (v : Value) : (Op.equal t (.iface u v) .nilIface).run P w = .ok false w :=
  eq_at t _ _ h fun n => by rw [Op.equalIn, Sem.run_bind, run_underlying h]; rfl
abbrev EnvR (φ : Phi) (I : Nat → Prop) (w : World) (nt : Nat) (env : Env) (a : Act) : Prop := ∀ t, t < nt → Rel φ I w (env t) (a.tmps.getD t undef)
theorem quiet_beq {o : Oper} {op : BinOp} {neg : Bool} {t u : TypeId} {x y : Operand} {x' y' : Opd} {v : V} (ho : o.op = .binOp op t x y u) (hop : op = if neg then .neq else .eql) (ht : P.underlying t = some .bool)
    (hf : EnvR φ I w nt env a) (hx : cOpd nt x = some x') (hy : cOpd nt y = some y') {σ' : St} (he : evI env σ (.beq neg x' y') = some (v, σ')) : σ' = σ ∧ Quiet P φ I w a o v := by
  have h1 := cOpd_rel hf hx
  have h2 := cOpd_rel hf hy
  obtain ⟨dst, op', ty, pos, after, guard⟩ := o
  simp only at ho; subst ho
  simp only [evI] at he
  split at he
  · rename_i b1 b2 e1 e2
    rw [e1] at h1; rw [e2] at h2
    have h1 := h1.bool_inv
    have h2 := h2.bool_inv
    simp only [Option.some.injEq, Prod.mk.injEq] at he
    obtain ⟨rfl, rfl⟩ := he
    refine ⟨rfl, _, ?_, .bool _⟩
    have hg : eqGuard op t x y (.bool b1) (.bool b2) = pure () := by cases op <;> rfl
    subst hop
    cases neg
    · simp only [Bool.false_eq_true, if_false] at hg ⊢
      simp [execOp, h1, h2, hg, binOp, eq_bool t _ _ ht, beqd]
    · simp only [if_true] at hg ⊢
      simp [execOp, h1, h2, hg, binOp, eq_bool t _ _ ht, beqd]
  · simp at he
def famOf : TypeDesc → Nat
  | .pointer _ => 1
  | .slice _ => 2
  | .func _ _ _ => 3
  | .interface _ => 4
  | .map _ _ => 5
  | _ => 0
theorem quiet_nq {o : Oper} {op : BinOp} {neg : Bool} {t u : TypeId} {x y : Operand} {x' y' : Opd} {d : TypeDesc} {fam : Nat} {v : V} (ho : o.op = .binOp op t x y u) (hop : op = if neg then .neq else .eql) (ht : P.underlying t = some d)
    (hd : famOf d = fam) (hfam : 0 < fam) (hk : fam = 4 → (isConstO x || isConstO y) = true)
    (hf : EnvR φ I w nt env a) (hx : cOpd nt x = some x') (hy : cOpd nt y = some y') {σ' : St} (he : evI env σ (.nq neg fam x' y') = some (v, σ')) : σ' = σ ∧ Quiet P φ I w a o v := by
  have h1 := cOpd_rel hf hx
  have h2 := cOpd_rel hf hy
  obtain ⟨dst, op', ty, pos, after, guard⟩ := o
  simp only at ho; subst ho
  simp only [evI, Option.map_eq_some_iff, Prod.mk.injEq] at he
  obtain ⟨b, he, rfl, rfl⟩ := he
  refine ⟨rfl, .bool _, ?_, .bool _⟩
  unfold nilEq at he
  split at he
  · rename_i f1 n1 f2 n2 e1 e2
    split at he
    · rename_i hc
      obtain ⟨rfl, hc2, hc3⟩ := hc
      simp only [Option.some.injEq] at he
      subst he
      have hg : eqGuard op t x y (a.eval x) (a.eval y) = pure () := by
        by_cases h4 : f1 = 4
        · have hk := hk h4
          subst hop
          generalize a.eval x = A at h1 ⊢
          generalize a.eval y = B at h2 ⊢
          subst h4; subst hc2
          cases hX : x'.ev env <;> rw [hX] at e1 h1 <;> simp [nilK] at e1 <;> cases hY : y'.ev env <;> rw [hY] at e2 h2 <;> simp [nilK] at e2 <;> cases h1 <;> cases h2 <;> cases neg <;> simp [eqGuard] <;> (try rfl) <;>
            (intro hh1 hh2; cases x <;> cases y <;> simp_all [isConstO])
        · generalize a.eval x = A at h1 ⊢
          generalize a.eval y = B at h2 ⊢
          cases hX : x'.ev env <;> rw [hX] at e1 h1 <;> simp [nilK] at e1 <;> (try omega) <;> cases h1 <;> cases op <;> rfl
      have key : ∀ (A B : Value), Rel φ I w (x'.ev env) A → Rel φ I w (y'.ev env) B → (Op.equal t A B).run P w = .ok (n1 && n2) w := fun A B hA hB => by
        cases hX : x'.ev env <;> rw [hX] at e1 hA <;> simp only [nilK, reduceCtorEq, Option.some.injEq, Prod.mk.injEq] at e1 <;> obtain ⟨rfl, rfl⟩ := e1 <;>
          cases hY : y'.ev env <;> rw [hY] at e2 hB <;> simp only [nilK, reduceCtorEq, Option.some.injEq, Prod.mk.injEq] at e2 <;> obtain ⟨q, rfl⟩ := e2 <;> subst hc2 <;> (try (simp at q; done)) <;> (try (simp at hc3; done)) <;>
          cases d <;> simp only [famOf, reduceCtorEq, Nat.succ_ne_zero, Nat.reduceEqDiff] at hd <;> cases hA <;> cases hB <;>
          first
            | exact eq_p1 t _ ht
            | exact eq_p2 t _ ht
            | exact eq_s1 t _ _ _ ht
            | exact eq_s2 t _ _ _ ht
            | exact eq_m1 t _ ht
            | exact eq_m2 t _ ht
            | exact eq_f0 t ht
            | exact eq_f1 t ht _ _ _
            | exact eq_f2 t ht _ _ _
            | exact eq_i0 t ht
            | exact eq_i1 t ht _ _
            | exact eq_i2 t ht _ _
      have key := key _ _ h1 h2
      have hb : ∀ (op : BinOp), op = .eql ∨ op = .neq → (binOp op t (a.eval x) (a.eval y)).run P w = .ok (.bool (if op = .neq then !(n1 && n2) else (n1 && n2))) w := fun op hop => by
        generalize a.eval x = A at h1 key ⊢
        generalize a.eval y = B at h2 key ⊢
        cases hX : x'.ev env <;> rw [hX] at e1 h1 <;> simp only [nilK, reduceCtorEq] at e1 <;> cases h1 <;> rcases hop with rfl | rfl <;> simp [binOp, key]
      subst hop
      cases neg
      · simp only [Bool.false_eq_true, if_false] at hg hb ⊢
        simp [execOp, hg, hb]
      · simp only [if_true] at hg hb ⊢
        simp [execOp, hg, hb]
    · simp at he
  · simp at he
end
end Go.Proofs.YtmkgmjdbgjiehaaDoor.Ab
namespace Go.Proofs.YtmkgmjdbgjiehaaDoor.Ab
open Go.RowKit
set_option linter.unusedVariables false
set_option linter.unusedSimpArgs false
section
variable {P : Program} {φ : Phi} {I : Nat → Prop} {σ : St} {w : World} {nt : Nat} {env : Env} {a : Act}
theorem quiet_un {o : Oper} {op : UnOp} {t : TypeId} {x : Operand} {x' : Opd} {v : V} (ho : o.op = .unOp op t x)
    (hf : EnvR φ I w nt env a) (hx : cOpd nt x = some x') {σ' : St} (he : evI env σ (.un op x') = some (v, σ')) : σ' = σ ∧ Quiet P φ I w a o v := by
  have h := cOpd_rel hf hx
  obtain ⟨dst, op', ty, pos, after, guard⟩ := o
  simp only at ho; subst ho
  simp only [evI] at he
  split at he <;> simp only [Option.some.injEq, Prod.mk.injEq, reduceCtorEq] at he
  · rename_i k n e; obtain ⟨rfl, rfl⟩ := he; rw [e] at h; exact ⟨rfl, .int k (k.wrap (0 - n)), by simp [execOp, h.int_inv, Op.unary, Op.intArith], .int _ _⟩
  · rename_i k n e; obtain ⟨rfl, rfl⟩ := he; rw [e] at h; exact ⟨rfl, .int k _, by simp [execOp, h.int_inv, Op.unary, Op.intBits], .int _ _⟩
  · rename_i b e; obtain ⟨rfl, rfl⟩ := he; rw [e] at h; exact ⟨rfl, .bool !b, by simp [execOp, h.bool_inv, Op.unary], .bool _⟩
theorem quiet_cvi {o : Oper} {s t : TypeId} {k ks : IntKind} {x : Operand} {x' : Opd} {v : V} (ho : o.op = .convert s t x) (hs : P.underlying s = some (.int ks)) (ht : P.underlying t = some (.int k))
    (hf : EnvR φ I w nt env a) (hx : cOpd nt x = some x') {σ' : St} (he : evI env σ (.cvi k x') = some (v, σ')) : σ' = σ ∧ Quiet P φ I w a o v := by
  have h := cOpd_rel hf hx
  obtain ⟨dst, op', ty, pos, after, guard⟩ := o
  simp only at ho; subst ho
  simp only [evI] at he
  split at he <;> simp only [Option.some.injEq, Prod.mk.injEq, reduceCtorEq] at he
  rename_i k' n e; obtain ⟨rfl, rfl⟩ := he; rw [e] at h
  exact ⟨rfl, .int k (k.wrap n), by simp [execOp, h.int_inv, convert, run_underlying hs, run_underlying ht, Conv.intToInt], .int _ _⟩
theorem quiet_cvs {o : Oper} {s t : TypeId} {x : Operand} {x' : Opd} {v : V} (ho : o.op = .convert s t x) (hs : P.underlying s = some .string) (ht : P.underlying t = some .string)
    (hf : EnvR φ I w nt env a) (hx : cOpd nt x = some x') {σ' : St} (he : evI env σ (.cvs x') = some (v, σ')) : σ' = σ ∧ Quiet P φ I w a o v := by
  have h := cOpd_rel hf hx
  obtain ⟨dst, op', ty, pos, after, guard⟩ := o
  simp only at ho; subst ho
  simp only [evI] at he
  split at he <;> simp only [Option.some.injEq, Prod.mk.injEq, reduceCtorEq] at he
  rename_i l e; obtain ⟨rfl, rfl⟩ := he; rw [e] at h
  obtain ⟨b, hb, hl⟩ := h.str_inv
  exact ⟨rfl, .string b, by simp [execOp, hb, convert, run_underlying hs, run_underlying ht], .str hl⟩
theorem quiet_mki {o : Oper} {t : TypeId} {d : TypeDesc} {x : Operand} {x' : Opd} {v : V} (ho : o.op = .makeInterface t x) (ht : P.underlying t = some d) (hd : ∀ ms, d ≠ .interface ms)
    (hf : EnvR φ I w nt env a) (hx : cOpd nt x = some x') {σ' : St} (he : evI env σ (.mki t x') = some (v, σ')) : σ' = σ ∧ Quiet P φ I w a o v := by
  have h := cOpd_rel hf hx
  obtain ⟨dst, op', ty, pos, after, guard⟩ := o
  simp only at ho; subst ho
  simp only [evI, Option.some.injEq, Prod.mk.injEq] at he
  obtain ⟨rfl, rfl⟩ := he
  refine ⟨rfl, .iface t (a.eval x), ?_, .iface _ h⟩
  cases d <;> first | exact absurd rfl (hd _) | simp [execOp, Instr.makeInterface, run_underlying ht]
theorem rels_map (hf : EnvR φ I w nt env a) {xs : Array Operand} {xs' : List Opd} (h : cOpds nt xs.toList = some xs') :
    (xs.map a.eval).size = (xs'.map (·.ev env)).length ∧ ∀ i v, (xs'.map (·.ev env))[i]? = some v → Rel φ I w v ((xs.map a.eval).getD i undef) := by
  obtain ⟨h1, h2⟩ := mapM_some h
  refine ⟨by simp [h1], fun i v hv => ?_⟩
  simp only [List.getElem?_map, Option.map_eq_some_iff] at hv
  obtain ⟨y, hy, rfl⟩ := hv
  obtain ⟨x, hx, hxy⟩ := h2 i y hy
  have hx : xs[i]? = some x := by simpa using hx
  have : (xs.map a.eval).getD i undef = a.eval x := by simp [hx]
  rw [this]
  exact cOpd_rel hf hxy
theorem quiet_mkf {o : Oper} {fn : Fn} {xs ys : Array Operand} {xs' ys' : List Opd} {v : V} (ho : o.op = .makeFunc fn xs ys)
    (hf : EnvR φ I w nt env a) (hx : cOpds nt xs.toList = some xs') (hy : cOpds nt ys.toList = some ys') {σ' : St} (he : evI env σ (.mkf fn xs' ys') = some (v, σ')) : σ' = σ ∧ Quiet P φ I w a o v := by
  obtain ⟨h1, h2⟩ := rels_map hf hx
  obtain ⟨h3, h4⟩ := rels_map hf hy
  obtain ⟨dst, op', ty, pos, after, guard⟩ := o
  simp only at ho; subst ho
  simp only [evI, Option.some.injEq, Prod.mk.injEq] at he
  obtain ⟨rfl, rfl⟩ := he
  exact ⟨rfl, .func fn (xs.map a.eval) (ys.map a.eval), by simp [execOp, Instr.makeFunc], .func _ h1 h2 h3 h4⟩
theorem quiet_fa {o : Oper} {s : TypeId} {x : Operand} {x' : Opd} {f : Nat} {d : Nat × TypeId × Nat} {v : V} (ho : o.op = .fieldAddr s x f) (hd : fieldD P s f = some d) (hn : d.2.2 ≠ 0)
    (hf : EnvR φ I w nt env a) (hx : cOpd nt x = some x') {σ' : St} (he : evI env σ (.fa d.1 x') = some (v, σ')) : σ' = σ ∧ Quiet P φ I w a o v := by
  have h := cOpd_rel hf hx
  obtain ⟨dst, op', ty, pos, after, guard⟩ := o
  simp only at ho; subst ho
  unfold fieldD at hd
  split at hd
  · rename_i fs hu
    simp only [Option.bind_eq_some_iff, Option.map_eq_some_iff] at hd
    obtain ⟨fd, hfd, n, hsz, rfl⟩ := hd
    have key : ∀ ad, a.eval x = .pointer (some ad) → (execOp a.eval ⟨dst, .fieldAddr s x f, ty, pos, after, guard⟩).run P w = .ok (.value (.pointer (some (ad.add fd.offset)))) w := fun ad hq => by
      have : (fieldPlace ad fd).run P w = .ok (ad.add fd.offset) w := by
        unfold fieldPlace
        rw [Sem.run_bind, run_sizeOf hsz]
        simp only at hn
        simp [hn]
      simp [execOp, Instr.fieldAt, run_underlying hu, hfd, hq, Instr.sureAddr, this]
    simp only [evI] at he
    split at he <;> simp only [Option.some.injEq, Prod.mk.injEq, reduceCtorEq] at he
    · rename_i l i j e
      obtain ⟨rfl, rfl⟩ := he
      rw [e] at h
      generalize hq : a.eval x = q at h
      cases h with
      | ptr i j hφ => exact ⟨rfl, _, key _ hq, by rw [Addr.add_lit, Nat.add_assoc]; exact .ptr i _ hφ⟩
    · rename_i l j e
      obtain ⟨rfl, rfl⟩ := he
      rw [e] at h
      generalize hq : a.eval x = q at h
      cases h with
      | iptr j hI hc ho hp hr => exact ⟨rfl, _, key _ hq, by rw [Addr.add_lit, Nat.add_assoc]; exact .iptr _ hI hc ho hp hr⟩
  · simp at hd
theorem run_part_agg {t : TypeId} {d : TypeDesc} {n : Nat} (hd : P.underlying t = some d) (hag : isAggD d = true) (hn : sizeD P t = some n) (cs : Array Value) (o : Nat) :
    (part t cs o).run P w = .ok (.agg (cs.extract o (o + n))) w := by
  simp [part, run_isAgg hd, hag, run_sizeOf hn]
theorem run_part_one {t : TypeId} {d : TypeDesc} (hd : P.underlying t = some d) (hag : isAggD d = false) (cs : Array Value) (o : Nat) (h : o < cs.size) :
    (part t cs o).run P w = .ok (cs.getD o undef) w := by
  simp [part, run_isAgg hd, hag, h]
theorem Rel.sub {vs : List V} {cs : Array Value} (h : cs.size = vs.length) (r : ∀ i v, vs[i]? = some v → Rel φ I w v (cs.getD i undef)) {o n : Nat} (hl : o + n ≤ vs.length) :
    Rel φ I w (.agg ((vs.drop o).take n)) (.agg (cs.extract o (o + n))) := by
  refine .agg (by simp; omega) (fun i v hv => ?_)
  have hi : i < n := by have := (List.getElem?_eq_some_iff.1 hv).1; simp at this; omega
  simp only [List.getElem?_take, hi, if_true, List.getElem?_drop] at hv
  have := r _ _ hv
  have hs : o + i < cs.size := by omega
  simp only [Array.getD_eq_getD_getElem?] at this ⊢
  rw [Array.getElem?_extract]
  simpa [show i < min (o + n) cs.size - o by omega] using this
theorem quiet_fld {o : Oper} {s : TypeId} {x : Operand} {x' : Opd} {f : Nat} {d : Nat × TypeId × Nat} {u : TypeDesc} {v : V} (ho : o.op = .field s x f) (hd : fieldD P s f = some d) (hu : P.underlying d.2.1 = some u)
    (hf : EnvR φ I w nt env a) (hx : cOpd nt x = some x') {σ' : St} (he : evI env σ (.fld (if isAggD u then some d.2.2 else none) d.1 x') = some (v, σ')) : σ' = σ ∧ Quiet P φ I w a o v := by
  have h := cOpd_rel hf hx
  obtain ⟨dst, op', ty, pos, after, guard⟩ := o
  simp only at ho; subst ho
  unfold fieldD at hd
  split at hd
  · rename_i fs hs
    simp only [Option.bind_eq_some_iff, Option.map_eq_some_iff] at hd
    obtain ⟨fd, hfd, n, hsz, rfl⟩ := hd
    simp only [evI] at he
    split at he <;> (try (simp only [reduceCtorEq] at he; done))
    rename_i vs e
    rw [e] at h
    generalize hq : a.eval x = q at h
    cases h with
    | agg hl hr =>
      rename_i cs
      split at he
      · rename_i hif
        simp only [Option.map_eq_some_iff, Prod.mk.injEq] at he
        obtain ⟨v', hv, rfl, rfl⟩ := he
        have hag : isAggD u = false := by cases hh : isAggD u <;> simp_all
        have hlt := (List.getElem?_eq_some_iff.1 hv).1
        have hp : (part fd.type cs fd.offset).run P w = .ok (cs.getD fd.offset undef) w := run_part_one hu hag cs _ (by omega)
        exact ⟨rfl, _, by simp only [execOp, Instr.field, hq, asAgg, Sem.run_bind, run_underlying hs, Result.andThen_ok, hfd, Sem.run_pure, hp], hr _ _ hv⟩
      · rename_i n' hif
        split at he
        · rename_i hle
          simp only [Option.some.injEq, Prod.mk.injEq] at he
          obtain ⟨rfl, rfl⟩ := he
          have hag : isAggD u = true := by cases hh : isAggD u <;> simp_all
          simp only [hag, if_true, Option.some.injEq] at hif
          subst hif
          have hp : (part fd.type cs fd.offset).run P w = .ok (.agg (cs.extract fd.offset (fd.offset + n))) w := run_part_agg hu hag hsz cs _
          exact ⟨rfl, _, by simp only [execOp, Instr.field, hq, asAgg, Sem.run_bind, run_underlying hs, Result.andThen_ok, hfd, Sem.run_pure, hp], Rel.sub hl hr hle⟩
        · simp at he
  · simp at hd
theorem quiet_ext {o : Oper} {x : Operand} {x' : Opd} {i : Nat} {v : V} (ho : o.op = .extract x i)
    (hf : EnvR φ I w nt env a) (hx : cOpd nt x = some x') {σ' : St} (he : evI env σ (.ext x' i) = some (v, σ')) : σ' = σ ∧ Quiet P φ I w a o v := by
  have h := cOpd_rel hf hx
  obtain ⟨dst, op', ty, pos, after, guard⟩ := o
  simp only at ho; subst ho
  simp only [evI] at he
  split at he <;> (try (simp only [reduceCtorEq] at he; done))
  rename_i vs e
  rw [e] at h
  simp only [Option.map_eq_some_iff, Prod.mk.injEq] at he
  obtain ⟨v', hv, rfl, rfl⟩ := he
  generalize hq : a.eval x = q at h
  cases h with
  | tup hl hr =>
    rename_i cs
    have hlt := (List.getElem?_eq_some_iff.1 hv).1
    have hlt' : i < cs.size := by omega
    have : cs[i]? = some (cs.getD i undef) := by rw [Array.getD_eq_getD_getElem?, getElem?_pos cs i hlt']; rfl
    exact ⟨rfl, _, by simp only [execOp, Instr.extract, hq, this, Sem.run_bind, Sem.run_pure, Result.andThen_ok], hr _ _ hv⟩
theorem quiet_slen {o : Oper} {c : Call} {x : Operand} {x' : Opd} {t : TypeId} {v : V} (ho : o.op = .call c) (hc : c.callee = .builtin .len) (ht : c.argTypes[0]? = some t) (ha : c.args.toList = [x]) (hu : P.underlying t = some .string)
    (hf : EnvR φ I w nt env a) (hx : cOpd nt x = some x') {σ' : St} (he : evI env σ (.slen x') = some (v, σ')) : σ' = σ ∧ Quiet P φ I w a o v := by
  have h := cOpd_rel hf hx
  obtain ⟨dst, op', ty, pos, after, guard⟩ := o
  simp only at ho; subst ho
  obtain ⟨cal, args, ts⟩ := c
  simp only at hc ht ha; subst hc
  obtain rfl : args = #[x] := by cases args; simp_all
  simp only [evI] at he
  split at he <;> simp only [Option.some.injEq, Prod.mk.injEq, reduceCtorEq] at he
  rename_i s e; obtain ⟨rfl, rfl⟩ := he; rw [e] at h
  obtain ⟨b, hb, rfl⟩ := h.str_inv
  refine ⟨rfl, .int .i64 b.size, ?_, .int _ _⟩
  simp [execOp, resolve, invoke, builtin, Builtin.len_, ht, hb, run_underlying hu, goInt]
theorem quiet_llen {o : Oper} {c : Call} {x : Operand} {x' : Opd} {t e : TypeId} {v : V} (ho : o.op = .call c) (hc : c.callee = .builtin .len) (ht : c.argTypes[0]? = some t) (ha : c.args.toList = [x]) (hu : P.underlying t = some (.slice e))
    (hf : EnvR φ I w nt env a) (hx : cOpd nt x = some x') {σ' : St} (he : evI env σ (.llen x') = some (v, σ')) : σ' = σ ∧ Quiet P φ I w a o v := by
  have h := cOpd_rel hf hx
  obtain ⟨dst, op', ty, pos, after, guard⟩ := o
  simp only at ho; subst ho
  obtain ⟨cal, args, ts⟩ := c
  simp only at hc ht ha; subst hc
  obtain rfl : args = #[x] := by cases args; simp_all
  simp only [evI] at he
  generalize hq : a.eval x = q at h
  split at he <;> simp only [Option.some.injEq, Prod.mk.injEq, reduceCtorEq] at he <;> obtain ⟨rfl, rfl⟩ := he <;> rename_i e <;> rw [e] at h <;> cases h <;>
    refine ⟨rfl, .int .i64 _, by simp [execOp, resolve, invoke, builtin, Builtin.len_, ht, hq, run_underlying hu, goInt], .int _ _⟩
theorem quiet_sx {o : Oper} {t : TypeId} {x y : Operand} {x' y' : Opd} {v : V} (ho : o.op = .index t x y) (hu : P.underlying t = some .string)
    (hf : EnvR φ I w nt env a) (hx : cOpd nt x = some x') (hy : cOpd nt y = some y') {σ' : St} (he : evI env σ (.sx x' y') = some (v, σ')) : σ' = σ ∧ Quiet P φ I w a o v := by
  have h1 := cOpd_rel hf hx
  have h2 := cOpd_rel hf hy
  obtain ⟨dst, op', ty, pos, after, guard⟩ := o
  simp only at ho; subst ho
  simp only [evI] at he
  split at he <;> (try (simp only [reduceCtorEq] at he; done))
  rename_i s k n e1 e2
  rw [e1] at h1; rw [e2] at h2
  obtain ⟨b, hb, rfl⟩ := h1.str_inv
  have h2 := h2.int_inv
  split at he
  · rename_i h0
    simp only [Option.map_eq_some_iff, Prod.mk.injEq] at he
    obtain ⟨u, hu', rfl, rfl⟩ := he
    have hg : b[n.toNat]? = some u := by
      obtain ⟨hlt, he⟩ := List.getElem?_eq_some_iff.1 hu'
      have hlt' : n.toNat < b.size := by simpa using hlt
      rw [getElem?_pos b n.toNat hlt']
      congr 1
    refine ⟨rfl, .int .u8 u.toNat, ?_, .int _ _⟩
    simp [execOp, Instr.index, hb, h2, asIntOf, run_underlying hu, h0, hg]
  · simp at he
end
end Go.Proofs.YtmkgmjdbgjiehaaDoor.Ab
