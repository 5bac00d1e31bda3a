/-
The walk over the program's texts, told with what its values say: a part of it. No further condition.
-/
import Derived.Test.YtmjbnfldehbmcaaDoorAb1
namespace Go.Proofs.YtmjbnfldehbmcaaDoor.Ab
open Go.RowKit
set_option linter.unusedVariables false
def V.cells : V → List V
  | .agg cs => cs
  | v => [v]
def V.scal : V → Bool
  | .agg _ | .tup _ | .any => false
  | _ => true
abbrev Env := Nat → V
def Env.put (env : Env) (d : Option Nat) (v : V) : Env :=
  match d with
  | some d => fun t => if t = d then v else env t
  | none => env
inductive Opd where
  | t (i : Nat)
  | c (v : V)
def Opd.ev (env : Env) : Opd → V
  | .t i => env i
  | .c v => v
def upd (H : Nat → Option Blk) (l : Nat) (b : Option Blk) : Nat → Option Blk := fun k => if k = l then b else H k
def St.new (σ : St) (b : Blk) : St := ⟨upd σ.H σ.n (some b), σ.n + 1, σ.W⟩
def St.set (σ : St) (l : Nat) (b : Blk) : St := ⟨upd σ.H l (some b), σ.n, σ.W⟩
def St.kill (σ : St) (l : Nat) : St := ⟨upd σ.H l none, σ.n, σ.W⟩
def setAt (cs : List V) (j : Nat) (vs : List V) : List V := cs.take j ++ vs ++ cs.drop (j + vs.length)
def byteE (b : UInt8) : List V := [.int .u8 b.toNat]
def byteOf : List V → Option UInt8
  | [.int .u8 n] => if 0 ≤ n ∧ n < 256 then some (UInt8.ofNat n.toNat) else none
  | _ => none
/-- What a slice reads as. -/
def cont (σ : St) (z : Nat) : V → Option (List (List V))
  | .nils => some []
  | .islc z' es => if z' = z then some es else none
  | .slc l off len =>
    match σ.H l with
    | some (.row z' es) => if z' = z ∧ off + len ≤ es.length then some ((es.drop off).take len) else none
    | _ => none
  | _ => none
/-- What is appended. -/
def srcOf (σ : St) (z : Nat) : V → Option (List (List V))
  | .str s => if z = 1 then some (s.map byteE) else none
  | v => cont σ z v
inductive CK where
  | int | str | bool
inductive Ins where
  | mv (x : Opd)
  | pick (c a b : Opd)
  | new (z : List V)
  | box (x : Opd)
  | build (z : List V) (ps : List (Nat × Nat × Opd))
  | bslice (z : List V) (len : Nat) (ps : List (Nat × Opd))
  | ld (x : Opd)
  | lda (n : Nat) (x : Opd)
  | st (n : Nat) (a x : Opd)
  | nilck (x : Opd)
  | bin (op : BinOp) (x y : Opd)
  | beq (neg : Bool) (x y : Opd)
  | nq (neg : Bool) (fam : Nat) (x y : Opd)
  | eqa (neg : Bool) (ks : List CK) (x y : Opd)
  | un (op : UnOp) (x : Opd)
  | cvi (k : IntKind) (x : Opd)
  | cvs (x : Opd)
  | s2b (x : Opd)
  | b2s (x : Opd)
  | b2b (x : Opd)
  | mki (t : TypeId) (x : Opd)
  | mkf (fn : Fn) (first captured : List Opd)
  | mkmap
  | mksl (bytes : Nat) (z : List V) (l c : Opd)
  | ssl (x : Opd) (lo hi : Option Opd)
  | lsl (z : Nat) (x : Opd) (lo hi : Option Opd)
  | fa (j : Nat) (x : Opd)
  | fld (n : Option Nat) (off : Nat) (x : Opd)
  | ia (z : Nat) (x i : Opd)
  | aa (n z : Nat) (x i : Opd)
  | sx (x i : Opd)
  | tas (t : TypeId) (zero : V) (ok : Bool) (x : Opd)
  | ext (x : Opd) (i : Nat)
  | slen (x : Opd)
  | llen (x : Opd)
  | app (bytes : Nat) (z : Nat) (x y : Opd)
  | mm (isMax : Bool) (xs : List Opd)
  | call (f : FuncId) (as : List Opd)
  | callv (f : Opd) (as : List Opd)
  | defer (f : Opd) (as : List Opd)
  | panic (x : Opd)
  | recover
def intBin (op : BinOp) (k : IntKind) (a b : Int) : Option V :=
  match op with
  | .add => some (.int k (k.wrap (a + b)))
  | .sub => some (.int k (k.wrap (a - b)))
  | .mul => some (.int k (k.wrap (a * b)))
  | .quo => if b = 0 then none else some (.int k (k.wrap (a.tdiv b)))
  | .rem => if b = 0 then none else some (.int k (a.tmod b))
  | .and => some (.int k (k.wrap (BitVec.ofInt k.bits a &&& BitVec.ofInt k.bits b).toNat))
  | .or => some (.int k (k.wrap (BitVec.ofInt k.bits a ||| BitVec.ofInt k.bits b).toNat))
  | .xor => some (.int k (k.wrap (BitVec.ofInt k.bits a ^^^ BitVec.ofInt k.bits b).toNat))
  | .andNot => some (.int k (k.wrap (BitVec.ofInt k.bits a &&& ~~~(BitVec.ofInt k.bits b)).toNat))
  | .eql => some (.bool (decide (a = b)))
  | .neq => some (.bool (decide (a ≠ b)))
  | .lss => some (.bool (decide (a < b)))
  | .leq => some (.bool (decide (a ≤ b)))
  | .gtr => some (.bool (decide (a > b)))
  | .geq => some (.bool (decide (a ≥ b)))
  | _ => none
def strBin (op : BinOp) (a b : List UInt8) : Option V :=
  match op with
  | .add => if a.length + b.length ≤ 9223372036854775807 then some (.str (a ++ b)) else none
  | .eql => some (.bool (decide (a = b)))
  | .neq => some (.bool (decide (a ≠ b)))
  | .lss => some (.bool (Op.bytesLess a b))
  | .leq => some (.bool (Op.bytesLess a b || decide (a = b)))
  | .gtr => some (.bool !(Op.bytesLess a b || decide (a = b)))
  | .geq => some (.bool !(Op.bytesLess a b))
  | _ => none
def binV (op : BinOp) : V → V → Option V
  | .int k a, .int k' b =>
    match op with
    | .shl => if b < 0 then none else some (.int k (k.wrap (a * 2 ^ (min b.toNat k.bits))))
    | .shr => if b < 0 then none else some (.int k (a.fdiv (2 ^ (min b.toNat k.bits))))
    | _ => if k = k' then intBin op k a b else none
  | .str a, .str b => strBin op a b
  | _, _ => none
/-- A value of a kind that can be nil: which kind, and whether it is. -/
def nilK : V → Option (Nat × Bool)
  | .nilp => some (1, true)
  | .ptr _ _ _ => some (1, false)
  | .iptr _ _ => some (1, false)
  | .nils => some (2, true)
  | .slc _ _ _ => some (2, false)
  | .islc _ _ => some (2, false)
  | .nilf => some (3, true)
  | .func _ _ _ => some (3, false)
  | .nili => some (4, true)
  | .iface _ _ => some (4, false)
  | .mapn => some (5, true)
  | .map _ => some (5, false)
  | _ => none
def nilEq (fam : Nat) (x y : V) : Option Bool :=
  match nilK x, nilK y with
  | some (f, a), some (g, b) => if f = fam ∧ g = fam ∧ (a || b) = true then some (a && b) else none
  | _, _ => none
def eqCells : List CK → List V → List V → Option Bool
  | [], [], [] => some true
  | .int :: ks, .int k a :: xs, .int k' b :: ys => if k = k' then (eqCells ks xs ys).map (decide (a = b) && ·) else none
  | .str :: ks, .str a :: xs, .str b :: ys => (eqCells ks xs ys).map (decide (a = b) && ·)
  | .bool :: ks, .bool a :: xs, .bool b :: ys => (eqCells ks xs ys).map (decide (a = b) && ·)
  | _, _, _ => none
def buildV (env : Env) : List V → List (Nat × Nat × Opd) → Option (List V)
  | cs, [] => some cs
  | cs, (off, size, x) :: ps =>
    if (x.ev env).cells.length = size ∧ off + size ≤ cs.length ∧ (x.ev env).cells.all V.scal = true then buildV env (setAt cs off (x.ev env).cells) ps else none
def bsliceV (env : Env) (z : Nat) : List (List V) → List (Nat × Opd) → Option (List (List V))
  | es, [] => some es
  | es, (i, x) :: ps => if (x.ev env).cells.length = z ∧ i < es.length ∧ (x.ev env).cells.all V.scal = true then bsliceV env z (es.set i (x.ev env).cells) ps else none
def bound (env : Env) (d : Nat) : Option Opd → Option Nat
  | none => some d
  | some x => match x.ev env with
    | .int _ n => if 0 ≤ n then some n.toNat else none
    | _ => none
def mmV (isMax : Bool) : V → V → Option V
  | .int k x, .int k' y => if k = k' then some (.int k (if isMax then (if y > x then y else x) else (if y < x then y else x))) else none
  | _, _ => none
def mmL (isMax : Bool) (v : V) : List V → Option V
  | [] => some v
  | y :: ys => (mmV isMax v y).bind fun v => mmL isMax v ys
def reach : Nat := 70368744177664
def evI (env : Env) (σ : St) : Ins → Option (V × St)
  | .mv x => some (x.ev env, σ)
  | .pick c a b => match c.ev env with
    | .bool t => some (if t then a.ev env else b.ev env, σ)
    | _ => none
  | .new z => some (.ptr σ.n 0 0, σ.new (.row z.length [z]))
  | .box x => if (x.ev env).cells.all V.scal = true ∧ 0 < (x.ev env).cells.length then some (.ptr σ.n 0 0, σ.new (.row (x.ev env).cells.length [(x.ev env).cells])) else none
  | .build z ps => (buildV env z ps).map fun cs => (.agg cs, σ)
  | .bslice z len ps => (bsliceV env z.length (List.replicate len z) ps).map fun es => (.slc σ.n 0 len, σ.new (.row z.length es))
  | .ld x => match x.ev env with
    | .ptr l i j => match σ.H l with
      | some (.row _ es) => ((es[i]?).bind (·[j]?)).map (·, σ)
      | _ => none
    | .iptr e j => (e[j]?).map (·, σ)
    | _ => none
  | .lda n x => match x.ev env with
    | .ptr l i j => match σ.H l with
      | some (.row _ es) => (es[i]?).bind fun e => if j + n ≤ e.length then some (.agg ((e.drop j).take n), σ) else none
      | _ => none
    | .iptr e j => if j + n ≤ e.length then some (.agg ((e.drop j).take n), σ) else none
    | _ => none
  | .st n a x => match a.ev env with
    | .ptr l i j => match σ.H l with
      | some (.row z es) => (es[i]?).bind fun e =>
        if (x.ev env).cells.length = n ∧ j + n ≤ e.length ∧ (x.ev env).cells.all V.scal = true then some (.tup [], σ.set l (.row z (es.set i (setAt e j (x.ev env).cells)))) else none
      | _ => none
    | _ => none
  | .nilck x => match x.ev env with
    | .ptr l i j => some (.ptr l i j, σ)
    | .iptr e j => some (.iptr e j, σ)
    | .func (.func f) a b => some (.func (.func f) a b, σ)
    | _ => none
  | .bin op x y => (binV op (x.ev env) (y.ev env)).map (·, σ)
  | .beq neg x y => match x.ev env, y.ev env with
    | .bool a, .bool b => some (.bool (if neg then decide (a ≠ b) else decide (a = b)), σ)
    | _, _ => none
  | .nq neg fam x y => (nilEq fam (x.ev env) (y.ev env)).map fun b => (.bool (if neg then !b else b), σ)
  | .eqa neg ks x y => match x.ev env, y.ev env with
    | .agg a, .agg b => (eqCells ks a b).map fun r => (.bool (if neg then !r else r), σ)
    | _, _ => none
  | .un op x => match op, x.ev env with
    | .neg, .int k n => some (.int k (k.wrap (0 - n)), σ)
    | .xor, .int k n => some (.int k (k.wrap (BitVec.ofInt k.bits (if k.signed then -1 else k.max) ^^^ BitVec.ofInt k.bits n).toNat), σ)
    | .not, .bool b => some (.bool !b, σ)
    | _, _ => none
  | .cvi k x => match x.ev env with
    | .int _ n => some (.int k (k.wrap n), σ)
    | _ => none
  | .cvs x => match x.ev env with
    | .str s => some (.str s, σ)
    | _ => none
  | .s2b x => match x.ev env with
    | .str s => some (.slc σ.n 0 s.length, σ.new (.row 1 (s.map byteE)))
    | _ => none
  | .b2s x => (cont σ 1 (x.ev env)).bind fun es => (es.mapM byteOf).map fun s => (.str s, σ)
  | .b2b x => match x.ev env with
    | .slc l off len => match σ.H l with
      | some (.row _ _) => if 0 < len then some (.slc l off len, σ) else none
      | _ => none
    | _ => none
  | .mki t x => some (.iface t (x.ev env), σ)
  | .mkf fn first captured => some (.func fn (first.map (·.ev env)) (captured.map (·.ev env)), σ)
  | .mkmap => some (.map σ.n, σ.new (.map []))
  | .mksl bytes z l c => match l.ev env, c.ev env with
    | .int _ a, .int _ b => if 0 ≤ a ∧ a ≤ b ∧ bytes * b ≤ reach ∧ b ≤ reach then some (.slc σ.n 0 a.toNat, σ.new (.row z.length (List.replicate a.toNat z))) else none
    | _, _ => none
  | .ssl x lo hi => match x.ev env with
    | .str s => (bound env s.length hi).bind fun h => (bound env 0 lo).bind fun l => if l ≤ h ∧ h ≤ s.length then some (.str ((s.take h).drop l), σ) else none
    | _ => none
  | .lsl z x lo hi => match x.ev env with
    | .nils => (bound env 0 hi).bind fun h => (bound env 0 lo).bind fun l => if l = 0 ∧ h = 0 then some (.nils, σ) else none
    | .islc z' es => (bound env es.length hi).bind fun h => (bound env 0 lo).bind fun l => if z' = z ∧ l ≤ h ∧ h ≤ es.length then some (.islc z ((es.take h).drop l), σ) else none
    | .slc p off len => (bound env len hi).bind fun h => (bound env 0 lo).bind fun l => match σ.H p with
      | some (.row z' es) => if z' = z ∧ l ≤ h ∧ off + h ≤ es.length then some (.slc p (off + l) (h - l), σ) else none
      | _ => none
    | _ => none
  | .fa k x => match x.ev env with
    | .ptr l i j => some (.ptr l i (j + k), σ)
    | .iptr e j => some (.iptr e (j + k), σ)
    | _ => none
  | .fld n off x => match x.ev env with
    | .agg cs => match n with
      | none => (cs[off]?).map (·, σ)
      | some n => if off + n ≤ cs.length then some (.agg ((cs.drop off).take n), σ) else none
    | _ => none
  | .ia z x i => match i.ev env with
    | .int _ k => if 0 ≤ k then match x.ev env with
        | .islc z' es => if z' = z then (es[k.toNat]?).map fun e => (.iptr e 0, σ) else none
        | .slc l off len => match σ.H l with
          | some (.row z' es) => if z' = z ∧ k.toNat < len then some (.ptr l (off + k.toNat) 0, σ) else none
          | _ => none
        | _ => none
      else none
    | _ => none
  | .aa n z x i => match i.ev env with
    | .int _ k => if 0 ≤ k ∧ k < n then match x.ev env with
        | .ptr l i j => some (.ptr l i (j + k.toNat * z), σ)
        | .iptr e j => some (.iptr e (j + k.toNat * z), σ)
        | _ => none
      else none
    | _ => none
  | .sx x i => match x.ev env, i.ev env with
    | .str s, .int _ k => if 0 ≤ k then (s[k.toNat]?).map fun b => (.int .u8 b.toNat, σ) else none
    | _, _ => none
  | .tas t zero ok x => match x.ev env with
    | .iface t' v => if t' = t then some (if ok then .tup [v, .bool true] else v, σ) else if ok then some (.tup [zero, .bool false], σ) else none
    | .nili => if ok then some (.tup [zero, .bool false], σ) else none
    | _ => none
  | .ext x i => match x.ev env with
    | .tup vs => (vs[i]?).map (·, σ)
    | _ => none
  | .slen x => match x.ev env with
    | .str s => some (.int .i64 s.length, σ)
    | _ => none
  | .llen x => match x.ev env with
    | .nils => some (.int .i64 0, σ)
    | .islc _ es => some (.int .i64 es.length, σ)
    | .slc _ _ len => some (.int .i64 len, σ)
    | _ => none
  | .app bytes z x y =>
    (srcOf σ z (y.ev env)).bind fun ys =>
    match x.ev env with
    | .nils => if ys = [] then some (.nils, σ) else if ys.length * bytes ≤ reach ∧ ys.length ≤ reach then some (.slc σ.n 0 ys.length, σ.new (.row z ys)) else none
    | .islc z' es => if ys = [] then some (.islc z' es, σ) else none
    | .slc l off len => if ys = [] then some (.slc l off len, σ) else match σ.H l with
      | some (.row z' es) =>
        if z' = z ∧ (len + ys.length) * bytes ≤ reach ∧ len + ys.length ≤ reach then
          if off + len + ys.length ≤ es.length then some (.slc l off (len + ys.length), σ.set l (.row z (es.take (off + len) ++ ys ++ es.drop (off + len + ys.length))))
          else if off + len = es.length then some (.slc σ.n 0 (len + ys.length), (σ.kill l).new (.row z (es.drop off ++ ys)))
          else none
        else none
      | _ => none
    | _ => none
  | .mm isMax xs => match xs.map (·.ev env) with
    | v :: vs => (mmL isMax v vs).map (·, σ)
    | [] => none
  | .call .. | .callv .. | .defer .. | .panic .. | .recover => none
end Go.Proofs.YtmjbnfldehbmcaaDoor.Ab
