/-
The walk over the program's texts, told with what its values say: a part of it. No further condition.
-/
import Derived.Test.YtmjbnfldehbmcaaDoorAb2
import Derived.Laws.StructEq
namespace Go.Proofs.YtmjbnfldehbmcaaDoor.Ab
open Go.RowKit
set_option linter.unusedVariables false
/-! The operations of the program, told with all that their types say. -/
def toV : Nat → Value → Option V
  | 0, _ => none
  | _ + 1, .bool b => some (.bool b)
  | _ + 1, .int k n => some (.int k n)
  | _ + 1, .string s => some (.str s.data.toList)
  | _ + 1, .pointer none => some .nilp
  | _ + 1, .slice none 0 0 => some .nils
  | _ + 1, .map none => some .mapn
  | _ + 1, .nilFunc => some .nilf
  | _ + 1, .nilIface => some .nili
  | n + 1, .iface t v => (toV n v).map (.iface t)
  | n + 1, .agg cs => (cs.toList.mapM (toV n)).map .agg
  | n + 1, .tuple cs => (cs.toList.mapM (toV n)).map .tup
  | _ + 1, .func (.func f) ⟨[]⟩ ⟨[]⟩ => some (.func (.func f) [] [])
  | _ + 1, _ => none
def cOpd (nt : Nat) : Operand → Option Opd
  | .tmp t => if t < nt then some (.t t) else none
  | .const v => (toV 9 v).map .c
  | .func f => some (.c (.func (.func f) [] []))
  | .global _ => none
def cOpds (nt : Nat) (xs : List Operand) : Option (List Opd) := xs.mapM (cOpd nt)
def cOpdO (nt : Nat) : Option Operand → Option (Option Opd)
  | none => some none
  | some x => (cOpd nt x).map some
def isAggD : TypeDesc → Bool
  | .struct _ | .array _ _ => true
  | _ => false
def isIntD : TypeDesc → Bool
  | .int _ => true
  | _ => false
def sizeD (P : Program) (t : TypeId) : Option Nat := (P.info? t).map (·.size)
def zeroC (P : Program) (t : TypeId) : Option (List V) :=
  (P.info? t).bind fun i => i.zero.bind fun z => (toV 9 z).bind fun v => if v.cells.all V.scal = true ∧ v.cells.length = i.size ∧ 0 < i.size then some v.cells else none
def zeroV (P : Program) (t : TypeId) : Option V := (P.info? t).bind fun i => i.zero.bind (toV 9)
/-- The cells of a number, a text, a truth, or of a struct of such: its fields lie one behind the other, and are all that there is. -/
def kinds (P : Program) : Nat → TypeId → Option (List CK)
  | 0, _ => none
  | d + 1, t => match P.underlying t with
    | some (.int _) => if sizeD P t = some 1 then some [.int] else none
    | some .string => if sizeD P t = some 1 then some [.str] else none
    | some .bool => if sizeD P t = some 1 then some [.bool] else none
    | some (.struct fs) =>
      if P.stoodInHeld t = true then none else
      (fs.toList.foldl (fun (o : Option (List CK)) f => o.bind fun acc => if f.name ≠ "_" ∧ f.offset = acc.length then (kinds P d f.type).map (acc ++ ·) else none) (some [])).bind fun ks =>
        if sizeD P t = some ks.length then some ks else none
    | _ => none
def compBin (P : Program) (op : BinOp) (t : TypeId) (x y : Opd) (c : Bool) : Option Ins :=
  match op with
  | .eql | .neq =>
    (P.underlying t).bind fun
      | .int _ | .string => some (.bin op x y)
      | .bool => some (.beq (op == .neq) x y)
      | .pointer _ => some (.nq (op == .neq) 1 x y)
      | .slice _ => some (.nq (op == .neq) 2 x y)
      | .func _ _ _ => some (.nq (op == .neq) 3 x y)
      | .interface _ => if c then some (.nq (op == .neq) 4 x y) else none
      | .map _ _ => some (.nq (op == .neq) 5 x y)
      | .struct _ => (kinds P 20 t).bind fun ks => if P.eqGuardType P.depth t = false then some (.eqa (op == .neq) ks x y) else none
      | _ => none
  | _ => some (.bin op x y)
def compConv (P : Program) (src dst : TypeId) (x : Opd) : Option Ins :=
  match P.underlying src, P.underlying dst with
  | some (.int _), some (.int k) => some (.cvi k x)
  | some .string, some .string => some (.cvs x)
  | some .string, some (.slice e) => match P.underlying e, sizeD P e with
    | some (.int .u8), some 1 => some (.s2b x)
    | _, _ => none
  | some (.slice e), some .string => match P.underlying e with
    | some (.int .u8) => some (.b2s x)
    | _ => none
  | some (.slice _), some (.slice e) => match P.underlying e with
    | some (.int .u8) => if src = dst then some (.b2b x) else none
    | _ => none
  | _, _ => none
def isConstO : Operand → Bool
  | .const _ => true
  | _ => false
def fieldD (P : Program) (s : TypeId) (f : Nat) : Option (Nat × TypeId × Nat) :=
  match P.underlying s with
  | some (.struct fs) => (fs[f]?).bind fun f => (sizeD P f.type).map fun n => (f.offset, f.type, n)
  | _ => none
def compB (P : Program) (nt : Nat) (c : Call) : Option Ins :=
  match c.callee with
  | .builtin .len => match c.argTypes[0]?, c.args.toList with
    | some t, [x] => match P.underlying t with
      | some .string => (cOpd nt x).map .slen
      | some (.slice _) => (cOpd nt x).map .llen
      | _ => none
    | _, _ => none
  | .builtin .append => match c.argTypes[0]?, c.argTypes[1]?, c.args.toList with
    | some t, some u, [x, y] => match P.underlying t, P.underlying u with
      | some (.slice e), some ud => match P.info? e with
        | some i => if isIntD ud = false ∧ 0 < i.size ∧ 0 < i.bytes ∧ i.bytes ≤ 65536 ∧ (i.zero.map fun z => z.cells.size) = some i.size then (cOpd nt x).bind fun x => (cOpd nt y).map fun y => .app i.bytes i.size x y else none
        | none => none
      | _, _ => none
    | _, _, _ => none
  | .builtin .max => (cOpds nt c.args.toList).map (.mm true)
  | .builtin .min => (cOpds nt c.args.toList).map (.mm false)
  | _ => none
def compP (P : Program) (nt : Nat) (o : Oper) : Option Ins :=
  match o.op with
  | .move x | .assign x => (cOpd nt x).map .mv
  | .pick c a b => (cOpd nt c).bind fun c => (cOpd nt a).bind fun a => (cOpd nt b).map fun b => .pick c a b
  | .alloc t => (zeroC P t).map .new
  | .box _ x => (cOpd nt x).map .box
  | .build t parts => match P.underlying t with
    | some (.struct fs) => (zeroC P t).bind fun z => (parts.toList.mapM fun (p : Nat × Operand) => (fieldD P t p.1).bind fun d => (cOpd nt p.2).map fun x => (d.1, d.2.2, x)).map fun ps =>
        if fs.all (fun f => (sizeD P f.type).isSome) then Ins.build z ps else .recover
    | _ => none
  | .buildSlice t len parts => match P.underlying t with
    | some (.slice e) => (zeroC P e).bind fun z => if len * z.length ≤ 2 ^ 24 then (parts.toList.mapM fun (p : Nat × Operand) => (cOpd nt p.2).map fun x => (p.1, x)).map fun ps => .bslice z len ps else none
    | _ => none
  | .load t x => (P.underlying t).bind fun d => if isAggD d then (sizeD P t).bind fun n => (cOpd nt x).map (.lda n) else (cOpd nt x).map .ld
  | .store t x y => (sizeD P t).bind fun n => (cOpd nt x).bind fun x => (cOpd nt y).map fun y => .st n x y
  | .nilCheck x => (cOpd nt x).map .nilck
  | .binOp op t x y _ => (cOpd nt x).bind fun x' => (cOpd nt y).bind fun y' => compBin P op t x' y' (isConstO x || isConstO y)
  | .unOp op _ x => (cOpd nt x).map (.un op)
  | .convert src dst x => (cOpd nt x).bind (compConv P src dst)
  | .makeInterface t x => match P.underlying t with
    | some (.interface _) | none => none
    | _ => (cOpd nt x).map (.mki t)
  | .makeFunc fn first captured => (cOpds nt first.toList).bind fun a => (cOpds nt captured.toList).map fun b => .mkf fn a b
  | .makeMap _ none => some .mkmap
  | .makeSlice t l c => match P.underlying t with
    | some (.slice e) => (zeroC P e).bind fun z => (P.info? e).bind fun i => if i.bytes ≤ 65536 then (cOpd nt l).bind fun l => (cOpd nt c).map fun c => .mksl i.bytes z l c else none
    | _ => none
  | .slice t x lo hi none => match P.underlying t with
    | some .string => (cOpd nt x).bind fun x => (cOpdO nt lo).bind fun lo => (cOpdO nt hi).map fun hi => .ssl x lo hi
    | some (.slice e) => (sizeD P e).bind fun z => if 0 < z then (cOpd nt x).bind fun x => (cOpdO nt lo).bind fun lo => (cOpdO nt hi).map fun hi => .lsl z x lo hi else none
    | _ => none
  | .fieldAddr s x f => (fieldD P s f).bind fun d => if d.2.2 ≠ 0 then (cOpd nt x).map (.fa d.1) else none
  | .field s x f => (fieldD P s f).bind fun d => (P.underlying d.2.1).bind fun u => (cOpd nt x).map fun x => .fld (if isAggD u then some d.2.2 else none) d.1 x
  | .indexAddr t x i => (cOpd nt x).bind fun x => (cOpd nt i).bind fun i => match P.underlying t with
    | some (.slice e) => (sizeD P e).bind fun z => if 0 < z then some (.ia z x i) else none
    | some (.array n e) => (sizeD P e).map fun z => .aa n z x i
    | _ => none
  | .index t x i => match P.underlying t with
    | some .string => (cOpd nt x).bind fun x => (cOpd nt i).map fun i => .sx x i
    | _ => none
  | .typeAssert x _ t ok => match P.underlying t with
    | some (.interface _) | none => none
    | _ => (zeroV P t).bind fun z => (cOpd nt x).map fun x => .tas t z ok x
  | .extract x i => (cOpd nt x).map (.ext · i)
  | .call c => compB P nt c
  | _ => none
def Ins.plain : Ins → Bool
  | .call _ _ | .callv _ _ | .defer _ _ | .panic _ | .recover => false
  | _ => true
def onlyPlain (i : Option Ins) : Option Ins := i.bind fun i => if i.plain = true then some i else none
/-- A function of the program, with a body. -/
def hasBody (P : Program) (k : FuncId) : Bool := (P.funcs[k]?).any fun fn => fn.body.isSome && fn.name != "runtime.NumGoroutine"
def compOp (P : Program) (nt : Nat) (o : Oper) : Option Ins :=
  match o.op with
  | .call c => match c.callee with
    | .value (.func f) => if hasBody P f = true then (cOpds nt c.args.toList).map (.call f) else none
    | .value x => (cOpd nt x).bind fun x => (cOpds nt c.args.toList).map (.callv x)
    | .builtin .recover => some .recover
    | _ => onlyPlain (compP P nt o)
  | .defer c => match c.callee with
    | .value f => (cOpd nt f).bind fun f => (cOpds nt c.args.toList).map (.defer f)
    | _ => none
  | .panic x => (cOpd nt x).map .panic
  | _ => onlyPlain (compP P nt o)
theorem mapM_some {α β : Type} {f : α → Option β} : ∀ {l : List α} {r : List β}, l.mapM f = some r → r.length = l.length ∧ ∀ (i : Nat) (y : β), r[i]? = some y → ∃ x, l[i]? = some x ∧ f x = some y
  | [], r, h => by
    simp at h; subst h
    exact ⟨rfl, fun i y hy => by simp at hy⟩
  | x :: l, r, h => by
    rw [List.mapM_cons] at h
    simp only [Option.bind_eq_bind, Option.bind_eq_some_iff, Option.pure_def, Option.some.injEq] at h
    obtain ⟨y, hy, r', hr', rfl⟩ := h
    obtain ⟨h1, h2⟩ := mapM_some hr'
    refine ⟨by simp [h1], fun i z hz => ?_⟩
    cases i with
    | zero => simp at hz; subst hz; exact ⟨x, rfl, hy⟩
    | succ i => simp at hz; obtain ⟨x', hx', hf⟩ := h2 i z hz; exact ⟨x', by simpa using hx', hf⟩
theorem toV_rel {φ : Phi} {I : Nat → Prop} {w : World} : ∀ (n : Nat) (c : Value) (v : V), toV n c = some v → Rel φ I w v c
  | 0, _, _, h => by simp [toV] at h
  | n + 1, c, v, h => by
    have ih := toV_rel (φ := φ) (I := I) (w := w) n
    have lst : ∀ (cs : Array Value) (vs : List V), cs.toList.mapM (toV n) = some vs → cs.size = vs.length ∧ ∀ i v, vs[i]? = some v → Rel φ I w v (cs.getD i undef) := fun cs vs hm => by
      obtain ⟨h1, h2⟩ := mapM_some hm
      refine ⟨by simpa using h1.symm, fun i v hv => ?_⟩
      obtain ⟨x, hx, hf⟩ := h2 i v hv
      have : cs.getD i undef = x := by simp only [Array.getElem?_toList] at hx; simp [hx]
      rw [this]
      exact ih _ _ hf
    unfold toV at h
    split at h <;> (try (simp only [Option.some.injEq, reduceCtorEq] at h)) <;> (try subst h) <;> first
      | exact .bool _
      | exact .int _ _
      | exact .str rfl
      | exact .nilp
      | exact .nils
      | exact .mapn
      | exact .nilf
      | exact .nili
      | (simp only [Option.map_eq_some_iff] at h; obtain ⟨x, hx, rfl⟩ := h; exact .iface _ (ih _ _ (by simp_all)))
      | (simp only [Option.map_eq_some_iff] at h; obtain ⟨x, hx, rfl⟩ := h; first | exact .agg (lst _ _ (by simp_all)).1 (lst _ _ (by simp_all)).2 | exact .tup (lst _ _ (by simp_all)).1 (lst _ _ (by simp_all)).2)
      | exact .func _ rfl (fun i v h => by simp at h) rfl (fun i v h => by simp at h)
      | (simp_all; done)
theorem cOpd_rel {φ : Phi} {I : Nat → Prop} {w : World} {nt : Nat} {env : Env} {a : Act} (hf : ∀ t, t < nt → Rel φ I w (env t) (a.tmps.getD t undef)) {x : Operand} {y : Opd} (h : cOpd nt x = some y) :
    Rel φ I w (y.ev env) (a.eval x) := by
  cases x with
  | tmp t =>
    simp only [cOpd] at h
    split at h
    · rename_i hlt; simp only [Option.some.injEq] at h; subst h; exact hf t hlt
    · simp at h
  | const v => simp only [cOpd, Option.map_eq_some_iff] at h; obtain ⟨x, hx, rfl⟩ := h; exact toV_rel _ _ _ hx
  | func f => simp only [cOpd, Option.some.injEq] at h; subst h; exact .func _ rfl (fun i v h => by simp at h) rfl (fun i v h => by simp at h)
  | global g => simp [cOpd] at h
end Go.Proofs.YtmjbnfldehbmcaaDoor.Ab
