/-
The walk over the program's texts, told with what its values say: a part of it. No further condition.
-/
import Derived.Test.YtmkgmjdbgjiehaaDoorAbZ
namespace Go.Proofs.YtmkgmjdbgjiehaaDoor.Ab
set_option linter.unusedVariables false
set_option linter.unusedSimpArgs false
section
variable (env : Env) (σ : St)
@[simp] theorem e_mv (x : Opd) : evI env σ (.mv x) = some ((x.ev env), σ) := rfl
def pickV : V → V → V → Option V
  | .bool t, a, b => some (if t = true then a else b)
  | _, _, _ => none
@[simp] theorem e_pick (c x y : Opd) : evI env σ (.pick c x y) = (pickV (c.ev env) (x.ev env) (y.ev env)).map (·, σ) := by
  simp only [evI, pickV]; cases c.ev env <;> rfl
@[simp] theorem e_bin (op : BinOp) (x y : Opd) : evI env σ (.bin op x y) = ((binV op (x.ev env) (y.ev env))).map (·, σ) := by
  rfl
def notV : V → Option V
  | .bool b => some (.bool !b)
  | _ => none
@[simp] theorem e_un_not (x : Opd) : evI env σ (.un .not x) = (notV (x.ev env)).map (·, σ) := by
  simp only [evI, notV]; cases x.ev env <;> rfl
def xorV : V → Option V
  | .int k n => some (.int k (k.wrap (BitVec.ofInt k.bits (if k.signed then -1 else k.max) ^^^ BitVec.ofInt k.bits n).toNat))
  | _ => none
@[simp] theorem e_un_xor (x : Opd) : evI env σ (.un .xor x) = (xorV (x.ev env)).map (·, σ) := by
  simp only [evI, xorV]; cases x.ev env <;> rfl
def negV : V → Option V
  | .int k n => some (.int k (k.wrap (0 - n)))
  | _ => none
@[simp] theorem e_un_neg (x : Opd) : evI env σ (.un .neg x) = ((negV (x.ev env))).map (·, σ) := by
  simp only [evI, negV]; cases x.ev env <;> rfl
def beqV (neg : Bool) : V → V → Option V
  | .bool a, .bool b => some (.bool (if neg then decide (a ≠ b) else decide (a = b)))
  | _, _ => none
@[simp] theorem e_beq (neg : Bool) (x y : Opd) : evI env σ (.beq neg x y) = (beqV neg (x.ev env) (y.ev env)).map (·, σ) := by
  simp only [evI, beqV]; cases x.ev env <;> cases y.ev env <;> rfl
@[simp] theorem e_nq (neg : Bool) (fam : Nat) (x y : Opd) : evI env σ (.nq neg fam x y) = (((nilEq fam (x.ev env) (y.ev env)).map fun b => .bool (if neg then !b else b))).map (·, σ) := by
  simp only [evI]; cases nilEq fam (x.ev env) (y.ev env) <;> rfl
def eqaV (neg : Bool) (ks : List CK) : V → V → Option V
  | .agg a, .agg b => (eqCells ks a b).map fun r => .bool (if neg then !r else r)
  | _, _ => none
@[simp] theorem e_eqa (neg : Bool) (ks : List CK) (x y : Opd) : evI env σ (.eqa neg ks x y) = (eqaV neg ks (x.ev env) (y.ev env)).map (·, σ) := by
  simp only [evI, eqaV]; cases x.ev env <;> cases y.ev env <;> (try rfl)
  simp only; cases eqCells ks _ _ <;> rfl
def cviV (k : IntKind) : V → Option V
  | .int _ n => some (.int k (k.wrap n))
  | _ => none
@[simp] theorem e_cvi (k : IntKind) (x : Opd) : evI env σ (.cvi k x) = ((cviV k (x.ev env))).map (·, σ) := by
  simp only [evI, cviV]; cases x.ev env <;> rfl
def cvsV : V → Option V
  | .str s => some (.str s)
  | _ => none
@[simp] theorem e_cvs (x : Opd) : evI env σ (.cvs x) = (cvsV (x.ev env)).map (·, σ) := by
  simp only [evI, cvsV]; cases x.ev env <;> rfl
def s2bV (σ : St) : V → Option (V × St)
  | .str s => some (.slc σ.n 0 s.length, σ.new (.row 1 (s.map byteE)))
  | _ => none
@[simp] theorem e_s2b (x : Opd) : evI env σ (.s2b x) = s2bV σ (x.ev env) := by
  simp only [evI, s2bV]; cases x.ev env <;> rfl
def b2sV (σ : St) (v : V) : Option V := (cont σ 1 v).bind fun es => (es.mapM byteOf).map .str
@[simp] theorem e_b2s (x : Opd) : evI env σ (.b2s x) = (b2sV σ (x.ev env)).map (·, σ) := by
  simp only [evI, b2sV]
  cases cont σ 1 (x.ev env) with
  | none => rfl
  | some es => simp only [Option.bind_some]; cases es.mapM byteOf <;> rfl
def b2bV (σ : St) : V → Option V
  | .slc l off len => match σ.H l with
    | some (.row _ _) => if 0 < len then some (.slc l off len) else none
    | _ => none
  | _ => none
@[simp] theorem e_b2b (x : Opd) : evI env σ (.b2b x) = ((b2bV σ (x.ev env))).map (·, σ) := by
  simp only [evI, b2bV]
  cases x.ev env <;> (try rfl)
  rename_i l off len
  simp only
  cases σ.H l with
  | none => rfl
  | some b => cases b <;> (try rfl); simp only; split <;> rfl
@[simp] theorem e_mki (t : TypeId) (x : Opd) : evI env σ (.mki t x) = some ((.iface t (x.ev env)), σ) := rfl
@[simp] theorem e_mkf (fn : Fn) (a b : List Opd) : evI env σ (.mkf fn a b) = some ((.func fn (a.map (·.ev env)) (b.map (·.ev env))), σ) := rfl
@[simp] theorem e_mkmap : evI env σ .mkmap = some ((.map σ.n), (σ.new (.map []))) := rfl
@[simp] theorem e_new (z : List V) : evI env σ (.new z) = some ((.ptr σ.n 0 0), (σ.new (.row z.length [z]))) := rfl
def boxV (σ : St) (v : V) : Option (V × St) := if v.cells.all V.scal = true ∧ 0 < v.cells.length then some (.ptr σ.n 0 0, σ.new (.row v.cells.length [v.cells])) else none
@[simp] theorem e_box (x : Opd) : evI env σ (.box x) = boxV σ (x.ev env) := rfl
@[simp] theorem e_build (z : List V) (ps : List (Nat × Nat × Opd)) : evI env σ (.build z ps) = (((buildV env z ps).map .agg)).map (·, σ) := by
  simp only [evI]; cases buildV env z ps <;> rfl
@[simp] theorem e_bslice (z : List V) (len : Nat) (ps : List (Nat × Opd)) : evI env σ (.bslice z len ps) = (bsliceV env z.length (List.replicate len z) ps).map fun es => (.slc σ.n 0 len, σ.new (.row z.length es)) := rfl
def ldV (σ : St) : V → Option V
  | .ptr l i j => match σ.H l with
    | some (.row _ es) => (es[i]?).bind (·[j]?)
    | _ => none
  | .iptr e j => e[j]?
  | _ => none
@[simp] theorem e_ld (x : Opd) : evI env σ (.ld x) = ((ldV σ (x.ev env))).map (·, σ) := by
  simp only [evI, ldV]
  cases x.ev env <;> (try rfl)
  · rename_i l i j
    simp only
    cases σ.H l with
    | none => rfl
    | some b => cases b <;> rfl
def ldaV (σ : St) (n : Nat) : V → Option V
  | .ptr l i j => match σ.H l with
    | some (.row _ es) => (es[i]?).bind fun e => if j + n ≤ e.length then some (.agg ((e.drop j).take n)) else none
    | _ => none
  | .iptr e j => if j + n ≤ e.length then some (.agg ((e.drop j).take n)) else none
  | _ => none
@[simp] theorem e_lda (n : Nat) (x : Opd) : evI env σ (.lda n x) = ((ldaV σ n (x.ev env))).map (·, σ) := by
  simp only [evI, ldaV]
  cases x.ev env <;> (try rfl)
  · rename_i l i j
    simp only
    cases σ.H l with
    | none => rfl
    | some b =>
      cases b <;> (try rfl)
      rename_i z es
      simp only
      cases es[i]? with
      | none => rfl
      | some e => simp only [Option.bind_some]; split <;> rfl
  · rename_i e j; simp only; split <;> rfl
def stV (σ : St) (n : Nat) (a x : V) : Option St :=
  match a with
  | .ptr l i j => match σ.H l with
    | some (.row z es) => (es[i]?).bind fun e => if x.cells.length = n ∧ j + n ≤ e.length ∧ x.cells.all V.scal = true then some (σ.set l (.row z (es.set i (setAt e j x.cells)))) else none
    | _ => none
  | _ => none
@[simp] theorem e_st (n : Nat) (a x : Opd) : evI env σ (.st n a x) = ((stV σ n (a.ev env) (x.ev env))).map fun σ' => (.tup [], σ') := by
  simp only [evI, stV]
  cases a.ev env <;> (try rfl)
  rename_i l i j
  simp only
  cases σ.H l with
  | none => rfl
  | some b =>
    cases b <;> (try rfl)
    rename_i z es
    simp only
    cases es[i]? with
    | none => rfl
    | some e => simp only [Option.bind_some]; split <;> rfl
def nilckV : V → Option V
  | .ptr l i j => some (.ptr l i j)
  | .iptr e j => some (.iptr e j)
  | .func (.func f) a b => some (.func (.func f) a b)
  | _ => none
@[simp] theorem e_nilck (x : Opd) : evI env σ (.nilck x) = ((nilckV (x.ev env))).map (·, σ) := by
  simp only [evI, nilckV]
  cases x.ev env <;> (try rfl)
  rename_i fn a b; cases fn <;> rfl
def mkslV (σ : St) (bytes : Nat) (z : List V) (l c : V) : Option (V × St) :=
  match l, c with
  | .int _ a, .int _ b => if 0 ≤ a ∧ a ≤ b ∧ bytes * b ≤ reach ∧ b ≤ reach then some (.slc σ.n 0 a.toNat, σ.new (.row z.length (List.replicate a.toNat z))) else none
  | _, _ => none
@[simp] theorem e_mksl (bytes : Nat) (z : List V) (l c : Opd) : evI env σ (.mksl bytes z l c) = (mkslV σ bytes z (l.ev env) (c.ev env)) := by
  simp only [evI]; rfl
def sslV (env : Env) (s : V) (lo hi : Option Opd) : Option V :=
  match s with
  | .str s => (bound env s.length hi).bind fun h => (bound env 0 lo).bind fun l => if l ≤ h ∧ h ≤ s.length then some (.str ((s.take h).drop l)) else none
  | _ => none
@[simp] theorem e_ssl (x : Opd) (lo hi : Option Opd) : evI env σ (.ssl x lo hi) = ((sslV env (x.ev env) lo hi)).map (·, σ) := by
  simp only [evI, sslV]
  cases x.ev env <;> (try rfl)
  rename_i s
  simp only
  cases bound env s.length hi with
  | none => rfl
  | some h =>
    cases bound env 0 lo with
    | none => rfl
    | some l => simp only [Option.bind_some]; split <;> rfl
def lslV (env : Env) (σ : St) (z : Nat) (x : V) (lo hi : Option Opd) : Option V :=
  match x with
  | .nils => (bound env 0 hi).bind fun h => (bound env 0 lo).bind fun l => if l = 0 ∧ h = 0 then some .nils else none
  | .islc z' es => (bound env es.length hi).bind fun h => (bound env 0 lo).bind fun l => if z' = z ∧ l ≤ h ∧ h ≤ es.length then some (.islc z ((es.take h).drop l)) else none
  | .slc p off len => (bound env len hi).bind fun h => (bound env 0 lo).bind fun l => match σ.H p with
    | some (.row z' es) => if z' = z ∧ l ≤ h ∧ off + h ≤ es.length then some (.slc p (off + l) (h - l)) else none
    | _ => none
  | _ => none
@[simp] theorem e_lsl (z : Nat) (x : Opd) (lo hi : Option Opd) : evI env σ (.lsl z x lo hi) = ((lslV env σ z (x.ev env) lo hi)).map (·, σ) := by
  simp only [evI, lslV]
  cases x.ev env <;> (try rfl)
  · simp only
    cases bound env 0 hi with
    | none => rfl
    | some h =>
      cases bound env 0 lo with
      | none => rfl
      | some l => simp only [Option.bind_some]; split <;> rfl
  · rename_i p off len
    simp only
    cases bound env len hi with
    | none => rfl
    | some h =>
      cases bound env 0 lo with
      | none => rfl
      | some l =>
        simp only [Option.bind_some]
        cases σ.H p with
        | none => rfl
        | some b => cases b <;> (try rfl); simp only; split <;> rfl
  · rename_i z' es
    simp only
    cases bound env es.length hi with
    | none => rfl
    | some h =>
      cases bound env 0 lo with
      | none => rfl
      | some l => simp only [Option.bind_some]; split <;> rfl
def faV (k : Nat) : V → Option V
  | .ptr l i j => some (.ptr l i (j + k))
  | .iptr e j => some (.iptr e (j + k))
  | _ => none
@[simp] theorem e_fa (k : Nat) (x : Opd) : evI env σ (.fa k x) = ((faV k (x.ev env))).map (·, σ) := by
  simp only [evI, faV]
  cases x.ev env <;> rfl
def fldV (n : Option Nat) (off : Nat) : V → Option V
  | .agg cs => match n with
    | none => cs[off]?
    | some n => if off + n ≤ cs.length then some (.agg ((cs.drop off).take n)) else none
  | _ => none
@[simp] theorem e_fld (n : Option Nat) (off : Nat) (x : Opd) : evI env σ (.fld n off x) = ((fldV n off (x.ev env))).map (·, σ) := by
  simp only [evI, fldV]
  cases x.ev env <;> (try rfl)
  cases n with
  | none => rfl
  | some n => simp only; split <;> rfl
def iaV (σ : St) (z : Nat) (x i : V) : Option V :=
  match i with
  | .int _ k => if 0 ≤ k then match x with
      | .islc z' es => if z' = z then (es[k.toNat]?).map fun e => .iptr e 0 else none
      | .slc l off len => match σ.H l with
        | some (.row z' es) => if z' = z ∧ k.toNat < len then some (.ptr l (off + k.toNat) 0) else none
        | _ => none
      | _ => none
    else none
  | _ => none
@[simp] theorem e_ia (z : Nat) (x i : Opd) : evI env σ (.ia z x i) = ((iaV σ z (x.ev env) (i.ev env))).map (·, σ) := by
  simp only [evI, iaV]
  cases i.ev env <;> (try rfl)
  simp only
  split
  · cases x.ev env <;> (try rfl)
    · rename_i l off len
      simp only
      cases σ.H l with
      | none => rfl
      | some b => cases b <;> (try rfl); simp only; split <;> rfl
    · rename_i z' es
      simp only
      split
      · rename_i k _ _ _; cases es[Int.toNat _]? <;> rfl
      · rfl
  · rfl
def aaV (n z : Nat) (x i : V) : Option V :=
  match i with
  | .int _ k => if 0 ≤ k ∧ k < n then match x with
      | .ptr l i j => some (.ptr l i (j + k.toNat * z))
      | .iptr e j => some (.iptr e (j + k.toNat * z))
      | _ => none
    else none
  | _ => none
@[simp] theorem e_aa (n z : Nat) (x i : Opd) : evI env σ (.aa n z x i) = ((aaV n z (x.ev env) (i.ev env))).map (·, σ) := by
  simp only [evI, aaV]
  cases i.ev env <;> (try rfl)
  simp only
  split
  · cases x.ev env <;> rfl
  · rfl
def sxV (x i : V) : Option V :=
  match x, i with
  | .str s, .int _ k => if 0 ≤ k then (s[k.toNat]?).map fun b => .int .u8 b.toNat else none
  | _, _ => none
@[simp] theorem e_sx (x i : Opd) : evI env σ (.sx x i) = ((sxV (x.ev env) (i.ev env))).map (·, σ) := by
  simp only [evI, sxV]
  cases x.ev env <;> cases i.ev env <;> (try rfl)
  simp only
  split
  · rename_i s k n _; cases s[Int.toNat _]? <;> rfl
  · rfl
def tasV (t : TypeId) (zero : V) (ok : Bool) : V → Option V
  | .iface t' v => if t' = t then some (if ok then .tup [v, .bool true] else v) else if ok then some (.tup [zero, .bool false]) else none
  | .nili => if ok then some (.tup [zero, .bool false]) else none
  | _ => none
@[simp] theorem e_tas (t : TypeId) (zero : V) (ok : Bool) (x : Opd) : evI env σ (.tas t zero ok x) = ((tasV t zero ok (x.ev env))).map (·, σ) := by
  simp only [evI, tasV]
  cases x.ev env <;> (try rfl)
  · simp only; split
    · rfl
    · split <;> rfl
  · simp only; split <;> rfl
def extV (i : Nat) : V → Option V
  | .tup vs => vs[i]?
  | _ => none
@[simp] theorem e_ext (x : Opd) (i : Nat) : evI env σ (.ext x i) = (extV i (x.ev env)).map (·, σ) := by
  simp only [evI, extV]; cases x.ev env <;> rfl
def slenV : V → Option V
  | .str s => some (.int .i64 s.length)
  | _ => none
@[simp] theorem e_slen (x : Opd) : evI env σ (.slen x) = (slenV (x.ev env)).map (·, σ) := by
  simp only [evI, slenV]; cases x.ev env <;> rfl
def lenV : V → Option V
  | .nils => some (.int .i64 0)
  | .islc _ es => some (.int .i64 es.length)
  | .slc _ _ len => some (.int .i64 len)
  | _ => none
@[simp] theorem e_llen (x : Opd) : evI env σ (.llen x) = ((lenV (x.ev env))).map (·, σ) := by
  simp only [evI, lenV]
  cases x.ev env <;> rfl
def appV (σ : St) (bytes z : Nat) (x y : V) : Option (V × St) :=
  (srcOf σ z y).bind fun ys => match x with
    | .nils => if ys = [] then some (.nils, σ) else if ys.length * bytes ≤ reach ∧ ys.length ≤ reach then some (.slc σ.n 0 ys.length, σ.new (.row z ys)) else none
    | .islc z' es => if ys = [] then some (.islc z' es, σ) else none
    | .slc l off len => if ys = [] then some (.slc l off len, σ) else match σ.H l with
      | some (.row z' es) =>
        if z' = z ∧ (len + ys.length) * bytes ≤ reach ∧ len + ys.length ≤ reach then
          if off + len + ys.length ≤ es.length then some (.slc l off (len + ys.length), σ.set l (.row z (es.take (off + len) ++ ys ++ es.drop (off + len + ys.length))))
          else if off + len = es.length then some (.slc σ.n 0 (len + ys.length), (σ.kill l).new (.row z (es.drop off ++ ys)))
          else none
        else none
      | _ => none
    | _ => none
@[simp] theorem e_app (bytes z : Nat) (x y : Opd) : evI env σ (.app bytes z x y) = (appV σ bytes z (x.ev env) (y.ev env)) := by
  simp only [evI]; rfl
@[simp] theorem e_mm (isMax : Bool) (x y : Opd) : evI env σ (.mm isMax [x, y]) = (mmV isMax (x.ev env) (y.ev env)).map (·, σ) := by
  simp only [evI, List.map_cons, List.map_nil, mmL]
  cases mmV isMax (x.ev env) (y.ev env) <;> rfl
end
section
variable {P : Program} (E : En P)
open Classical in
noncomputable def run : Rn := fun dd rs s f σ => if h : ∃ r, ∃ n, runN E n dd rs s f σ = some r then some (Classical.choose h) else none
variable {E}
theorem run_iff {dd : Bool} {rs : List RC} {s : List SE} {f : Fr} {σ : St} {r : CO × St} : run E dd rs s f σ = some r ↔ ∃ n, runN E n dd rs s f σ = some r := by
  unfold run
  constructor
  · intro h
    split at h
    · rename_i hx
      obtain rfl := Option.some.inj h
      exact Classical.choose_spec hx
    · simp at h
  · rintro ⟨n, hn⟩
    have hx : ∃ r, ∃ n, runN E n dd rs s f σ = some r := ⟨r, n, hn⟩
    rw [dif_pos hx]
    obtain ⟨m, hm⟩ := Classical.choose_spec hx
    have h1 := runN_le (Nat.le_max_left n m) _ _ _ _ _ _ hn
    have h2 := runN_le (Nat.le_max_right n m) _ _ _ _ _ _ hm
    rw [h1] at h2
    exact h2.symm
theorem runN_run (n : Nat) : Le (runN E n) (run E) := fun _ _ _ _ _ _ h => run_iff.2 ⟨n, h⟩
theorem evF_n {k : FuncId} {vs : List V} {σ : St} {r : CO × St} (e : evF E (run E) k vs σ = some r) : ∃ n, evF E (runN E n) k vs σ = some r := by
  unfold evF at e ⊢
  split at e
  · split at e
    · rename_i hl
      obtain ⟨x, hx, rfl⟩ := Option.map_eq_some_iff.1 e
      obtain ⟨n, hn⟩ := run_iff.1 hx
      exact ⟨n, by rw [if_pos hl, hn]; rfl⟩
    · simp at e
  · exact ⟨0, e⟩
theorem dF_n {k : FuncId} {vs : List V} {m : Md} {σ : St} {r : CO × Md × St} (e : dF E (run E) k vs m σ = some r) : ∃ n, dF E (runN E n) k vs m σ = some r := by
  unfold dF at e ⊢
  split at e
  · split at e
    · rename_i hl
      split at e
      · obtain ⟨x, hx, rfl⟩ := Option.map_eq_some_iff.1 e
        obtain ⟨n, hn⟩ := run_iff.1 hx
        exact ⟨n, by rw [if_pos hl, hn]; rfl⟩
      · obtain ⟨x, hx, rfl⟩ := Option.map_eq_some_iff.1 e
        obtain ⟨n, hn⟩ := run_iff.1 hx
        exact ⟨n, by rw [if_pos hl, hn]; rfl⟩
    · simp at e
  · exact ⟨0, e⟩
theorem finF_n {rs : List RC} {env : Env} {r : CO × St} : ∀ {ds : List AD} {m : Md} {σ : St}, finF E (run E) rs env ds m σ = some r → ∃ n, finF E (runN E n) rs env ds m σ = some r
  | [], .ret, σ, e => ⟨0, e⟩
  | [], .pan v, σ, e => ⟨0, e⟩
  | [], .rcv _, σ, e => ⟨0, e⟩
  | .coll :: ds, m, σ, e => finF_n (ds := ds) e
  | .call (.func k) cap args :: ds, m, σ, e => by
    unfold finF at e
    split at e
    · rename_i h1
      obtain ⟨n1, h2⟩ := dF_n h1
      obtain ⟨n2, h3⟩ := finF_n e
      refine ⟨max n1 n2, ?_⟩
      unfold finF
      rw [dF_le (runN_le (Nat.le_max_left n1 n2)) h2]
      exact finF_le (runN_le (Nat.le_max_right n1 n2)) h3
    · rename_i h1
      obtain ⟨n1, h2⟩ := dF_n h1
      obtain ⟨n2, h3⟩ := finF_n e
      refine ⟨max n1 n2, ?_⟩
      unfold finF
      rw [dF_le (runN_le (Nat.le_max_left n1 n2)) h2]
      exact finF_le (runN_le (Nat.le_max_right n1 n2)) h3
    · simp at e
  | .call (.yield _) _ _ :: _, _, _, e => by simp [finF] at e
  | .call (.method ..) _ _ :: _, _, _, e => by simp [finF] at e
  | .call (.methodOf ..) _ _ :: _, _, _, e => by simp [finF] at e
  | .call (.via ..) _ _ :: _, _, _, e => by simp [finF] at e
theorem finD_n {dd : Bool} {rs : List RC} {env : Env} {r : CO × St} {ds : List AD} {m : Md} {σ : St} (e : finD E (run E) dd rs env ds m σ = some r) : ∃ n, finD E (runN E n) dd rs env ds m σ = some r := by
  unfold finD at e ⊢
  split at e
  · exact finF_n e
  · simp at e
  · exact finF_n e
theorem panF_n {dd dr : Bool} {rs : List RC} {f : Fr} {v : V} {s : List SE} {σ : St} {r : CO × St} (e : panF E (run E) dd dr rs f v s σ = some r) : ∃ n, panF E (runN E n) dd dr rs f v s σ = some r := by
  unfold panF at e ⊢
  split at e
  · rename_i h1
    split at e
    · rename_i h2
      obtain ⟨n, hn⟩ := finD_n e
      exact ⟨n, by rw [if_pos h1, if_pos h2, hn]⟩
    · rename_i h2
      obtain ⟨n, hn⟩ := finD_n e
      exact ⟨n, by rw [if_pos h1, if_neg h2, hn]⟩
  · simp at e
theorem nxF_n {dd : Bool} {rs : List RC} {x : Nx} {r : CO × St} (e : nxF E (run E) dd rs x = some r) : ∃ n, nxF E (runN E n) dd rs x = some r := by
  cases x with
  | stop => simp [nxF] at e
  | go s f σ => exact run_iff.1 e
  | call dr k vs σ d s f =>
    simp only [nxF] at e
    split at e
    · rename_i h1
      obtain ⟨n1, h2⟩ := evF_n h1
      obtain ⟨n2, h3⟩ := run_iff.1 e
      refine ⟨max n1 n2, ?_⟩
      simp only [nxF]
      rw [evF_le (runN_le (Nat.le_max_left n1 n2)) h2]
      exact runN_le (Nat.le_max_right n1 n2) _ _ _ _ _ _ h3
    · rename_i h1
      obtain ⟨n1, h2⟩ := evF_n h1
      obtain ⟨n2, h3⟩ := panF_n e
      refine ⟨max n1 n2, ?_⟩
      simp only [nxF]
      rw [evF_le (runN_le (Nat.le_max_left n1 n2)) h2]
      exact panF_le (runN_le (Nat.le_max_right n1 n2)) h3
    · simp at e
  | both s t f σ =>
    obtain ⟨h1, h2⟩ := both_some e
    obtain ⟨n1, h1⟩ := run_iff.1 h1
    obtain ⟨n2, h2⟩ := run_iff.1 h2
    refine ⟨max n1 n2, ?_⟩
    simp only [nxF, runN_le (Nat.le_max_left n1 n2) _ _ _ _ _ _ h1, runN_le (Nat.le_max_right n1 n2) _ _ _ _ _ _ h2, both, if_true]
  | fin f σ => exact finD_n e
  | pan dr v s f σ => exact panF_n e
theorem run_eq (dd : Bool) (rs : List RC) (s : List SE) (f : Fr) (σ : St) : run E dd rs s f σ = nxF E (run E) dd rs (step E s f σ) := by
  apply Option.ext
  intro r
  constructor
  · intro h
    obtain ⟨n, hn⟩ := run_iff.1 h
    cases n with
    | zero => simp [runN] at hn
    | succ n => exact nxF_le (runN_run n) hn
  · intro h
    obtain ⟨n, hn⟩ := nxF_n h
    exact run_iff.2 ⟨n + 1, hn⟩
variable (E)
noncomputable def ev (k : FuncId) (vs : List V) (σ : St) : Option (CO × St) := evF E (run E) k vs σ
variable {E}
theorem ev_calls (hE : E.Ok) {k : FuncId} {vs : List V} {σ : St} {o : CO} {σ' : St} (h : ev E k vs σ = some (o, σ')) : CCalls P k vs σ fun o' σ'' => o' = o ∧ σ'' = σ' := by
  obtain ⟨n, hn⟩ := evF_n h
  exact ((pok hE n).call _ _ _ _ hn).mono fun o' σ'' e => by simpa using e
theorem ev_eq {k : FuncId} {fd : FD} {vs : List V} {σ : St} (h : E.T k = some fd) (hl : vs.length ≤ fd.nt) : ev E k vs σ = (run E false (headR fd σ) [.d fd.body] ⟨envOf vs, []⟩ σ).map (cutR fd.fz σ) := by
  unfold ev evF
  rw [h]
  simp [hl]
theorem ev_bt {k : FuncId} {vs : List V} {σ : St} {v : V} (h : E.T k = none) (hb : E.Bt k vs σ = some v) : ev E k vs σ = some (.ret v, σ) := by
  unfold ev evF
  rw [h]
  simp [hb]
end
section
variable {P : Program} (E : En P) (dd : Bool) (rs : List RC) (s : List SE) (f : Fr) (σ : St) (d : Option Nat)
noncomputable def goV (o : Option V) : Option (CO × St) := match o with
  | some v => run E dd rs s (f.put d v) σ
  | none => none
noncomputable def goS (o : Option (V × St)) : Option (CO × St) := match o with
  | some (v, σ') => run E dd rs s (f.put d v) σ'
  | none => none
noncomputable def goC (dr : Bool) (o : Option (CO × St)) : Option (CO × St) := match o with
  | some (.ret v, σ') => run E dd rs s (f.put d v) σ'
  | some (.panic v, σ') => panF E (run E) dd dr rs f v s σ'
  | none => none
noncomputable def goB (v : V) (a b : List SE) : Option (CO × St) := match v with
  | .bool true => run E dd rs a f σ
  | .bool false => run E dd rs b f σ
  | _ => none
noncomputable def goP (dr : Bool) (v : V) : Option (CO × St) := match v with
  | .iface t v => panF E (run E) dd dr rs f (.iface t v) s σ
  | _ => none
noncomputable def X1 (dr : Bool) (r : RI) : Option (CO × St) := nxF E (run E) dd rs (stRI E dr r s f σ)
noncomputable def XQ (r : RI) : Option (CO × St) := nxF E (run E) dd rs (stQ r s f σ)
noncomputable def goG (b : Bool) (v : V) (dr : Bool) (i : Ins) : Option (CO × St) := match v with
  | .bool t => if t = b then X1 E dd rs s f σ dr ⟨d, none, i⟩ else run E dd rs s (f.put d (.tup [])) σ
  | .tup [] => run E dd rs s (f.put d (.tup [])) σ
  | _ => none
noncomputable def goH (b : Bool) (v : V) (i : Ins) : Option (CO × St) := match v with
  | .bool t => if t = b then goS E dd rs s f d (evI f.env σ i) else run E dd rs s (f.put d (.tup [])) σ
  | .tup [] => run E dd rs s (f.put d (.tup [])) σ
  | _ => none
@[simp] theorem goV_some (v : V) : goV E dd rs s f σ d (some v) = run E dd rs s (f.put d v) σ := rfl
@[simp] theorem goS_some (v : V) (σ' : St) : goS E dd rs s f d (some (v, σ')) = run E dd rs s (f.put d v) σ' := rfl
@[simp] theorem goS_map (o : Option V) : goS E dd rs s f d (o.map (·, σ)) = goV E dd rs s f σ d o := by cases o <;> rfl
@[simp] theorem goS_st (o : Option St) : goS E dd rs s f d (o.map fun σ' => (.tup [], σ')) = match o with | some σ' => run E dd rs s (f.put d (.tup [])) σ' | none => none := by cases o <;> rfl
@[simp] theorem goC_ret (dr : Bool) (v : V) (σ' : St) : goC E dd rs s f d dr (some (.ret v, σ')) = run E dd rs s (f.put d v) σ' := rfl
@[simp] theorem goC_pan (dr : Bool) (v : V) (σ' : St) : goC E dd rs s f d dr (some (.panic v, σ')) = panF E (run E) dd dr rs f v s σ' := rfl
@[simp] theorem goB_t (a b : List SE) : goB E dd rs f σ (.bool true) a b = run E dd rs a f σ := rfl
@[simp] theorem goB_f (a b : List SE) : goB E dd rs f σ (.bool false) a b = run E dd rs b f σ := rfl
theorem goB_d (p : Prop) [Decidable p] (a b : List SE) : goB E dd rs f σ (.bool (decide p)) a b = if p then run E dd rs a f σ else run E dd rs b f σ := by
  by_cases h : p <;> simp [h]
theorem goB_b (t : Bool) (a b : List SE) : goB E dd rs f σ (.bool t) a b = if t = true then run E dd rs a f σ else run E dd rs b f σ := by cases t <;> rfl
@[simp] theorem goP_i (dr : Bool) (t : TypeId) (v : V) : goP E dd rs s f σ dr (.iface t v) = panF E (run E) dd dr rs f (.iface t v) s σ := rfl
@[simp] theorem goG_tt (dr : Bool) (i : Ins) : goG E dd rs s f σ d true (.bool true) dr i = X1 E dd rs s f σ dr ⟨d, none, i⟩ := rfl
@[simp] theorem goG_ff (dr : Bool) (i : Ins) : goG E dd rs s f σ d false (.bool false) dr i = X1 E dd rs s f σ dr ⟨d, none, i⟩ := rfl
@[simp] theorem goG_tf (dr : Bool) (i : Ins) : goG E dd rs s f σ d true (.bool false) dr i = run E dd rs s (f.put d (.tup [])) σ := rfl
@[simp] theorem goG_ft (dr : Bool) (i : Ins) : goG E dd rs s f σ d false (.bool true) dr i = run E dd rs s (f.put d (.tup [])) σ := rfl
@[simp] theorem goG_u (b : Bool) (dr : Bool) (i : Ins) : goG E dd rs s f σ d b (.tup []) dr i = run E dd rs s (f.put d (.tup [])) σ := by cases b <;> rfl
@[simp] theorem goH_tt (i : Ins) : goH E dd rs s f σ d true (.bool true) i = goS E dd rs s f d (evI f.env σ i) := rfl
@[simp] theorem goH_ff (i : Ins) : goH E dd rs s f σ d false (.bool false) i = goS E dd rs s f d (evI f.env σ i) := rfl
@[simp] theorem goH_tf (i : Ins) : goH E dd rs s f σ d true (.bool false) i = run E dd rs s (f.put d (.tup [])) σ := rfl
@[simp] theorem goH_ft (i : Ins) : goH E dd rs s f σ d false (.bool true) i = run E dd rs s (f.put d (.tup [])) σ := rfl
@[simp] theorem goH_u (b : Bool) (i : Ins) : goH E dd rs s f σ d b (.tup []) i = run E dd rs s (f.put d (.tup [])) σ := by cases b <;> rfl
@[simp] theorem r_skip : run E dd rs (.d .skip :: s) f σ = run E dd rs s f σ := by rw [run_eq]; rfl
@[simp] theorem r_reg (l : List RI) : run E dd rs (.d (.reg l) :: s) f σ = run E dd rs (.r l :: s) f σ := by rw [run_eq]; rfl
@[simp] theorem r_nil : run E dd rs (.r [] :: s) f σ = run E dd rs s f σ := by rw [run_eq]; rfl
@[simp] theorem r_cons (r : RI) (l : List RI) : run E dd rs (.r (r :: l) :: s) f σ = X1 E dd rs (.r l :: s) f σ false r := by rw [run_eq]; rfl
@[simp] theorem r_drw (p : Plan) : run E dd rs (.d (.drw p) :: s) f σ = run E dd rs (.p p :: s) f σ := by rw [run_eq]; rfl
@[simp] theorem r_done : run E dd rs (.p .done :: s) f σ = run E dd rs s f σ := by rw [run_eq]; rfl
@[simp] theorem r_q (r : RI) (p : Plan) : run E dd rs (.p (.q r p) :: s) f σ = XQ E dd rs (.p p :: s) f σ r := by rw [run_eq]; rfl
@[simp] theorem r_alt1 (r : RI) (ag : List RI) (p : Plan) : run E dd rs (.p (.alt r ag p .stop) :: s) f σ = X1 E dd rs (.ck ag :: .p p :: s) f σ true r := by
  rw [run_eq]; show run E dd rs (.ar r ag p :: s) f σ = _; rw [run_eq]; rfl
@[simp] theorem r_alt2 (r r' : RI) (ag ag' : List RI) (p p' more : Plan) : run E dd rs (.p (.alt r ag p (.alt r' ag' p' more)) :: s) f σ = both (X1 E dd rs (.ck ag :: .p p :: s) f σ true r) (run E dd rs (.p (.alt r' ag' p' more) :: s) f σ) := by
  rw [run_eq]; show both (run E dd rs (.ar r ag p :: s) f σ) _ = _; rw [run_eq]; rfl
@[simp] theorem both_same (x : Option (CO × St)) : both x x = x := by simp [both]
@[simp] theorem r_ck0 : run E dd rs (.ck [] :: s) f σ = run E dd rs s f σ := by rw [run_eq]; rfl
theorem r_ck (q : RI) (qs : List RI) (h : chk q f σ) : run E dd rs (.ck (q :: qs) :: s) f σ = run E dd rs (.ck qs :: s) f σ := by
  rw [run_eq]; show nxF E (run E) dd rs (stCk q qs s f σ) = _; simp [stCk, h, nxF]
@[simp] theorem r_seq (a b : D) : run E dd rs (.d (.seq a b) :: s) f σ = run E dd rs (.d a :: .d b :: s) f σ := by rw [run_eq]; rfl
@[simp] theorem r_kb (ts : List Nat) (b : D) : run E dd rs (.d (.kb ts b) :: s) f σ = run E dd rs (.d b :: s) (kp ts f) σ := by rw [run_eq]; rfl
@[simp] theorem r_cond (c : Opd) (a b : D) : run E dd rs (.d (.cond c a b) :: s) f σ = goB E dd rs f σ (c.ev f.env) (.d a :: s) (.d b :: s) := by
  rw [run_eq]; simp only [step, goB]
  cases c.ev f.env <;> try rfl
  rename_i b; cases b <;> rfl
@[simp] theorem r_block (id : Nat) (b : D) : run E dd rs (.d (.block id b) :: s) f σ = run E dd rs (.d b :: .blk id :: s) f σ := by rw [run_eq]; rfl
@[simp] theorem r_blk (id : Nat) : run E dd rs (.blk id :: s) f σ = run E dd rs s f σ := by rw [run_eq]; rfl
theorem r_loop (ts : List Nat) (b : D) : run E dd rs (.d (.loop ts b) :: s) f σ = run E dd rs (.d b :: .lp ts b :: s) (kp ts f) σ := by rw [run_eq]; rfl
@[simp] theorem r_lp (ts : List Nat) (b : D) : run E dd rs (.lp ts b :: s) f σ = run E dd rs (.d (.loop ts b) :: s) f σ := by rw [run_eq]; rfl
@[simp] theorem r_exit_blk (id id' : Nat) : run E dd rs (.d (.exit id) :: .blk id' :: s) f σ = if id' = id then run E dd rs s f σ else run E dd rs (.d (.exit id) :: s) f σ := by
  rw [run_eq]; simp only [step]; split <;> rfl
@[simp] theorem r_exit_d (id : Nat) (x : D) : run E dd rs (.d (.exit id) :: .d x :: s) f σ = run E dd rs (.d (.exit id) :: s) f σ := by rw [run_eq]; rfl
@[simp] theorem r_exit_lp (id : Nat) (ts : List Nat) (b : D) : run E dd rs (.d (.exit id) :: .lp ts b :: s) f σ = run E dd rs (.d (.exit id) :: s) f σ := by rw [run_eq]; rfl
@[simp] theorem r_ret_blk (id' : Nat) : run E dd rs (.d .ret :: .blk id' :: s) f σ = run E dd rs (.d .ret :: s) f σ := by rw [run_eq]; rfl
@[simp] theorem r_ret_d (x : D) : run E dd rs (.d .ret :: .d x :: s) f σ = run E dd rs (.d .ret :: s) f σ := by rw [run_eq]; rfl
@[simp] theorem r_ret_lp (ts : List Nat) (b : D) : run E dd rs (.d .ret :: .lp ts b :: s) f σ = run E dd rs (.d .ret :: s) f σ := by rw [run_eq]; rfl
@[simp] theorem r_ret : run E dd rs [.d .ret] f σ = finD E (run E) dd rs f.env f.ds .ret σ := by rw [run_eq]; rfl
@[simp] theorem r_end : run E dd rs [] f σ = finD E (run E) dd rs f.env f.ds .ret σ := by rw [run_eq]; rfl
@[simp] theorem ct_nil (r : CO × St) : ct [] r = r := rfl
@[simp] theorem ct_t (n : Nat) (rs : List RC) (r : CO × St) : ct (.t n :: rs) r = r := rfl
@[simp] theorem ct_c (n : Nat) (k : Option Nat) (rs : List RC) (r : CO × St) : ct (.c n k :: rs) r = r := rfl
@[simp] theorem ct_cut (σ0 : St) (rs : List RC) (r : CO × St) : ct (.cut σ0 :: rs) r = cutR .all σ0 r := rfl
@[simp] theorem rsOf_nil : rsOf [] = [] := rfl
@[simp] theorem rsOf_t (n : Nat) (rs : List RC) : rsOf (.t n :: rs) = .t n :: rs := rfl
@[simp] theorem rsOf_c (n : Nat) (k : Option Nat) (rs : List RC) : rsOf (.c n k :: rs) = .c n k :: rs := rfl
@[simp] theorem rsOf_cut (σ0 : St) (rs : List RC) : rsOf (.cut σ0 :: rs) = rs := rfl
@[simp] theorem fin_nil (env : Env) : finD E (run E) dd rs env [] .ret σ = (retV (rsOf rs) env σ).map fun v => ct rs (.ret v, σ) := by cases dd <;> rfl
@[simp] theorem pan_nil (v : V) (dr : Bool) (h : f.ds = []) (hn : noRnd s = true) : panF E (run E) dd dr rs f v s σ = some (ct rs (.panic v, σ)) := by
  unfold panF; rw [if_pos hn, h]; rw [← ct_any rs]; cases dd <;> cases dr <;> first | rfl | (rw [ct_any]; rfl)
@[simp] theorem r_ret_rnd (e : Env) (ds : List AD) (m : Nat) (ps : List Nat) (asg body : D) (gf : FuncId) (cap : List V) (ky : V) (all : List (List V)) (i : Nat) (h : σ.H m = some (.lp .busy)) (hI : E.It gf cap (σ.set m (.lp (.done none))) = some (ky, all)) :
    run E dd rs (.d .ret :: .rnd e ds m ps asg body gf cap ky all i :: s) f σ = run E dd rs (.d .ret :: s) ⟨e, .coll :: ds⟩ (σ.kill m) := by
  rw [run_eq]; simp only [step, h, if_pos hI]; rfl
@[simp] theorem r_exit_rnd (id : Nat) (e : Env) (ds : List AD) (m : Nat) (ps : List Nat) (asg body : D) (gf : FuncId) (cap : List V) (ky : V) (all : List (List V)) (i : Nat) (h : σ.H m = some (.lp .busy)) (hI : E.It gf cap (σ.set m (.lp (.done (some id)))) = some (ky, all)) :
    run E dd rs (.d (.exit id) :: .rnd e ds m ps asg body gf cap ky all i :: s) f σ = run E dd rs (.d (.exit id) :: s) ⟨e, .coll :: ds⟩ (σ.kill m) := by
  rw [run_eq]; simp only [step, h, if_pos hI]; rfl
theorem r_rng (g : Opd) (ps : List Nat) (asg body : D) {gf : FuncId} {cap : List V} {ky : V} {xs : List (List V)} (hn : noRnd s = true) (hg : g.ev f.env = .func (.func gf) [] cap) (hI : E.It gf cap σ = some (ky, xs)) :
    run E dd rs (.d (.rng g ps asg body) :: s) f σ = run E dd rs (.rnd f.env f.ds σ.n ps asg body gf cap ky xs 0 :: s) f (σ.new (.lp .busy)) := by
  rw [run_eq]; simp only [step, if_pos hn, hg, hI]; rfl
theorem r_rnd_end {e : Env} {ds : List AD} {m : Nat} {ps : List Nat} {asg body : D} {gf : FuncId} {cap : List V} {ky : V} {all : List (List V)} {i : Nat} (h : σ.H m = some (.lp .busy)) (hI : E.It gf cap (σ.set m (.lp .ready)) = some (ky, all)) (hi : all[i]? = none) :
    run E dd rs (.rnd e ds m ps asg body gf cap ky all i :: s) f σ = run E dd rs s ⟨e, .coll :: ds⟩ (σ.kill m) := by
  rw [run_eq]; simp only [step, h, if_pos hI, hi]; rfl
theorem r_rnd_at {e e' : Env} {σ1 : St} {ds : List AD} {m : Nat} {ps : List Nat} {asg body : D} {gf : FuncId} {cap : List V} {ky : V} {all : List (List V)} {i : Nat} {x : List V} (h : σ.H m = some (.lp .busy)) (hI : E.It gf cap (σ.set m (.lp .ready)) = some (ky, all)) (hi : all[i]? = some x) (hl : x.length = ps.length)
    (he : asgE asg (setPs e ps x) (σ.set m (.lp .ready)) = some (e', σ1)) (hr : σ1.H m = some (.lp .ready)) : run E dd rs (.rnd e ds m ps asg body gf cap ky all i :: s) f σ = run E dd rs (.d body :: .rnd e ds m ps asg body gf cap ky all (i + 1) :: s) ⟨e', []⟩ (σ1.set m (.lp .busy)) := by
  rw [run_eq]; simp only [step, h, if_pos hI, hi, if_pos hl, he, hr]; rfl
theorem fin_coll (env : Env) (ds : List AD) (m : Md) : finD E (run E) false rs env (.coll :: ds) m σ = finD E (run E) false rs env ds m σ := by
  rw [finD_false, finD_false]; rfl
@[simp] theorem x_call (dr : Bool) (k : FuncId) (as : List Opd) : X1 E dd rs s f σ dr ⟨d, none, .call k as⟩ = goC E dd rs s f d dr (ev E k (evs f.env as) σ) := rfl
@[simp] theorem x_panic (dr : Bool) (x : Opd) : X1 E dd rs s f σ dr ⟨d, none, .panic x⟩ = goP E dd rs s f σ dr (x.ev f.env) := by
  unfold X1 stRI goP; simp only [wantG]; cases x.ev f.env <;> rfl
theorem stG_go (o : Option (V × St)) : nxF E (run E) dd rs (stG d s f o) = goS E dd rs s f d o := by
  cases o <;> rfl
theorem x_plain (dr : Bool) (i : Ins) (h : i.plain = true) : X1 E dd rs s f σ dr ⟨d, none, i⟩ = goS E dd rs s f d (evI f.env σ i) := by
  cases i <;> first | exact stG_go E dd rs s f d (evI f.env σ _) | rfl | (simp [Ins.plain] at h; done)
theorem x_gd (dr : Bool) (t : Nat) (b : Bool) (i : Ins) : X1 E dd rs s f σ dr ⟨d, some (t, b), i⟩ = goG E dd rs s f σ d b (f.env t) dr i := by
  unfold goG X1 stRI
  simp only [wantG]
  split
  · rename_i h1
    split at h1
    · simp at h1
    · simp at h1
    · rename_i h2 h3
      split
      · rename_i h4; exact absurd h4 (h2 _)
      · rename_i h4; exact absurd h4 h3
      · rfl
  · rename_i h1
    split at h1
    · rename_i t' h2
      rw [h2]
      simp only [Option.some.injEq, beq_eq_false_iff_ne, ne_eq] at h1
      simp only [if_neg h1]; rfl
    · rename_i h2; rw [h2]; rfl
    · simp at h1
  · rename_i h1
    split at h1
    · rename_i t' h2
      rw [h2]
      simp only [Option.some.injEq, beq_iff_eq] at h1
      simp only [if_pos h1]
    · simp at h1
    · simp at h1
@[simp] theorem q_gd (t : Nat) (b : Bool) (i : Ins) : XQ E dd rs s f σ ⟨d, some (t, b), i⟩ = goH E dd rs s f σ d b (f.env t) i := by
  unfold XQ goH stQ goS stG
  simp only [wantG]
  split
  · rename_i h1
    split at h1
    · simp at h1
    · simp at h1
    · rename_i h2 h3
      split
      · rename_i h4; exact absurd h4 (h2 _)
      · rename_i h4; exact absurd h4 h3
      · rfl
  · rename_i h1
    split at h1
    · rename_i t' h2
      rw [h2]
      simp only [Option.some.injEq, beq_eq_false_iff_ne, ne_eq] at h1
      simp only [if_neg h1]; rfl
    · rename_i h2; rw [h2]; rfl
    · simp at h1
  · rename_i h1
    split at h1
    · rename_i t' h2
      rw [h2]
      simp only [Option.some.injEq, beq_iff_eq] at h1
      simp only [if_pos h1]
      exact stG_go E dd rs s f d _
    · simp at h1
    · simp at h1
@[simp] theorem q_plain (i : Ins) : XQ E dd rs s f σ ⟨d, none, i⟩ = goS E dd rs s f d (evI f.env σ i) := stG_go E dd rs s f d (evI f.env σ i)
@[simp] theorem x_mv (dr : Bool) (x : Opd) : X1 E dd rs s f σ dr ⟨d, none, .mv x⟩ = goS E dd rs s f d (evI f.env σ (.mv x)) := x_plain _ _ _ _ _ _ _ _ _ rfl
@[simp] theorem x_pick (dr : Bool) (c x y : Opd) : X1 E dd rs s f σ dr ⟨d, none, .pick c x y⟩ = goS E dd rs s f d (evI f.env σ (.pick c x y)) := x_plain _ _ _ _ _ _ _ _ _ rfl
@[simp] theorem x_new (dr : Bool) (z : List V) : X1 E dd rs s f σ dr ⟨d, none, .new z⟩ = goS E dd rs s f d (evI f.env σ (.new z)) := x_plain _ _ _ _ _ _ _ _ _ rfl
@[simp] theorem x_box (dr : Bool) (x : Opd) : X1 E dd rs s f σ dr ⟨d, none, .box x⟩ = goS E dd rs s f d (evI f.env σ (.box x)) := x_plain _ _ _ _ _ _ _ _ _ rfl
@[simp] theorem x_build (dr : Bool) (z : List V) (ps : List (Nat × Nat × Opd)) : X1 E dd rs s f σ dr ⟨d, none, .build z ps⟩ = goS E dd rs s f d (evI f.env σ (.build z ps)) := x_plain _ _ _ _ _ _ _ _ _ rfl
@[simp] theorem x_bslice (dr : Bool) (z : List V) (len : Nat) (ps : List (Nat × Opd)) : X1 E dd rs s f σ dr ⟨d, none, .bslice z len ps⟩ = goS E dd rs s f d (evI f.env σ (.bslice z len ps)) := x_plain _ _ _ _ _ _ _ _ _ rfl
@[simp] theorem x_ld (dr : Bool) (x : Opd) : X1 E dd rs s f σ dr ⟨d, none, .ld x⟩ = goS E dd rs s f d (evI f.env σ (.ld x)) := x_plain _ _ _ _ _ _ _ _ _ rfl
@[simp] theorem x_lda (dr : Bool) (n : Nat) (x : Opd) : X1 E dd rs s f σ dr ⟨d, none, .lda n x⟩ = goS E dd rs s f d (evI f.env σ (.lda n x)) := x_plain _ _ _ _ _ _ _ _ _ rfl
@[simp] theorem x_st (dr : Bool) (n : Nat) (a x : Opd) : X1 E dd rs s f σ dr ⟨d, none, .st n a x⟩ = goS E dd rs s f d (evI f.env σ (.st n a x)) := x_plain _ _ _ _ _ _ _ _ _ rfl
@[simp] theorem x_nilck (dr : Bool) (x : Opd) : X1 E dd rs s f σ dr ⟨d, none, .nilck x⟩ = goS E dd rs s f d (evI f.env σ (.nilck x)) := x_plain _ _ _ _ _ _ _ _ _ rfl
@[simp] theorem x_bin (dr : Bool) (op : BinOp) (x y : Opd) : X1 E dd rs s f σ dr ⟨d, none, .bin op x y⟩ = goS E dd rs s f d (evI f.env σ (.bin op x y)) := x_plain _ _ _ _ _ _ _ _ _ rfl
@[simp] theorem x_beq (dr : Bool) (neg : Bool) (x y : Opd) : X1 E dd rs s f σ dr ⟨d, none, .beq neg x y⟩ = goS E dd rs s f d (evI f.env σ (.beq neg x y)) := x_plain _ _ _ _ _ _ _ _ _ rfl
@[simp] theorem x_nq (dr : Bool) (neg : Bool) (fam : Nat) (x y : Opd) : X1 E dd rs s f σ dr ⟨d, none, .nq neg fam x y⟩ = goS E dd rs s f d (evI f.env σ (.nq neg fam x y)) := x_plain _ _ _ _ _ _ _ _ _ rfl
@[simp] theorem x_eqa (dr : Bool) (neg : Bool) (ks : List CK) (x y : Opd) : X1 E dd rs s f σ dr ⟨d, none, .eqa neg ks x y⟩ = goS E dd rs s f d (evI f.env σ (.eqa neg ks x y)) := x_plain _ _ _ _ _ _ _ _ _ rfl
@[simp] theorem x_un (dr : Bool) (op : UnOp) (x : Opd) : X1 E dd rs s f σ dr ⟨d, none, .un op x⟩ = goS E dd rs s f d (evI f.env σ (.un op x)) := x_plain _ _ _ _ _ _ _ _ _ rfl
@[simp] theorem x_cvi (dr : Bool) (k : IntKind) (x : Opd) : X1 E dd rs s f σ dr ⟨d, none, .cvi k x⟩ = goS E dd rs s f d (evI f.env σ (.cvi k x)) := x_plain _ _ _ _ _ _ _ _ _ rfl
@[simp] theorem x_cvs (dr : Bool) (x : Opd) : X1 E dd rs s f σ dr ⟨d, none, .cvs x⟩ = goS E dd rs s f d (evI f.env σ (.cvs x)) := x_plain _ _ _ _ _ _ _ _ _ rfl
@[simp] theorem x_s2b (dr : Bool) (x : Opd) : X1 E dd rs s f σ dr ⟨d, none, .s2b x⟩ = goS E dd rs s f d (evI f.env σ (.s2b x)) := x_plain _ _ _ _ _ _ _ _ _ rfl
@[simp] theorem x_b2s (dr : Bool) (x : Opd) : X1 E dd rs s f σ dr ⟨d, none, .b2s x⟩ = goS E dd rs s f d (evI f.env σ (.b2s x)) := x_plain _ _ _ _ _ _ _ _ _ rfl
@[simp] theorem x_b2b (dr : Bool) (x : Opd) : X1 E dd rs s f σ dr ⟨d, none, .b2b x⟩ = goS E dd rs s f d (evI f.env σ (.b2b x)) := x_plain _ _ _ _ _ _ _ _ _ rfl
@[simp] theorem x_mki (dr : Bool) (t : TypeId) (x : Opd) : X1 E dd rs s f σ dr ⟨d, none, .mki t x⟩ = goS E dd rs s f d (evI f.env σ (.mki t x)) := x_plain _ _ _ _ _ _ _ _ _ rfl
@[simp] theorem x_mkf (dr : Bool) (fn : Fn) (a b : List Opd) : X1 E dd rs s f σ dr ⟨d, none, .mkf fn a b⟩ = goS E dd rs s f d (evI f.env σ (.mkf fn a b)) := x_plain _ _ _ _ _ _ _ _ _ rfl
@[simp] theorem x_mkmap (dr : Bool)  : X1 E dd rs s f σ dr ⟨d, none, .mkmap⟩ = goS E dd rs s f d (evI f.env σ (.mkmap)) := x_plain _ _ _ _ _ _ _ _ _ rfl
@[simp] theorem x_mksl (dr : Bool) (bytes : Nat) (z : List V) (l c : Opd) : X1 E dd rs s f σ dr ⟨d, none, .mksl bytes z l c⟩ = goS E dd rs s f d (evI f.env σ (.mksl bytes z l c)) := x_plain _ _ _ _ _ _ _ _ _ rfl
@[simp] theorem x_ssl (dr : Bool) (x : Opd) (lo hi : Option Opd) : X1 E dd rs s f σ dr ⟨d, none, .ssl x lo hi⟩ = goS E dd rs s f d (evI f.env σ (.ssl x lo hi)) := x_plain _ _ _ _ _ _ _ _ _ rfl
@[simp] theorem x_lsl (dr : Bool) (z : Nat) (x : Opd) (lo hi : Option Opd) : X1 E dd rs s f σ dr ⟨d, none, .lsl z x lo hi⟩ = goS E dd rs s f d (evI f.env σ (.lsl z x lo hi)) := x_plain _ _ _ _ _ _ _ _ _ rfl
@[simp] theorem x_fa (dr : Bool) (j : Nat) (x : Opd) : X1 E dd rs s f σ dr ⟨d, none, .fa j x⟩ = goS E dd rs s f d (evI f.env σ (.fa j x)) := x_plain _ _ _ _ _ _ _ _ _ rfl
@[simp] theorem x_fld (dr : Bool) (n : Option Nat) (off : Nat) (x : Opd) : X1 E dd rs s f σ dr ⟨d, none, .fld n off x⟩ = goS E dd rs s f d (evI f.env σ (.fld n off x)) := x_plain _ _ _ _ _ _ _ _ _ rfl
@[simp] theorem x_ia (dr : Bool) (z : Nat) (x i : Opd) : X1 E dd rs s f σ dr ⟨d, none, .ia z x i⟩ = goS E dd rs s f d (evI f.env σ (.ia z x i)) := x_plain _ _ _ _ _ _ _ _ _ rfl
@[simp] theorem x_aa (dr : Bool) (n z : Nat) (x i : Opd) : X1 E dd rs s f σ dr ⟨d, none, .aa n z x i⟩ = goS E dd rs s f d (evI f.env σ (.aa n z x i)) := x_plain _ _ _ _ _ _ _ _ _ rfl
@[simp] theorem x_sx (dr : Bool) (x i : Opd) : X1 E dd rs s f σ dr ⟨d, none, .sx x i⟩ = goS E dd rs s f d (evI f.env σ (.sx x i)) := x_plain _ _ _ _ _ _ _ _ _ rfl
@[simp] theorem x_tas (dr : Bool) (t : TypeId) (zero : V) (ok : Bool) (x : Opd) : X1 E dd rs s f σ dr ⟨d, none, .tas t zero ok x⟩ = goS E dd rs s f d (evI f.env σ (.tas t zero ok x)) := x_plain _ _ _ _ _ _ _ _ _ rfl
@[simp] theorem x_ext (dr : Bool) (x : Opd) (i : Nat) : X1 E dd rs s f σ dr ⟨d, none, .ext x i⟩ = goS E dd rs s f d (evI f.env σ (.ext x i)) := x_plain _ _ _ _ _ _ _ _ _ rfl
@[simp] theorem x_slen (dr : Bool) (x : Opd) : X1 E dd rs s f σ dr ⟨d, none, .slen x⟩ = goS E dd rs s f d (evI f.env σ (.slen x)) := x_plain _ _ _ _ _ _ _ _ _ rfl
@[simp] theorem x_llen (dr : Bool) (x : Opd) : X1 E dd rs s f σ dr ⟨d, none, .llen x⟩ = goS E dd rs s f d (evI f.env σ (.llen x)) := x_plain _ _ _ _ _ _ _ _ _ rfl
@[simp] theorem x_app (dr : Bool) (bytes z : Nat) (x y : Opd) : X1 E dd rs s f σ dr ⟨d, none, .app bytes z x y⟩ = goS E dd rs s f d (evI f.env σ (.app bytes z x y)) := x_plain _ _ _ _ _ _ _ _ _ rfl
@[simp] theorem x_mm (dr : Bool) (isMax : Bool) (xs : List Opd) : X1 E dd rs s f σ dr ⟨d, none, .mm isMax xs⟩ = goS E dd rs s f d (evI f.env σ (.mm isMax xs)) := x_plain _ _ _ _ _ _ _ _ _ rfl
attribute [simp] x_gd
@[simp] theorem ev_t (env : Env) (i : Nat) : (Opd.t i).ev env = env i := rfl
@[simp] theorem ev_c (env : Env) (v : V) : (Opd.c v).ev env = v := rfl
@[simp] theorem put_ds (v : V) : (f.put d v).ds = f.ds := rfl
@[simp] theorem put_none (v : V) : f.put none v = f := rfl
@[simp] theorem put_env (n : Nat) (v : V) (t : Nat) : (f.put (some n) v).env t = if t = n then v else f.env t := rfl
@[simp] theorem lk_cons (t n : Nat) (ts : List Nat) (v : V) (vs : List V) : lk (t :: ts) (v :: vs) n = if n = t then v else lk ts vs n := rfl
@[simp] theorem lk_nil (n : Nat) (vs : List V) : lk [] vs n = .any := rfl
@[simp] theorem kp_eq (ts : List Nat) : kp ts f = ⟨lk ts (ts.map f.env), f.ds⟩ := rfl
def boundV : V → Option Nat
  | .int _ n => if 0 ≤ n then some n.toNat else none
  | _ => none
@[simp] theorem bound_none (env : Env) (n : Nat) : bound env n none = some n := rfl
@[simp] theorem bound_some (env : Env) (n : Nat) (x : Opd) : bound env n (some x) = boundV (x.ev env) := rfl
@[simp] theorem evs_nil (env : Env) : evs env [] = [] := rfl
@[simp] theorem evs_cons (env : Env) (x : Opd) (xs : List Opd) : evs env (x :: xs) = x.ev env :: evs env xs := rfl
theorem want_bool (env : Env) (t : Nat) (b c : Bool) (h : env t = .bool c) : wantG env (some (t, b)) = some (c == b) := by simp [wantG, h]
theorem want_undef (env : Env) (t : Nat) (b : Bool) (h : env t = .tup []) : wantG env (some (t, b)) = some false := by simp [wantG, h]
@[simp] theorem envOf_at (vs : List V) (t : Nat) : envOf vs t = vs.getD t (.tup []) := rfl
@[simp] theorem new_n (σ : St) (b : Blk) : (σ.new b).n = σ.n + 1 := rfl
@[simp] theorem set_n (σ : St) (l : Nat) (b : Blk) : (σ.set l b).n = σ.n := rfl
@[simp] theorem kill_n (σ : St) (l : Nat) : (σ.kill l).n = σ.n := rfl
theorem St.ext' {σ σ' : St} (h : ∀ l, σ.H l = σ'.H l) (hn : σ.n = σ'.n) (hW : σ.W = σ'.W) : σ = σ' := by
  cases σ; cases σ'; simp only [St.mk.injEq]; exact ⟨funext h, hn, hW⟩
@[simp] theorem set_set (σ : St) (l : Nat) (b c : Blk) : (σ.set l b).set l c = σ.set l c := by
  refine St.ext' (fun k => ?_) rfl rfl
  show upd (upd σ.H l _) l _ k = upd σ.H l _ k
  unfold upd; split <;> simp_all
@[simp] theorem new_W (σ : St) (b : Blk) : (σ.new b).W = σ.W := rfl
@[simp] theorem set_W (σ : St) (l : Nat) (b : Blk) : (σ.set l b).W = σ.W := rfl
@[simp] theorem kill_W (σ : St) (l : Nat) : (σ.kill l).W = σ.W := rfl
@[simp] theorem new_H (σ : St) (b : Blk) (l : Nat) : (σ.new b).H l = if l = σ.n then some b else σ.H l := rfl
@[simp] theorem set_H (σ : St) (k : Nat) (b : Blk) (l : Nat) : (σ.set k b).H l = if l = k then some b else σ.H l := rfl
@[simp] theorem kill_H (σ : St) (k : Nat) (l : Nat) : (σ.kill k).H l = if l = k then none else σ.H l := rfl
end
attribute [simp] intBin strBin nilEq V.pure buildV bsliceV eqCells setAt
section
variable (σ : St) (k k' : IntKind) (a b n : Int) (s s' : List UInt8) (l i j off len : Nat) (e cs : List V) (es : List (List V)) (z m : Nat) (v : V) (t : TypeId) (fn : Fn) (x y : List V)
theorem binV_int' (op : BinOp) (h : op ≠ .shl) (h' : op ≠ .shr) : binV op (.int k a) (.int k b) = intBin op k a b := by cases op <;> simp [binV] <;> simp_all
@[simp] theorem binV_add : binV .add (.int k a) (.int k b) = some (.int k (k.wrap (a + b))) := by simp [binV]
@[simp] theorem binV_sub : binV .sub (.int k a) (.int k b) = some (.int k (k.wrap (a - b))) := by simp [binV]
@[simp] theorem binV_mul : binV .mul (.int k a) (.int k b) = some (.int k (k.wrap (a * b))) := by simp [binV]
@[simp] theorem binV_quo : binV .quo (.int k a) (.int k b) = if b = 0 then none else some (.int k (k.wrap (a.tdiv b))) := by simp [binV]
@[simp] theorem binV_rem : binV .rem (.int k a) (.int k b) = if b = 0 then none else some (.int k (a.tmod b)) := by simp [binV]
@[simp] theorem binV_eql : binV .eql (.int k a) (.int k b) = some (.bool (decide (a = b))) := by simp [binV]
@[simp] theorem binV_neq : binV .neq (.int k a) (.int k b) = some (.bool (decide (a ≠ b))) := by simp [binV]
@[simp] theorem binV_lss : binV .lss (.int k a) (.int k b) = some (.bool (decide (a < b))) := by simp [binV]
@[simp] theorem binV_leq : binV .leq (.int k a) (.int k b) = some (.bool (decide (a ≤ b))) := by simp [binV]
@[simp] theorem binV_gtr : binV .gtr (.int k a) (.int k b) = some (.bool (decide (a > b))) := by simp [binV]
@[simp] theorem binV_geq : binV .geq (.int k a) (.int k b) = some (.bool (decide (a ≥ b))) := by simp [binV]
@[simp] theorem binV_and : binV .and (.int k a) (.int k b) = intBin .and k a b := by simp [binV]
@[simp] theorem binV_or : binV .or (.int k a) (.int k b) = intBin .or k a b := by simp [binV]
@[simp] theorem binV_xor : binV .xor (.int k a) (.int k b) = intBin .xor k a b := by simp [binV]
@[simp] theorem binV_shl : binV .shl (.int k a) (.int k' b) = if b < 0 then none else some (.int k (k.wrap (a * 2 ^ (min b.toNat k.bits)))) := by simp [binV]
@[simp] theorem binV_shr : binV .shr (.int k a) (.int k' b) = if b < 0 then none else some (.int k (a.fdiv (2 ^ (min b.toNat k.bits)))) := by simp [binV]
@[simp] theorem binV_str (op : BinOp) : binV op (.str s) (.str s') = strBin op s s' := by simp [binV]
@[simp] theorem nilK_nilp : nilK .nilp = some (1, true) := rfl
@[simp] theorem nilK_ptr : nilK (.ptr l i j) = some (1, false) := rfl
@[simp] theorem nilK_iptr : nilK (.iptr e j) = some (1, false) := rfl
@[simp] theorem nilK_nils : nilK .nils = some (2, true) := rfl
@[simp] theorem nilK_slc : nilK (.slc l off len) = some (2, false) := rfl
@[simp] theorem nilK_islc : nilK (.islc z es) = some (2, false) := rfl
@[simp] theorem nilK_nilf : nilK .nilf = some (3, true) := rfl
@[simp] theorem nilK_func : nilK (.func fn x y) = some (3, false) := rfl
@[simp] theorem nilK_nili : nilK .nili = some (4, true) := rfl
@[simp] theorem nilK_iface : nilK (.iface t v) = some (4, false) := rfl
@[simp] theorem nilK_mapn : nilK .mapn = some (5, true) := rfl
@[simp] theorem nilK_map : nilK (.map l) = some (5, false) := rfl
@[simp] theorem ldV_ptr : ldV σ (.ptr l i j) = match σ.H l with | some (.row _ es) => (es[i]?).bind (·[j]?) | _ => none := rfl
@[simp] theorem ldV_iptr : ldV σ (.iptr e j) = e[j]? := rfl
@[simp] theorem ldaV_ptr : ldaV σ m (.ptr l i j) = match σ.H l with | some (.row _ es) => (es[i]?).bind fun e => if j + m ≤ e.length then some (.agg ((e.drop j).take m)) else none | _ => none := rfl
@[simp] theorem ldaV_iptr : ldaV σ m (.iptr e j) = if j + m ≤ e.length then some (.agg ((e.drop j).take m)) else none := rfl
@[simp] theorem stV_ptr : stV σ m (.ptr l i j) v = match σ.H l with | some (.row z es) => (es[i]?).bind fun e => if v.cells.length = m ∧ j + m ≤ e.length ∧ v.cells.all V.scal = true then some (σ.set l (.row z (es.set i (setAt e j v.cells)))) else none | _ => none := rfl
@[simp] theorem nilckV_ptr : nilckV (.ptr l i j) = some (.ptr l i j) := rfl
@[simp] theorem nilckV_iptr : nilckV (.iptr e j) = some (.iptr e j) := rfl
@[simp] theorem nilckV_func (f : FuncId) : nilckV (.func (.func f) x y) = some (.func (.func f) x y) := rfl
@[simp] theorem mkslV_int (bytes : Nat) (zc : List V) : mkslV σ bytes zc (.int k a) (.int k' b) = if 0 ≤ a ∧ a ≤ b ∧ bytes * b ≤ reach ∧ b ≤ reach then some (.slc σ.n 0 a.toNat, σ.new (.row zc.length (List.replicate a.toNat zc))) else none := rfl
@[simp] theorem sslV_str (env : Env) (lo hi : Option Opd) : sslV env (.str s) lo hi = (bound env s.length hi).bind fun h => (bound env 0 lo).bind fun l => if l ≤ h ∧ h ≤ s.length then some (.str ((s.take h).drop l)) else none := rfl
@[simp] theorem faV_ptr : faV m (.ptr l i j) = some (.ptr l i (j + m)) := rfl
@[simp] theorem faV_iptr : faV m (.iptr e j) = some (.iptr e (j + m)) := rfl
@[simp] theorem fldV_none : fldV none off (.agg cs) = cs[off]? := rfl
@[simp] theorem fldV_some : fldV (some m) off (.agg cs) = if off + m ≤ cs.length then some (.agg ((cs.drop off).take m)) else none := rfl
@[simp] theorem aaV_ptr : aaV m z (.ptr l i j) (.int k n) = if 0 ≤ n ∧ n < m then some (.ptr l i (j + n.toNat * z)) else none := rfl
@[simp] theorem aaV_iptr : aaV m z (.iptr e j) (.int k n) = if 0 ≤ n ∧ n < m then some (.iptr e (j + n.toNat * z)) else none := rfl
@[simp] theorem sxV_str : sxV (.str s) (.int k n) = if 0 ≤ n then (s[n.toNat]?).map fun b => .int .u8 b.toNat else none := rfl
@[simp] theorem tasV_iface (t' : TypeId) (zero : V) (ok : Bool) : tasV t zero ok (.iface t' v) = if t' = t then some (if ok then .tup [v, .bool true] else v) else if ok then some (.tup [zero, .bool false]) else none := rfl
@[simp] theorem tasV_nili (zero : V) (ok : Bool) : tasV t zero ok .nili = if ok then some (.tup [zero, .bool false]) else none := rfl
@[simp] theorem cviV_int : cviV k (.int k' a) = some (.int k (k.wrap a)) := rfl
@[simp] theorem negV_int : negV (.int k a) = some (.int k (k.wrap (0 - a))) := rfl
@[simp] theorem mmV_int (isMax : Bool) : mmV isMax (.int k a) (.int k b) = some (.int k (if isMax then (if b > a then b else a) else (if b < a then b else a))) := by simp [mmV]
@[simp] theorem b2bV_slc : b2bV σ (.slc l off len) = match σ.H l with | some (.row _ _) => if 0 < len then some (.slc l off len) else none | _ => none := rfl
@[simp] theorem lenV_nils : lenV .nils = some (.int .i64 0) := rfl
@[simp] theorem lenV_islc : lenV (.islc z es) = some (.int .i64 es.length) := rfl
@[simp] theorem lenV_slc : lenV (.slc l off len) = some (.int .i64 len) := rfl
@[simp] theorem boundV_int : boundV (.int k n) = if 0 ≤ n then some n.toNat else none := rfl
@[simp] theorem boundV_nat : boundV (.int k (m : Int)) = some m := by simp
@[simp] theorem cells_agg : (V.agg cs).cells = cs := rfl
theorem cells_scal {v : V} (h : v.scal = true) : v.cells = [v] := by cases v <;> first | rfl | simp [V.scal] at h
@[simp] theorem cells_int : (V.int k n).cells = [.int k n] := rfl
@[simp] theorem cells_bool (b : Bool) : (V.bool b).cells = [.bool b] := rfl
@[simp] theorem cells_str : (V.str s).cells = [.str s] := rfl
@[simp] theorem cells_nilp : V.nilp.cells = [.nilp] := rfl
@[simp] theorem cells_ptr : (V.ptr l i j).cells = [.ptr l i j] := rfl
@[simp] theorem cells_iptr : (V.iptr e j).cells = [.iptr e j] := rfl
@[simp] theorem cells_nils : V.nils.cells = [.nils] := rfl
@[simp] theorem cells_slc : (V.slc l off len).cells = [.slc l off len] := rfl
@[simp] theorem cells_islc : (V.islc z es).cells = [.islc z es] := rfl
@[simp] theorem cells_mapn : V.mapn.cells = [.mapn] := rfl
@[simp] theorem cells_map : (V.map l).cells = [.map l] := rfl
@[simp] theorem cells_func : (V.func fn x y).cells = [.func fn x y] := rfl
@[simp] theorem cells_nilf : V.nilf.cells = [.nilf] := rfl
@[simp] theorem cells_iface : (V.iface t v).cells = [.iface t v] := rfl
@[simp] theorem cells_nili : V.nili.cells = [.nili] := rfl
@[simp] theorem scal_int : (V.int k n).scal = true := rfl
@[simp] theorem scal_bool (b : Bool) : (V.bool b).scal = true := rfl
@[simp] theorem scal_str : (V.str s).scal = true := rfl
@[simp] theorem scal_nilp : V.nilp.scal = true := rfl
@[simp] theorem scal_ptr : (V.ptr l i j).scal = true := rfl
@[simp] theorem scal_iptr : (V.iptr e j).scal = true := rfl
@[simp] theorem scal_nils : V.nils.scal = true := rfl
@[simp] theorem scal_slc : (V.slc l off len).scal = true := rfl
@[simp] theorem scal_islc : (V.islc z es).scal = true := rfl
@[simp] theorem scal_mapn : V.mapn.scal = true := rfl
@[simp] theorem scal_map : (V.map l).scal = true := rfl
@[simp] theorem scal_func : (V.func fn x y).scal = true := rfl
@[simp] theorem scal_nilf : V.nilf.scal = true := rfl
@[simp] theorem scal_iface : (V.iface t v).scal = true := rfl
@[simp] theorem scal_nili : V.nili.scal = true := rfl
@[simp] theorem pickV_t (a b : V) : pickV (.bool true) a b = some a := rfl
@[simp] theorem pickV_f (a b : V) : pickV (.bool false) a b = some b := rfl
@[simp] theorem notV_b (b : Bool) : notV (.bool b) = some (.bool !b) := rfl
@[simp] theorem beqV_b (neg a b : Bool) : beqV neg (.bool a) (.bool b) = some (.bool (if neg then decide (a ≠ b) else decide (a = b))) := rfl
@[simp] theorem eqaV_a (neg : Bool) (ks : List CK) (a b : List V) : eqaV neg ks (.agg a) (.agg b) = (eqCells ks a b).map fun r => .bool (if neg then !r else r) := rfl
@[simp] theorem cvsV_s : cvsV (.str s) = some (.str s) := rfl
@[simp] theorem s2bV_s : s2bV σ (.str s) = some (.slc σ.n 0 s.length, σ.new (.row 1 (s.map byteE))) := rfl
@[simp] theorem extV_t (vs : List V) (i : Nat) : extV i (.tup vs) = vs[i]? := rfl
@[simp] theorem slenV_s : slenV (.str s) = some (.int .i64 s.length) := rfl
@[simp] theorem xorV_i : xorV (.int k n) = some (.int k (k.wrap (BitVec.ofInt k.bits (if k.signed then -1 else k.max) ^^^ BitVec.ofInt k.bits n).toNat)) := rfl
@[simp] theorem boxV_a (cs : List V) : boxV σ (.agg cs) = if cs.all V.scal = true ∧ 0 < cs.length then some (.ptr σ.n 0 0, σ.new (.row cs.length [cs])) else none := rfl
theorem boxV_v (v : V) (h : v.scal = true) : boxV σ v = some (.ptr σ.n 0 0, σ.new (.row 1 [[v]])) := by
  unfold boxV; rw [cells_scal h]; simp [h]
end
attribute [simp] retV resL resV one
end Go.Proofs.YtmkgmjdbgjiehaaDoor.Ab
