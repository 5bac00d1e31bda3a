/-
The walk over the program's texts, told with what its values say: a part of it. No further condition.
-/
import Derived.Test.YtmjbnfldehbmcaaDoorAb5
import Derived.Laws.BytesString
namespace Go.Proofs.YtmjbnfldehbmcaaDoor.Ab
open Go.RowKit
set_option linter.unusedVariables false
set_option linter.unusedSimpArgs false
section
variable {P : Program} {φ : Phi} {I : Nat → Prop} {σ : St} {w : World} {nt : Nat} {env : Env} {a : Act}
theorem quiet_un {o : Oper} {op : UnOp} {t : TypeId} {x : Operand} {x' : Opd} {v : V} (ho : o.op = .unOp op t x)
    (hf : EnvR φ I w nt env a) (hx : cOpd nt x = some x') {σ' : St} (he : evI env σ (.un op x') = some (v, σ')) : σ' = σ ∧ Quiet P φ I w a o v := by
  have h := cOpd_rel hf hx
  obtain ⟨dst, op', ty, pos, after, guard⟩ := o
  simp only at ho; subst ho
  simp only [evI] at he
  split at he <;> simp only [Option.some.injEq, Prod.mk.injEq, reduceCtorEq] at he
  · rename_i k n e; obtain ⟨rfl, rfl⟩ := he; rw [e] at h; exact ⟨rfl, .int k (k.wrap (0 - n)), by simp [execOp, h.int_inv, Op.unary, Op.intArith], .int _ _⟩
  · rename_i k n e; obtain ⟨rfl, rfl⟩ := he; rw [e] at h; exact ⟨rfl, .int k _, by simp [execOp, h.int_inv, Op.unary, Op.intBits], .int _ _⟩
  · rename_i b e; obtain ⟨rfl, rfl⟩ := he; rw [e] at h; exact ⟨rfl, .bool !b, by simp [execOp, h.bool_inv, Op.unary], .bool _⟩
theorem quiet_cvi {o : Oper} {s t : TypeId} {k ks : IntKind} {x : Operand} {x' : Opd} {v : V} (ho : o.op = .convert s t x) (hs : P.underlying s = some (.int ks)) (ht : P.underlying t = some (.int k))
    (hf : EnvR φ I w nt env a) (hx : cOpd nt x = some x') {σ' : St} (he : evI env σ (.cvi k x') = some (v, σ')) : σ' = σ ∧ Quiet P φ I w a o v := by
  have h := cOpd_rel hf hx
  obtain ⟨dst, op', ty, pos, after, guard⟩ := o
  simp only at ho; subst ho
  simp only [evI] at he
  split at he <;> simp only [Option.some.injEq, Prod.mk.injEq, reduceCtorEq] at he
  rename_i k' n e; obtain ⟨rfl, rfl⟩ := he; rw [e] at h
  exact ⟨rfl, .int k (k.wrap n), by simp [execOp, h.int_inv, convert, run_underlying hs, run_underlying ht, Conv.intToInt], .int _ _⟩
theorem quiet_cvs {o : Oper} {s t : TypeId} {x : Operand} {x' : Opd} {v : V} (ho : o.op = .convert s t x) (hs : P.underlying s = some .string) (ht : P.underlying t = some .string)
    (hf : EnvR φ I w nt env a) (hx : cOpd nt x = some x') {σ' : St} (he : evI env σ (.cvs x') = some (v, σ')) : σ' = σ ∧ Quiet P φ I w a o v := by
  have h := cOpd_rel hf hx
  obtain ⟨dst, op', ty, pos, after, guard⟩ := o
  simp only at ho; subst ho
  simp only [evI] at he
  split at he <;> simp only [Option.some.injEq, Prod.mk.injEq, reduceCtorEq] at he
  rename_i l e; obtain ⟨rfl, rfl⟩ := he; rw [e] at h
  obtain ⟨b, hb, hl⟩ := h.str_inv
  exact ⟨rfl, .string b, by simp [execOp, hb, convert, run_underlying hs, run_underlying ht], .str hl⟩
theorem quiet_mki {o : Oper} {t : TypeId} {d : TypeDesc} {x : Operand} {x' : Opd} {v : V} (ho : o.op = .makeInterface t x) (ht : P.underlying t = some d) (hd : ∀ ms, d ≠ .interface ms)
    (hf : EnvR φ I w nt env a) (hx : cOpd nt x = some x') {σ' : St} (he : evI env σ (.mki t x') = some (v, σ')) : σ' = σ ∧ Quiet P φ I w a o v := by
  have h := cOpd_rel hf hx
  obtain ⟨dst, op', ty, pos, after, guard⟩ := o
  simp only at ho; subst ho
  simp only [evI, Option.some.injEq, Prod.mk.injEq] at he
  obtain ⟨rfl, rfl⟩ := he
  refine ⟨rfl, .iface t (a.eval x), ?_, .iface _ h⟩
  cases d <;> first | exact absurd rfl (hd _) | simp [execOp, Instr.makeInterface, run_underlying ht]
theorem rels_map (hf : EnvR φ I w nt env a) {xs : Array Operand} {xs' : List Opd} (h : cOpds nt xs.toList = some xs') :
    (xs.map a.eval).size = (xs'.map (·.ev env)).length ∧ ∀ i v, (xs'.map (·.ev env))[i]? = some v → Rel φ I w v ((xs.map a.eval).getD i undef) := by
  obtain ⟨h1, h2⟩ := mapM_some h
  refine ⟨by simp [h1], fun i v hv => ?_⟩
  simp only [List.getElem?_map, Option.map_eq_some_iff] at hv
  obtain ⟨y, hy, rfl⟩ := hv
  obtain ⟨x, hx, hxy⟩ := h2 i y hy
  have hx : xs[i]? = some x := by simpa using hx
  have : (xs.map a.eval).getD i undef = a.eval x := by simp [hx]
  rw [this]
  exact cOpd_rel hf hxy
theorem quiet_mkf {o : Oper} {fn : Fn} {xs ys : Array Operand} {xs' ys' : List Opd} {v : V} (ho : o.op = .makeFunc fn xs ys)
    (hf : EnvR φ I w nt env a) (hx : cOpds nt xs.toList = some xs') (hy : cOpds nt ys.toList = some ys') {σ' : St} (he : evI env σ (.mkf fn xs' ys') = some (v, σ')) : σ' = σ ∧ Quiet P φ I w a o v := by
  obtain ⟨h1, h2⟩ := rels_map hf hx
  obtain ⟨h3, h4⟩ := rels_map hf hy
  obtain ⟨dst, op', ty, pos, after, guard⟩ := o
  simp only at ho; subst ho
  simp only [evI, Option.some.injEq, Prod.mk.injEq] at he
  obtain ⟨rfl, rfl⟩ := he
  exact ⟨rfl, .func fn (xs.map a.eval) (ys.map a.eval), by simp [execOp, Instr.makeFunc], .func _ h1 h2 h3 h4⟩
theorem quiet_fa {o : Oper} {s : TypeId} {x : Operand} {x' : Opd} {f : Nat} {d : Nat × TypeId × Nat} {v : V} (ho : o.op = .fieldAddr s x f) (hd : fieldD P s f = some d) (hn : d.2.2 ≠ 0)
    (hf : EnvR φ I w nt env a) (hx : cOpd nt x = some x') {σ' : St} (he : evI env σ (.fa d.1 x') = some (v, σ')) : σ' = σ ∧ Quiet P φ I w a o v := by
  have h := cOpd_rel hf hx
  obtain ⟨dst, op', ty, pos, after, guard⟩ := o
  simp only at ho; subst ho
  unfold fieldD at hd
  split at hd
  · rename_i fs hu
    simp only [Option.bind_eq_some_iff, Option.map_eq_some_iff] at hd
    obtain ⟨fd, hfd, n, hsz, rfl⟩ := hd
    have key : ∀ ad, a.eval x = .pointer (some ad) → (execOp a.eval ⟨dst, .fieldAddr s x f, ty, pos, after, guard⟩).run P w = .ok (.value (.pointer (some (ad.add fd.offset)))) w := fun ad hq => by
      have : (fieldPlace ad fd).run P w = .ok (ad.add fd.offset) w := by
        unfold fieldPlace
        rw [Sem.run_bind, run_sizeOf hsz]
        simp only at hn
        simp [hn]
      simp [execOp, Instr.fieldAt, run_underlying hu, hfd, hq, Instr.sureAddr, this]
    simp only [evI] at he
    split at he <;> simp only [Option.some.injEq, Prod.mk.injEq, reduceCtorEq] at he
    · rename_i l i j e
      obtain ⟨rfl, rfl⟩ := he
      rw [e] at h
      generalize hq : a.eval x = q at h
      cases h with
      | ptr i j hφ => exact ⟨rfl, _, key _ hq, by rw [Addr.add_lit, Nat.add_assoc]; exact .ptr i _ hφ⟩
    · rename_i l j e
      obtain ⟨rfl, rfl⟩ := he
      rw [e] at h
      generalize hq : a.eval x = q at h
      cases h with
      | iptr j hI hc ho hp hr => exact ⟨rfl, _, key _ hq, by rw [Addr.add_lit, Nat.add_assoc]; exact .iptr _ hI hc ho hp hr⟩
  · simp at hd
theorem run_part_agg {t : TypeId} {d : TypeDesc} {n : Nat} (hd : P.underlying t = some d) (hag : isAggD d = true) (hn : sizeD P t = some n) (cs : Array Value) (o : Nat) :
    (part t cs o).run P w = .ok (.agg (cs.extract o (o + n))) w := by
  simp [part, run_isAgg hd, hag, run_sizeOf hn]
theorem run_part_one {t : TypeId} {d : TypeDesc} (hd : P.underlying t = some d) (hag : isAggD d = false) (cs : Array Value) (o : Nat) (h : o < cs.size) :
    (part t cs o).run P w = .ok (cs.getD o undef) w := by
  simp [part, run_isAgg hd, hag, h]
theorem Rel.sub {vs : List V} {cs : Array Value} (h : cs.size = vs.length) (r : ∀ i v, vs[i]? = some v → Rel φ I w v (cs.getD i undef)) {o n : Nat} (hl : o + n ≤ vs.length) :
    Rel φ I w (.agg ((vs.drop o).take n)) (.agg (cs.extract o (o + n))) := by
  refine .agg (by simp; omega) (fun i v hv => ?_)
  have hi : i < n := by have := (List.getElem?_eq_some_iff.1 hv).1; simp at this; omega
  simp only [List.getElem?_take, hi, if_true, List.getElem?_drop] at hv
  have := r _ _ hv
  have hs : o + i < cs.size := by omega
  simp only [Array.getD_eq_getD_getElem?] at this ⊢
  rw [Array.getElem?_extract]
  simpa [show i < min (o + n) cs.size - o by omega] using this
theorem quiet_fld {o : Oper} {s : TypeId} {x : Operand} {x' : Opd} {f : Nat} {d : Nat × TypeId × Nat} {u : TypeDesc} {v : V} (ho : o.op = .field s x f) (hd : fieldD P s f = some d) (hu : P.underlying d.2.1 = some u)
    (hf : EnvR φ I w nt env a) (hx : cOpd nt x = some x') {σ' : St} (he : evI env σ (.fld (if isAggD u then some d.2.2 else none) d.1 x') = some (v, σ')) : σ' = σ ∧ Quiet P φ I w a o v := by
  have h := cOpd_rel hf hx
  obtain ⟨dst, op', ty, pos, after, guard⟩ := o
  simp only at ho; subst ho
  unfold fieldD at hd
  split at hd
  · rename_i fs hs
    simp only [Option.bind_eq_some_iff, Option.map_eq_some_iff] at hd
    obtain ⟨fd, hfd, n, hsz, rfl⟩ := hd
    simp only [evI] at he
    split at he <;> (try (simp only [reduceCtorEq] at he; done))
    rename_i vs e
    rw [e] at h
    generalize hq : a.eval x = q at h
    cases h with
    | agg hl hr =>
      rename_i cs
      split at he
      · rename_i hif
        simp only [Option.map_eq_some_iff, Prod.mk.injEq] at he
        obtain ⟨v', hv, rfl, rfl⟩ := he
        have hag : isAggD u = false := by cases hh : isAggD u <;> simp_all
        have hlt := (List.getElem?_eq_some_iff.1 hv).1
        have hp : (part fd.type cs fd.offset).run P w = .ok (cs.getD fd.offset undef) w := run_part_one hu hag cs _ (by omega)
        exact ⟨rfl, _, by simp only [execOp, Instr.field, hq, asAgg, Sem.run_bind, run_underlying hs, Result.andThen_ok, hfd, Sem.run_pure, hp], hr _ _ hv⟩
      · rename_i n' hif
        split at he
        · rename_i hle
          simp only [Option.some.injEq, Prod.mk.injEq] at he
          obtain ⟨rfl, rfl⟩ := he
          have hag : isAggD u = true := by cases hh : isAggD u <;> simp_all
          simp only [hag, if_true, Option.some.injEq] at hif
          subst hif
          have hp : (part fd.type cs fd.offset).run P w = .ok (.agg (cs.extract fd.offset (fd.offset + n))) w := run_part_agg hu hag hsz cs _
          exact ⟨rfl, _, by simp only [execOp, Instr.field, hq, asAgg, Sem.run_bind, run_underlying hs, Result.andThen_ok, hfd, Sem.run_pure, hp], Rel.sub hl hr hle⟩
        · simp at he
  · simp at hd
theorem quiet_ext {o : Oper} {x : Operand} {x' : Opd} {i : Nat} {v : V} (ho : o.op = .extract x i)
    (hf : EnvR φ I w nt env a) (hx : cOpd nt x = some x') {σ' : St} (he : evI env σ (.ext x' i) = some (v, σ')) : σ' = σ ∧ Quiet P φ I w a o v := by
  have h := cOpd_rel hf hx
  obtain ⟨dst, op', ty, pos, after, guard⟩ := o
  simp only at ho; subst ho
  simp only [evI] at he
  split at he <;> (try (simp only [reduceCtorEq] at he; done))
  rename_i vs e
  rw [e] at h
  simp only [Option.map_eq_some_iff, Prod.mk.injEq] at he
  obtain ⟨v', hv, rfl, rfl⟩ := he
  generalize hq : a.eval x = q at h
  cases h with
  | tup hl hr =>
    rename_i cs
    have hlt := (List.getElem?_eq_some_iff.1 hv).1
    have hlt' : i < cs.size := by omega
    have : cs[i]? = some (cs.getD i undef) := by rw [Array.getD_eq_getD_getElem?, getElem?_pos cs i hlt']; rfl
    exact ⟨rfl, _, by simp only [execOp, Instr.extract, hq, this, Sem.run_bind, Sem.run_pure, Result.andThen_ok], hr _ _ hv⟩
theorem quiet_slen {o : Oper} {c : Call} {x : Operand} {x' : Opd} {t : TypeId} {v : V} (ho : o.op = .call c) (hc : c.callee = .builtin .len) (ht : c.argTypes[0]? = some t) (ha : c.args.toList = [x]) (hu : P.underlying t = some .string)
    (hf : EnvR φ I w nt env a) (hx : cOpd nt x = some x') {σ' : St} (he : evI env σ (.slen x') = some (v, σ')) : σ' = σ ∧ Quiet P φ I w a o v := by
  have h := cOpd_rel hf hx
  obtain ⟨dst, op', ty, pos, after, guard⟩ := o
  simp only at ho; subst ho
  obtain ⟨cal, args, ts⟩ := c
  simp only at hc ht ha; subst hc
  obtain rfl : args = #[x] := by cases args; simp_all
  simp only [evI] at he
  split at he <;> simp only [Option.some.injEq, Prod.mk.injEq, reduceCtorEq] at he
  rename_i s e; obtain ⟨rfl, rfl⟩ := he; rw [e] at h
  obtain ⟨b, hb, rfl⟩ := h.str_inv
  refine ⟨rfl, .int .i64 b.size, ?_, .int _ _⟩
  simp [execOp, resolve, invoke, builtin, Builtin.len_, ht, hb, run_underlying hu, goInt]
theorem quiet_llen {o : Oper} {c : Call} {x : Operand} {x' : Opd} {t e : TypeId} {v : V} (ho : o.op = .call c) (hc : c.callee = .builtin .len) (ht : c.argTypes[0]? = some t) (ha : c.args.toList = [x]) (hu : P.underlying t = some (.slice e))
    (hf : EnvR φ I w nt env a) (hx : cOpd nt x = some x') {σ' : St} (he : evI env σ (.llen x') = some (v, σ')) : σ' = σ ∧ Quiet P φ I w a o v := by
  have h := cOpd_rel hf hx
  obtain ⟨dst, op', ty, pos, after, guard⟩ := o
  simp only at ho; subst ho
  obtain ⟨cal, args, ts⟩ := c
  simp only at hc ht ha; subst hc
  obtain rfl : args = #[x] := by cases args; simp_all
  simp only [evI] at he
  generalize hq : a.eval x = q at h
  split at he <;> simp only [Option.some.injEq, Prod.mk.injEq, reduceCtorEq] at he <;> obtain ⟨rfl, rfl⟩ := he <;> rename_i e <;> rw [e] at h <;> cases h <;>
    refine ⟨rfl, .int .i64 _, by simp [execOp, resolve, invoke, builtin, Builtin.len_, ht, hq, run_underlying hu, goInt], .int _ _⟩
theorem quiet_sx {o : Oper} {t : TypeId} {x y : Operand} {x' y' : Opd} {v : V} (ho : o.op = .index t x y) (hu : P.underlying t = some .string)
    (hf : EnvR φ I w nt env a) (hx : cOpd nt x = some x') (hy : cOpd nt y = some y') {σ' : St} (he : evI env σ (.sx x' y') = some (v, σ')) : σ' = σ ∧ Quiet P φ I w a o v := by
  have h1 := cOpd_rel hf hx
  have h2 := cOpd_rel hf hy
  obtain ⟨dst, op', ty, pos, after, guard⟩ := o
  simp only at ho; subst ho
  simp only [evI] at he
  split at he <;> (try (simp only [reduceCtorEq] at he; done))
  rename_i s k n e1 e2
  rw [e1] at h1; rw [e2] at h2
  obtain ⟨b, hb, rfl⟩ := h1.str_inv
  have h2 := h2.int_inv
  split at he
  · rename_i h0
    simp only [Option.map_eq_some_iff, Prod.mk.injEq] at he
    obtain ⟨u, hu', rfl, rfl⟩ := he
    have hg : b[n.toNat]? = some u := by
      obtain ⟨hlt, he⟩ := List.getElem?_eq_some_iff.1 hu'
      have hlt' : n.toNat < b.size := by simpa using hlt
      rw [getElem?_pos b n.toNat hlt']
      congr 1
    refine ⟨rfl, .int .u8 u.toNat, ?_, .int _ _⟩
    simp [execOp, Instr.index, hb, h2, asIntOf, run_underlying hu, h0, hg]
  · simp at he
end
end Go.Proofs.YtmjbnfldehbmcaaDoor.Ab
