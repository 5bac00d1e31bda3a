/-
The walk over the program's texts, told with what its values say: a part of it. No further condition.
-/
import Derived.Test.YtmkgmjdbgjiehaaDoorAb6
namespace Go.Proofs.YtmkgmjdbgjiehaaDoor.Ab
open Go.RowKit
set_option linter.unusedVariables false
set_option linter.unusedSimpArgs false
section
variable {P : Program} {φ : Phi} {I : Nat → Prop} {σ : St} {w : World} {nt : Nat} {env : Env} {a : Act}
theorem cOpdO_bound (hf : EnvR φ I w nt env a) {x : Option Operand} {x' : Option Opd} (h : cOpdO nt x = some x') {d n : Nat} (hb : bound env d x' = some n) :
    (x = none ∧ n = d) ∨ (∃ y k, x = some y ∧ a.eval y = .int k n) := by
  cases x with
  | none =>
    simp only [cOpdO, Option.some.injEq] at h; subst h
    simp only [bound, Option.some.injEq] at hb
    exact .inl ⟨rfl, hb.symm⟩
  | some y =>
    simp only [cOpdO, Option.map_eq_some_iff] at h
    obtain ⟨y', hy, rfl⟩ := h
    have h := cOpd_rel hf hy
    simp only [bound] at hb
    split at hb
    · rename_i k m e
      rw [e] at h
      split at hb
      · rename_i h0
        simp only [Option.some.injEq] at hb
        refine .inr ⟨y, k, rfl, ?_⟩
        rw [h.int_inv]
        congr 1
        omega
      · simp at hb
    · simp at hb
theorem run_bound {k : IntKind} {n m : Nat} (h : n ≤ m) (code : BoundsCode) : (Instr.sliceBound (.int k n) m code).run P w = .ok n w := by
  have h1 : (0 : Int) ≤ n ∧ (n : Int) ≤ m := by omega
  simp [Instr.sliceBound, asIntOf, h1]
theorem run_bounds (hf : EnvR φ I w nt env a) {lo hi : Option Operand} {lo' hi' : Option Opd} (h1 : cOpdO nt lo = some lo') (h2 : cOpdO nt hi = some hi') {len cap l h : Nat} (hl : bound env 0 lo' = some l)
    (hh : bound env len hi' = some h) (hlh : l ≤ h) (hhc : h ≤ cap) (isS : Bool) : (Instr.sliceBounds isS len cap (lo.map a.eval) (hi.map a.eval) none).run P w = .ok (l, h, cap) w := by
  rcases cOpdO_bound hf h1 hl with ⟨rfl, rfl⟩ | ⟨x, k, rfl, hx⟩ <;> rcases cOpdO_bound hf h2 hh with ⟨rfl, rfl⟩ | ⟨y, k', rfl, hy⟩
  · simp [Instr.sliceBounds]
  · simp [Instr.sliceBounds, hy, run_bound hhc]
  · simp [Instr.sliceBounds, hx, run_bound hlh]
  · simp [Instr.sliceBounds, hx, hy, run_bound hlh, run_bound hhc]
theorem extract_list (s : ByteArray) (l h : Nat) : (s.extract l h).data.toList = (s.data.toList.take h).drop l := by
  rw [ByteArray.data_extract, Array.toList_extract, List.extract_eq_take_drop, List.drop_take]
theorem quiet_ssl {o : Oper} {t : TypeId} {x : Operand} {x' : Opd} {lo hi : Option Operand} {lo' hi' : Option Opd} {v : V} (ho : o.op = .slice t x lo hi none) (hu : P.underlying t = some .string)
    (hf : EnvR φ I w nt env a) (hx : cOpd nt x = some x') (h1 : cOpdO nt lo = some lo') (h2 : cOpdO nt hi = some hi') {σ' : St} (he : evI env σ (.ssl x' lo' hi') = some (v, σ')) : σ' = σ ∧ Quiet P φ I w a o v := by
  have h := cOpd_rel hf hx
  obtain ⟨dst, op', ty, pos, after, guard⟩ := o
  simp only at ho; subst ho
  simp only [evI] at he
  split at he <;> (try (simp only [reduceCtorEq] at he; done))
  rename_i s e
  rw [e] at h
  obtain ⟨b, hb, rfl⟩ := h.str_inv
  simp only [Option.bind_eq_some_iff] at he
  obtain ⟨hn, hh, l, hl, he⟩ := he
  split at he
  · rename_i hle
    simp only [Option.some.injEq, Prod.mk.injEq] at he
    obtain ⟨rfl, rfl⟩ := he
    have hsz : b.data.toList.length = b.size := by simp
    rw [hsz] at hh hle
    have hr := run_bounds (P := P) hf h1 h2 hl hh hle.1 hle.2 false
    refine ⟨rfl, .string (b.extract l hn), ?_, .str (extract_list b l hn)⟩
    simp [execOp, Instr.sliceAt, Instr.slice, run_underlying hu, hb, hr]
  · simp at he
theorem quiet_lsl {o : Oper} {t ty' : TypeId} {z : Nat} {x : Operand} {x' : Opd} {lo hi : Option Operand} {lo' hi' : Option Opd} {v : V} (ho : o.op = .slice t x lo hi none) (hu : P.underlying t = some (.slice ty')) (hz : sizeD P ty' = some z) (hzp : 0 < z)
    (hs : Sim φ I σ w) (hf : EnvR φ I w nt env a) (hx : cOpd nt x = some x') (h1 : cOpdO nt lo = some lo') (h2 : cOpdO nt hi = some hi') {σ' : St} (he : evI env σ (.lsl z x' lo' hi') = some (v, σ')) : σ' = σ ∧ Quiet P φ I w a o v := by
  have h := cOpd_rel hf hx
  obtain ⟨dst, op', ty, pos, after, guard⟩ := o
  simp only at ho; subst ho
  have key : ∀ (p : Option Addr) (len cap l hn : Nat), a.eval x = .slice p len cap → bound env 0 lo' = some l → bound env len hi' = some hn → l ≤ hn → hn ≤ cap →
      (execOp a.eval ⟨dst, .slice t x lo hi none, ty, pos, after, guard⟩).run P w = .ok (.value (.slice (if cap = l then p else p.map (·.add (l * z))) (hn - l) (cap - l))) w := fun p len cap l hn hq hl hh hlh hhc => by
    have hr := run_bounds (P := P) hf h1 h2 hl hh hlh hhc true
    simp [execOp, Instr.sliceAt, Instr.slice, run_underlying hu, hq, hr, run_sizeOf hz]
  simp only [evI] at he
  split at he
  · rename_i e
    rw [e] at h
    simp only [Option.bind_eq_some_iff] at he
    obtain ⟨hn, hh, l, hl, he⟩ := he
    split at he
    · rename_i hc
      obtain ⟨rfl, rfl⟩ := hc
      simp only [Option.some.injEq, Prod.mk.injEq] at he
      obtain ⟨rfl, rfl⟩ := he
      generalize hq : a.eval x = q at h
      cases h
      exact ⟨rfl, _, key _ _ _ _ _ hq hl hh (Nat.le_refl _) (Nat.le_refl _), .nils⟩
    · simp at he
  · rename_i z' es e
    rw [e] at h
    simp only [Option.bind_eq_some_iff] at he
    obtain ⟨hn, hh, l, hl, he⟩ := he
    split at he
    · rename_i hc
      obtain ⟨rfl, hlh, hhl⟩ := hc
      simp only [Option.some.injEq, Prod.mk.injEq] at he
      obtain ⟨rfl, rfl⟩ := he
      generalize hq : a.eval x = q at h
      cases h with
      | islc hcap ha hzz hc ho hp hr =>
        rename_i b o' cap ad cs
        have hlen : ((es.take hn).drop l).length = hn - l := by simp; omega
        refine ⟨rfl, _, key _ _ _ _ _ hq hl hh hlh (by omega), ?_⟩
        rw [← hlen]
        have hrel : ∀ ad', (((es.take hn).drop l) ≠ [] → ad' = ⟨b, o' + l * z', none⟩ ∧ I b) → Rel φ I w (.islc z' ((es.take hn).drop l)) (.slice (some ad') ((es.take hn).drop l).length (cap - l)) := fun ad' hne =>
          .islc (b := b) (o := o' + l * z') (cs := fun i j => cs (l + i) j) (by omega) hne (fun e' he' => hzz e' (List.mem_of_mem_take (List.mem_of_mem_drop he')))
            (fun i j hi hj => by rw [show o' + l * z' + i * z' + j = o' + (l + i) * z' + j by rw [Nat.add_mul]; omega]; exact hc (l + i) j (by omega) hj)
            (fun i j hi hj => ho (l + i) j (by omega) hj)
            (List.all_eq_true.2 fun e' he' => List.all_eq_true.1 hp e' (List.mem_of_mem_take (List.mem_of_mem_drop he')))
            (fun i j e' u h1 h2 => by
              simp only [List.getElem?_drop, List.getElem?_take] at h1
              split at h1
              · exact hr _ _ _ _ h1 h2
              · simp at h1)
        have hI : ((es.take hn).drop l) ≠ [] → es ≠ [] := fun hne e0 => hne (by simp [e0])
        by_cases hcl : cap = l
        · rw [if_pos hcl]
          refine hrel _ (fun hne => absurd (show (es.take hn).drop l = [] from List.length_eq_zero_iff.1 (by omega)) hne)
        · rw [if_neg hcl]
          refine hrel _ (fun hne => ?_)
          obtain ⟨rfl, hI'⟩ := ha (hI hne)
          exact ⟨Addr.add_lit _ _ _, hI'⟩
    · simp at he
  · rename_i p off len e
    rw [e] at h
    simp only [Option.bind_eq_some_iff] at he
    obtain ⟨hn, hh, l, hl, he⟩ := he
    split at he
    · rename_i z' es hH
      split at he
      · rename_i hc
        obtain ⟨rfl, hlh, hhl⟩ := hc
        simp only [Option.some.injEq, Prod.mk.injEq] at he
        obtain ⟨rfl, rfl⟩ := he
        generalize hq : a.eval x = q at h
        cases h with
        | slc hφ hlc hN ha =>
          rename_i b base z cap ad
          obtain ⟨b', base', arr, t', fz, e1, hhp, hfz, hpos, hzz, hsz, _, hr⟩ := hs.row hH
          rw [hφ] at e1
          simp only [Option.some.injEq, Prod.mk.injEq] at e1
          obtain ⟨rfl, rfl, rfl⟩ := e1
          have hcell : cellsOf w b = arr.size := by simp [cellsOf, hhp]
          have hcap : off + hn ≤ off + cap := by
            have h5 : es.length * z ≤ (off + cap) * z := by omega
            have h6 := Nat.le_of_mul_le_mul_right h5 hpos
            omega
          refine ⟨rfl, _, key _ _ _ _ _ hq hl hh hlh (by omega), ?_⟩
          have hN' : base + (off + l + (cap - l)) * z = cellsOf w b := by rw [← hN]; congr 2; omega
          by_cases hcl : cap = l
          · rw [if_pos hcl]
            exact .slc hφ (by omega) hN' (fun hne => absurd (by omega) hne)
          · rw [if_neg hcl]
            refine .slc hφ (by omega) hN' (fun hne => ?_)
            rw [ha (by omega)]
            show Addr.add _ _ = _
            rw [Addr.add_lit, Nat.add_mul, Nat.add_assoc]
      · simp at he
    · simp at he
  · simp at he
theorem quiet_ia {o : Oper} {t ty' : TypeId} {z : Nat} {x y : Operand} {x' y' : Opd} {v : V} (ho : o.op = .indexAddr t x y) (hu : P.underlying t = some (.slice ty')) (hz : sizeD P ty' = some z)
    (hs : Sim φ I σ w) (hf : EnvR φ I w nt env a) (hx : cOpd nt x = some x') (hy : cOpd nt y = some y') {σ' : St} (he : evI env σ (.ia z x' y') = some (v, σ')) : σ' = σ ∧ Quiet P φ I w a o v := by
  have h1 := cOpd_rel hf hx
  have h2 := cOpd_rel hf hy
  obtain ⟨dst, op', ty, pos, after, guard⟩ := o
  simp only at ho; subst ho
  simp only [evI] at he
  split at he <;> (try (simp only [reduceCtorEq] at he; done))
  rename_i kk k e2
  rw [e2] at h2
  have h2 := h2.int_inv
  split at he <;> (try (simp only [reduceCtorEq] at he; done))
  rename_i h0
  have key : ∀ (ad : Addr) (len cap : Nat), a.eval x = .slice (some ad) len cap → k.toNat < len → (execOp a.eval ⟨dst, .indexAddr t x y, ty, pos, after, guard⟩).run P w = .ok (.value (.pointer (some (ad.add (k.toNat * z))))) w := fun ad len cap hq hlt => by
    have hk : 0 ≤ k ∧ k < (len : Int) := by omega
    simp [execOp, Instr.indexAt, h2, asIntOf, run_underlying hu, hq, hk, run_sizeOf hz]
  split at he
  · rename_i z' es e1
    rw [e1] at h1
    split at he
    · rename_i hz'; subst hz'
      simp only [Option.map_eq_some_iff, Prod.mk.injEq] at he
      obtain ⟨e, hi, rfl, rfl⟩ := he
      generalize hq : a.eval x = q at h1
      cases h1 with
      | islc hcap ha hzz hc ho hp hr =>
        rename_i b o' cap ad cs
        have hlt := (List.getElem?_eq_some_iff.1 hi).1
        obtain ⟨rfl, hI⟩ := ha (fun e0 => by simp [e0] at hlt)
        refine ⟨rfl, _, key _ _ _ hq hlt, ?_⟩
        rw [Addr.add_lit]
        have hel := hzz e (List.mem_of_getElem? hi)
        exact .iptr (o := o' + k.toNat * z') (cs := cs k.toNat) 0 hI (fun j hj => hc _ _ hlt (by omega)) (fun j hj => ho _ _ hlt (by omega)) (List.all_eq_true.1 hp e (List.mem_of_getElem? hi)) (fun j u hu => hr _ _ _ _ hi hu)
    · simp at he
  · rename_i l off len e1
    rw [e1] at h1
    split at he
    · rename_i z' es hH
      split at he
      · rename_i hc
        obtain ⟨rfl, hlt⟩ := hc
        simp only [Option.some.injEq, Prod.mk.injEq] at he
        obtain ⟨rfl, rfl⟩ := he
        generalize hq : a.eval x = q at h1
        cases h1 with
        | slc hφ hlc hN ha =>
          rename_i b base z cap ad
          obtain ⟨b', base', arr, t', fz, e1, hhp, hfz, hpos, hzz, hsz, _, hr⟩ := hs.row hH
          rw [hφ] at e1
          simp only [Option.some.injEq, Prod.mk.injEq] at e1
          obtain ⟨rfl, rfl, rfl⟩ := e1
          refine ⟨rfl, _, key _ _ _ hq hlt, ?_⟩
          rw [ha (by omega), Addr.add_lit, show base + off * z + k.toNat * z = base + (off + k.toNat) * z + 0 by rw [Nat.add_mul]; omega]
          exact .ptr _ _ hφ
      · simp at he
    · simp at he
  · simp at he
theorem quiet_aa {o : Oper} {t ty' : TypeId} {n z : Nat} {x y : Operand} {x' y' : Opd} {v : V} (ho : o.op = .indexAddr t x y) (hu : P.underlying t = some (.array n ty')) (hz : sizeD P ty' = some z)
    (hf : EnvR φ I w nt env a) (hx : cOpd nt x = some x') (hy : cOpd nt y = some y') {σ' : St} (he : evI env σ (.aa n z x' y') = some (v, σ')) : σ' = σ ∧ Quiet P φ I w a o v := by
  have h1 := cOpd_rel hf hx
  have h2 := cOpd_rel hf hy
  obtain ⟨dst, op', ty, pos, after, guard⟩ := o
  simp only at ho; subst ho
  simp only [evI] at he
  split at he <;> (try (simp only [reduceCtorEq] at he; done))
  rename_i kk k e2
  rw [e2] at h2
  have h2 := h2.int_inv
  split at he <;> (try (simp only [reduceCtorEq] at he; done))
  rename_i h0
  have key : ∀ (ad : Addr), a.eval x = .pointer (some ad) → (execOp a.eval ⟨dst, .indexAddr t x y, ty, pos, after, guard⟩).run P w = .ok (.value (.pointer (some (ad.add (k.toNat * z))))) w := fun ad hq => by
    simp [execOp, Instr.indexAt, h2, asIntOf, run_underlying hu, hq, h0, run_sizeOf hz, Instr.sureAddr]
  split at he <;> simp only [Option.some.injEq, Prod.mk.injEq, reduceCtorEq] at he <;> obtain ⟨rfl, rfl⟩ := he <;> rename_i e1 <;> rw [e1] at h1 <;> generalize hq : a.eval x = q at h1
  · cases h1 with
    | ptr i j hφ => exact ⟨rfl, _, key _ hq, by rw [Addr.add_lit, Nat.add_assoc]; exact .ptr _ _ hφ⟩
  · cases h1 with
    | iptr j hI hc ho hp hr => exact ⟨rfl, _, key _ hq, by rw [Addr.add_lit, Nat.add_assoc]; exact .iptr _ hI hc ho hp hr⟩
theorem quiet_tas {o : Oper} {t s : TypeId} {d : TypeDesc} {ok : Bool} {z : V} {x : Operand} {x' : Opd} {v : V} (ho : o.op = .typeAssert x s t ok) (hu : P.underlying t = some d) (hd : ∀ ms, d ≠ .interface ms) (hz : zeroV P t = some z)
    (hf : EnvR φ I w nt env a) (hx : cOpd nt x = some x') {σ' : St} (he : evI env σ (.tas t z ok x') = some (v, σ')) : σ' = σ ∧ Quiet P φ I w a o v := by
  have h := cOpd_rel hf hx
  obtain ⟨dst, op', ty, pos, after, guard⟩ := o
  simp only at ho; subst ho
  have hzr : ∃ c, (zeroValue t).run P w = .ok c w ∧ Rel φ I w z c := by
    simp only [zeroV, Option.bind_eq_some_iff] at hz
    obtain ⟨i, hi, c, hc, hv⟩ := hz
    exact ⟨c, by simp [zeroValue, typeInfo, hi, hc], toV_rel _ _ _ hv⟩
  obtain ⟨zc, hzc, hzr⟩ := hzr
  have tup2 : ∀ (v : V) (c : Value) (b : Bool), Rel φ I w v c → Rel φ I w (.tup [v, .bool b]) (.tuple #[c, .bool b]) := fun v c b hr =>
    .tup rfl (fun i u hu => by
      match i with
      | 0 => simp at hu; subst hu; exact hr
      | 1 => simp at hu; subst hu; exact .bool _
      | i + 2 => simp at hu)
  have hu' : ∀ {α : Type} (f : TypeDesc → Sem α), (underlying t >>= f).run P w = (f d).run P w := fun f => by rw [Sem.run_bind, run_underlying hu]; rfl
  simp only [evI] at he
  split at he
  · rename_i t' v' e
    rw [e] at h
    generalize hq : a.eval x = q at h
    cases h with
    | iface _ hr =>
      rename_i c
      split at he
      · rename_i htt; subst htt
        simp only [Option.some.injEq, Prod.mk.injEq] at he
        obtain ⟨rfl, rfl⟩ := he
        cases ok
        · refine ⟨rfl, c, ?_, by simpa using hr⟩
          simp only [execOp, Instr.typeAssert, hq, Sem.run_bind, run_underlying hu, Result.andThen_ok]
          cases d <;> first | exact absurd rfl (hd _) | simp
        · refine ⟨rfl, .tuple #[c, .bool true], ?_, by simpa using tup2 _ _ _ hr⟩
          simp only [execOp, Instr.typeAssert, hq, Sem.run_bind, run_underlying hu, Result.andThen_ok]
          cases d <;> first | exact absurd rfl (hd _) | simp
      · rename_i htt
        split at he
        · rename_i hok
          simp only [Option.some.injEq, Prod.mk.injEq] at he
          obtain ⟨rfl, rfl⟩ := he
          refine ⟨rfl, .tuple #[zc, .bool false], ?_, tup2 _ _ _ hzr⟩
          simp only [execOp, Instr.typeAssert, hq, Sem.run_bind, run_underlying hu, Result.andThen_ok]
          cases d <;> first | exact absurd rfl (hd _) | simp [htt, hok, hzc]
        · simp at he
  · rename_i e
    rw [e] at h
    generalize hq : a.eval x = q at h
    cases h
    split at he
    · rename_i hok
      simp only [Option.some.injEq, Prod.mk.injEq] at he
      obtain ⟨rfl, rfl⟩ := he
      refine ⟨rfl, .tuple #[zc, .bool false], ?_, tup2 _ _ _ hzr⟩
      simp only [execOp, Instr.typeAssert, hq, Sem.run_bind, run_underlying hu, Result.andThen_ok]
      cases d <;> first | exact absurd rfl (hd _) | simp [hok, hzc]
    · simp at he
  · simp at he
end
end Go.Proofs.YtmkgmjdbgjiehaaDoor.Ab
namespace Go.Proofs.YtmkgmjdbgjiehaaDoor.Ab
open Go.RowKit
set_option linter.unusedVariables false
set_option linter.unusedSimpArgs false
section
variable {P : Program} {φ : Phi} {I : Nat → Prop} {σ : St} {w : World} {nt : Nat} {env : Env} {a : Act}
theorem mm_run (isMax : Bool) {x y : V} {X Y : Value} (hx : Rel φ I w x X) (hy : Rel φ I w y Y) {r : V} (h : mmV isMax x y = some r) :
    ∃ R, ((if isMax then Builtin.max2 X Y else Builtin.min2 X Y)).run P w = .ok R w ∧ Rel φ I w r R := by
  unfold mmV at h
  split at h
  · rename_i k a k' b
    have hx := hx.int_inv
    have hy := hy.int_inv
    subst hx; subst hy
    split at h
    · rename_i hk; subst hk
      simp only [Option.some.injEq] at h
      subst h
      cases isMax
      · exact ⟨.int k (if b < a then b else a), by simp [Builtin.min2], by simpa using Rel.int _ _⟩
      · exact ⟨.int k (if b > a then b else a), by simp [Builtin.max2], by simpa using Rel.int _ _⟩
    · simp at h
  · simp at h
theorem mm_list (isMax : Bool) : ∀ (ys : List V) (Ys : List Value) (x : V) (X : Value), Rel φ I w x X → ys.length = Ys.length → (∀ i v, ys[i]? = some v → Rel φ I w v (Ys.getD i undef)) → ∀ r, mmL isMax x ys = some r →
    ∃ R, (Ys.foldlM (if isMax then Builtin.max2 else Builtin.min2) X).run P w = .ok R w ∧ Rel φ I w r R
  | [], [], x, X, hx, _, _, r, h => by simp only [mmL, Option.some.injEq] at h; subst h; exact ⟨X, by simp, hx⟩
  | y :: ys, Y :: Ys, x, X, hx, hl, hr, r, h => by
    simp only [mmL, Option.bind_eq_some_iff] at h
    obtain ⟨m, hm, h⟩ := h
    obtain ⟨M, hM, hrM⟩ := mm_run (P := P) isMax hx (by simpa using hr 0 y rfl) hm
    obtain ⟨R, hR, hrR⟩ := mm_list isMax ys Ys m M hrM (by simpa using hl) (fun i v hv => by simpa using hr (i + 1) v (by simpa using hv)) r h
    refine ⟨R, ?_, hrR⟩
    rw [List.foldlM_cons, Sem.run_bind]
    cases isMax <;> simp_all
theorem quiet_mm {o : Oper} {c : Call} {isMax : Bool} {xs' : List Opd} {v : V} (ho : o.op = .call c) (hc : c.callee = .builtin (if isMax then .max else .min)) (ha : cOpds nt c.args.toList = some xs')
    (hf : EnvR φ I w nt env a) {σ' : St} (he : evI env σ (.mm isMax xs') = some (v, σ')) : σ' = σ ∧ Quiet P φ I w a o v := by
  obtain ⟨dst, op', ty, pos, after, guard⟩ := o
  simp only at ho; subst ho
  obtain ⟨cal, args, ts⟩ := c
  simp only at hc ha; subst hc
  obtain ⟨h1, h2⟩ := rels_map hf ha
  simp only [evI] at he
  split at he
  · rename_i v0 vs hxs
    simp only [Option.map_eq_some_iff, Prod.mk.injEq] at he
    obtain ⟨r, hr, rfl, rfl⟩ := he
    rw [hxs] at h1 h2
    obtain ⟨X, Xs, hX⟩ : ∃ X Xs, (args.map a.eval).toList = X :: Xs := by
      cases h : (args.map a.eval).toList with
      | nil =>
        have h3 : (args.map a.eval).size = 0 := by rw [← Array.length_toList, h]; rfl
        rw [h1] at h3
        simp at h3
      | cons X Xs => exact ⟨X, Xs, rfl⟩
    have hg : ∀ i, (args.map a.eval).getD i undef = (X :: Xs).getD i undef := fun i => by rw [← hX]; simp
    have hlen : vs.length = Xs.length := by
      have h3 : (X :: Xs).length = (args.map a.eval).size := by rw [← hX, Array.length_toList]
      rw [h1] at h3
      simpa using h3.symm
    obtain ⟨R, hR, hrR⟩ := mm_list (P := P) (φ := φ) (I := I) (w := w) isMax vs Xs v0 X (by have := h2 0 v0 rfl; rw [hg] at this; simpa using this)
      hlen (fun i u hu => by have := h2 (i + 1) u (by simpa using hu); rw [hg] at this; simpa using this) r hr
    refine ⟨rfl, R, ?_, hrR⟩
    cases isMax
    · simp only [Bool.false_eq_true, if_false] at hR ⊢
      simp only [execOp, resolve, Sem.run_bind, Sem.run_pure, Result.andThen_ok, invoke, builtin, Builtin.min_, hX, hR]
    · simp only [if_true] at hR ⊢
      simp only [execOp, resolve, Sem.run_bind, Sem.run_pure, Result.andThen_ok, invoke, builtin, Builtin.max_, hX, hR]
  · simp at he
abbrev RelA (φ : Phi) (I : Nat → Prop) (w : World) (vs : List V) (cs : Array Value) : Prop := cs.size = vs.length ∧ ∀ i v, vs[i]? = some v → Rel φ I w v (cs.getD i undef)
theorem eqCells_split : ∀ (k1 k2 : List CK) (x y : List V) (r : Bool), eqCells (k1 ++ k2) x y = some r →
    ∃ r1 r2, eqCells k1 (x.take k1.length) (y.take k1.length) = some r1 ∧ eqCells k2 (x.drop k1.length) (y.drop k1.length) = some r2 ∧ r = (r1 && r2)
  | [], k2, x, y, r, h => ⟨true, r, by simp [eqCells], by simpa using h, by simp⟩
  | k :: k1, k2, x, y, r, h => by
    rw [List.cons_append] at h
    unfold eqCells at h
    split at h
    · rename_i e; simp at e
    · rename_i ks k a xs k' b ys e
      simp only [List.cons.injEq] at e; obtain ⟨rfl, rfl⟩ := e
      split at h
      · rename_i hk
        simp only [Option.map_eq_some_iff] at h
        obtain ⟨r', h', rfl⟩ := h
        obtain ⟨r1, r2, e1, e2, rfl⟩ := eqCells_split k1 k2 xs ys r' h'
        exact ⟨decide (a = b) && r1, r2, by simp [eqCells, hk, e1], by simpa using e2, by simp [Bool.and_assoc]⟩
      · simp at h
    · rename_i ks a xs b ys e
      simp only [List.cons.injEq] at e; obtain ⟨rfl, rfl⟩ := e
      simp only [Option.map_eq_some_iff] at h
      obtain ⟨r', h', rfl⟩ := h
      obtain ⟨r1, r2, e1, e2, rfl⟩ := eqCells_split k1 k2 xs ys r' h'
      exact ⟨decide (a = b) && r1, r2, by simp [eqCells, e1], by simpa using e2, by simp [Bool.and_assoc]⟩
    · rename_i ks a xs b ys e
      simp only [List.cons.injEq] at e; obtain ⟨rfl, rfl⟩ := e
      simp only [Option.map_eq_some_iff] at h
      obtain ⟨r', h', rfl⟩ := h
      obtain ⟨r1, r2, e1, e2, rfl⟩ := eqCells_split k1 k2 xs ys r' h'
      exact ⟨decide (a = b) && r1, r2, by simp [eqCells, e1], by simpa using e2, by simp [Bool.and_assoc]⟩
    · simp at h
theorem eqCells_len : ∀ (ks : List CK) (x y : List V) (r : Bool), eqCells ks x y = some r → x.length = ks.length ∧ y.length = ks.length
  | [], x, y, r, h => by
    unfold eqCells at h
    split at h <;> simp_all
  | k :: ks, x, y, r, h => by
    unfold eqCells at h
    split at h
    · rename_i e; simp at e
    · rename_i ks' k a xs k' b ys e
      simp only [List.cons.injEq] at e; obtain ⟨rfl, rfl⟩ := e
      split at h
      · simp only [Option.map_eq_some_iff] at h
        obtain ⟨r', h', rfl⟩ := h
        have := eqCells_len ks xs ys r' h'
        simp [this]
      · simp at h
    · rename_i ks' a xs b ys e
      simp only [List.cons.injEq] at e; obtain ⟨rfl, rfl⟩ := e
      simp only [Option.map_eq_some_iff] at h
      obtain ⟨r', h', rfl⟩ := h
      have := eqCells_len ks xs ys r' h'
      simp [this]
    · rename_i ks' a xs b ys e
      simp only [List.cons.injEq] at e; obtain ⟨rfl, rfl⟩ := e
      simp only [Option.map_eq_some_iff] at h
      obtain ⟨r', h', rfl⟩ := h
      have := eqCells_len ks xs ys r' h'
      simp [this]
    · simp at h
def IsVal (P : Program) (φ : Phi) (I : Nat → Prop) (w : World) (d : TypeDesc) (cx : List V) (X : Value) : Prop :=
  if isAggD d then ∃ xs, X = .agg xs ∧ RelA φ I w cx xs else ∃ v, cx = [v] ∧ Rel φ I w v X
theorem run_part_is {t : TypeId} {d : TypeDesc} {n : Nat} (hd : P.underlying t = some d) (hn : sizeD P t = some n) (hone : isAggD d = false → n = 1) {cx : List V} {xs : Array Value} (h : RelA φ I w cx xs) {o : Nat} (ho : o + n ≤ cx.length) :
    ∃ X, (part t xs o).run P w = .ok X w ∧ IsVal P φ I w d ((cx.drop o).take n) X := by
  cases hag : isAggD d with
  | true =>
    refine ⟨_, run_part_agg hd hag hn xs o, ?_⟩
    have := Rel.sub h.1 h.2 ho
    unfold IsVal
    rw [if_pos hag]
    cases this with
    | agg h1 h2 => exact ⟨_, rfl, h1, h2⟩
  | false =>
    obtain rfl := hone hag
    have hl : o < xs.size := by have := h.1; omega
    refine ⟨_, run_part_one hd hag xs o hl, ?_⟩
    unfold IsVal
    rw [if_neg (by simp [hag])]
    refine ⟨cx[o], ?_, h.2 o _ (List.getElem?_eq_getElem _)⟩
    rw [List.drop_eq_getElem_cons (by omega)]
    rfl
abbrev kfold (P : Program) (d : Nat) (o : Option (List CK)) (fs : List Field) : Option (List CK) :=
  fs.foldl (fun (o : Option (List CK)) f => o.bind fun acc => if f.name ≠ "_" ∧ f.offset = acc.length then (kinds P d f.type).map (acc ++ ·) else none) o
theorem kfold_none {d : Nat} : ∀ fs : List Field, kfold P d none fs = none
  | [] => rfl
  | f :: fs => by unfold kfold; rw [List.foldl_cons, Option.bind_none]; exact kfold_none fs
theorem kfold_cons {d : Nat} {f : Field} {fs : List Field} {acc ks : List CK} (h : kfold P d (some acc) (f :: fs) = some ks) :
    f.name ≠ "_" ∧ f.offset = acc.length ∧ ∃ k1, kinds P d f.type = some k1 ∧ kfold P d (some (acc ++ k1)) fs = some ks := by
  unfold kfold at h
  rw [List.foldl_cons, Option.bind_some] at h
  split at h
  · rename_i hc
    cases hk : kinds P d f.type with
    | none => rw [hk, Option.map_none] at h; have := kfold_none (P := P) (d := d) fs; unfold kfold at this; rw [this] at h; simp at h
    | some k1 => rw [hk, Option.map_some] at h; exact ⟨hc.1, hc.2, k1, by first | rfl | exact hk, h⟩
  · have := kfold_none (P := P) (d := d) fs; unfold kfold at this; rw [this] at h; simp at h
theorem kfold_prefix {d : Nat} : ∀ (fs : List Field) (acc ks : List CK), kfold P d (some acc) fs = some ks → ∃ r, ks = acc ++ r
  | [], acc, ks, h => ⟨[], by simp [kfold] at h; simp [h]⟩
  | f :: fs, acc, ks, h => by
    obtain ⟨_, _, k1, _, h⟩ := kfold_cons h
    obtain ⟨r, rfl⟩ := kfold_prefix fs _ _ h
    exact ⟨k1 ++ r, by simp⟩
theorem kinds_size {d : Nat} {t : TypeId} {ks : List CK} (h : kinds P d t = some ks) : ∃ u, P.underlying t = some u ∧ sizeD P t = some ks.length ∧ (isAggD u = false → ks.length = 1) := by
  cases d with
  | zero => simp [kinds] at h
  | succ d =>
    unfold kinds at h
    split at h
    · rename_i k hu; split at h <;> simp at h; subst h; exact ⟨_, hu, by assumption, fun _ => rfl⟩
    · rename_i hu; split at h <;> simp at h; subst h; exact ⟨_, hu, by assumption, fun _ => rfl⟩
    · rename_i hu; split at h <;> simp at h; subst h; exact ⟨_, hu, by assumption, fun _ => rfl⟩
    · rename_i fs hu
      split at h
      · simp at h
      · simp only [Option.bind_eq_some_iff] at h
        obtain ⟨k, hk, h⟩ := h
        split at h <;> simp at h
        subst h
        exact ⟨_, hu, by assumption, fun e => by simp [isAggD] at e⟩
    · simp at h
theorem eq_in : ∀ (d D : Nat) (t : TypeId) (u : TypeDesc) (ks : List CK) (cx cy : List V) (X Y : Value), d ≤ D → kinds P d t = some ks → P.underlying t = some u →
    IsVal P φ I w u cx X → IsVal P φ I w u cy Y → ∀ r, eqCells ks cx cy = some r → (Op.equalIn D t X Y).run P w = .ok r w := by
  intro d
  induction d with
  | zero => intro D t u n cx cy X Y _ h; simp [kinds] at h
  | succ d ih =>
    intro D t u ks cx cy X Y hD hk hu hX hY r hr
    obtain ⟨D, rfl⟩ : ∃ k, D = k + 1 := ⟨D - 1, by omega⟩
    unfold kinds at hk
    rw [hu] at hk
    unfold IsVal at hX hY
    cases u <;> simp only [reduceCtorEq] at hk
    case struct fs =>
      simp only [isAggD, if_true] at hX hY
      obtain ⟨xs, rfl, hX⟩ := hX
      obtain ⟨ys, rfl, hY⟩ := hY
      split at hk
      · simp at hk
      rename_i hheld
      simp only [Option.bind_eq_some_iff] at hk
      obtain ⟨ks', hk, hk'⟩ := hk
      split at hk' <;> simp at hk'
      subst hk'
      have hfs : P.fieldsOf t = fs := by simp [Program.fieldsOf, hu]
      rw [run_equalIn_struct w D t xs ys (by rw [hfs]; exact hu) (by simpa using hheld), hfs]
      have key : ∀ (l : List Field) (acc rest : List CK) (r : Bool), acc.length ≤ cx.length → acc.length ≤ cy.length → kfold P d (some acc) l = some (acc ++ rest) → eqCells rest (cx.drop acc.length) (cy.drop acc.length) = some r → (Op.eqFields D xs ys l).run P w = .ok r w := by
        intro l
        induction l with
        | nil =>
          intro acc rest r _ _ hf hr
          simp [kfold] at hf
          subst hf
          unfold eqCells at hr
          split at hr <;> simp_all
          subst hr
          rfl
        | cons f l ihl =>
          intro acc rest r hx0 hy0 hf hr
          obtain ⟨hnm, hoff, k1, hk1, hf'⟩ := kfold_cons hf
          obtain ⟨r2, hr2⟩ := kfold_prefix _ _ _ hf'
          rw [List.append_assoc] at hr2
          have hr2 := List.append_cancel_left hr2
          subst hr2
          obtain ⟨r1, r2', e1, e2, rfl⟩ := eqCells_split k1 r2 _ _ _ hr
          rw [List.drop_drop, List.drop_drop] at e2
          obtain ⟨uf, huf, hsz, hone⟩ := kinds_size hk1
          have hlen := eqCells_len _ _ _ _ hr
          simp only [List.length_drop, List.length_append] at hlen
          have hle := hlen.1
          have hle2 := hlen.2
          have hl1 := eqCells_len _ _ _ _ e1
          simp only [List.length_take, List.length_drop] at hl1
          have hrest := ihl (acc ++ k1) r2 r2' (by simp only [List.length_append]; omega) (by simp only [List.length_append]; omega) (by rw [hf', List.append_assoc]) (by rw [List.length_append]; exact e2)
          obtain ⟨A, hA, hAv⟩ := run_part_is huf hsz hone hX (o := f.offset) (by omega)
          obtain ⟨B, hB, hBv⟩ := run_part_is huf hsz hone hY (o := f.offset) (by omega)
          rw [hoff] at hAv hBv
          have hq := ih D f.type uf k1 _ _ A B (by omega) hk1 huf hAv hBv r1 e1
          simp only [Op.eqFields, ne_eq, hnm, not_false_eq_true, if_true, Sem.run_bind, hA, hB, Result.andThen_ok, hq]
          cases r1
          · simp
          · simpa using hrest
      exact key fs.toList [] ks' r (by simp) (by simp) (by simpa using hk) (by simpa using hr)
    all_goals
      split at hk <;> simp at hk
      subst hk
      simp only [isAggD, Bool.false_eq_true, if_false] at hX hY
      obtain ⟨v1, rfl, h1⟩ := hX
      obtain ⟨v2, rfl, h2⟩ := hY
      unfold eqCells at hr
      split at hr <;> (try (simp_all; done))
      rename_i e0 e1 e2
      simp only [List.cons.injEq] at e0 e1 e2
      obtain ⟨_, rfl⟩ := e0
      obtain ⟨rfl, rfl⟩ := e1
      obtain ⟨rfl, rfl⟩ := e2
      simp only [eqCells] at hr
    case h_2 =>
      split at hr <;> simp at hr
      subst hr
      rename_i hkk; subst hkk
      rw [h1.int_inv, h2.int_inv, run_equalIn_int w D t _ _ _ _ hu, beqd]
    case h_3 =>
      simp at hr; subst hr
      obtain ⟨s1, rfl, rfl⟩ := h1.str_inv
      obtain ⟨s2, rfl, rfl⟩ := h2.str_inv
      rw [run_equalIn_string w D t _ _ hu, bytes_toList, bytes_toList, beqd]
    case h_4 =>
      simp at hr; subst hr
      rw [h1.bool_inv, h2.bool_inv, run_equalIn_bool' w D t _ _ hu, beqd]
theorem quiet_eqa {o : Oper} {op : BinOp} {neg : Bool} {t u : TypeId} {fs : Array Field} {ks : List CK} {x y : Operand} {x' y' : Opd} {v : V} (ho : o.op = .binOp op t x y u) (hop : op = if neg then .neq else .eql)
    (ht : P.underlying t = some (.struct fs)) (hk : kinds P 20 t = some ks) (hgt : P.eqGuardType P.depth t = false)
    (hf : EnvR φ I w nt env a) (hx : cOpd nt x = some x') (hy : cOpd nt y = some y') {σ' : St} (he : evI env σ (.eqa neg ks x' y') = some (v, σ')) : σ' = σ ∧ Quiet P φ I w a o v := by
  have h1 := cOpd_rel hf hx
  have h2 := cOpd_rel hf hy
  obtain ⟨dst, op', ty, pos, after, guard⟩ := o
  simp only at ho; subst ho
  simp only [evI] at he
  split at he
  · rename_i c1 c2 e1 e2
    rw [e1] at h1; rw [e2] at h2
    simp only [Option.map_eq_some_iff, Prod.mk.injEq] at he
    obtain ⟨r, hr, rfl, rfl⟩ := he
    generalize hq1 : a.eval x = q1 at h1
    generalize hq2 : a.eval y = q2 at h2
    cases h1 with
    | agg l1 r1 =>
      cases h2 with
      | agg l2 r2 =>
        rename_i xs ys
        have key : (Op.equal t (.agg xs) (.agg ys)).run P w = .ok r w :=
          eq_in 20 10000 t _ ks c1 c2 _ _ (by omega) hk ht (by simp only [IsVal, isAggD, if_true]; exact ⟨_, rfl, l1, r1⟩) (by simp only [IsVal, isAggD, if_true]; exact ⟨_, rfl, l2, r2⟩) r hr
        refine ⟨rfl, .bool (if neg then !r else r), ?_, .bool _⟩
        subst hop
        cases neg
        · simp [execOp, hq1, hq2, eqGuard, hgt, binOp, key]
        · simp [execOp, hq1, hq2, eqGuard, hgt, binOp, key]
  · simp at he
theorem cont_cells (hs : Sim φ I σ w) {z : Nat} {v : V} {c : Value} (h : Rel φ I w v c) {es : List (List V)} (he : cont σ z v = some es) :
    (c = .slice none 0 0 ∧ es = []) ∨ ∃ ad cap, c = .slice (some ad) es.length cap ∧ es.length ≤ cap ∧ (∀ e ∈ es, e.length = z) ∧
      ∀ i j e u, es[i]? = some e → e[j]? = some u → ∃ x, w.cell? (ad.add (i * z + j)) = some x ∧ x.oneCell' = true ∧ Rel φ I w u x := by
  unfold cont at he
  split at he
  · simp only [Option.some.injEq] at he; subst he; cases h; exact .inl ⟨rfl, rfl⟩
  · rename_i z1 es1
    split at he <;> simp at he
    rename_i hz; subst hz; subst he
    cases h with
    | islc hl ha hzz hc ho hp hr =>
      refine .inr ⟨_, _, rfl, hl, hzz, fun i j e u hi hj => ?_⟩
      have hlt := (List.getElem?_eq_some_iff.1 hi).1
      obtain ⟨rfl, _⟩ := ha (fun e0 => by simp [e0] at hlt)
      have hjl := (List.getElem?_eq_some_iff.1 hj).1
      rw [Addr.add_lit, ← Nat.add_assoc]
      have hjz : j < z1 := by rw [← hzz e (List.mem_of_getElem? hi)]; exact hjl
      exact ⟨_, hc i j hlt hjz, ho i j hlt hjz, hr _ _ _ _ hi hj⟩
  · rename_i l off len
    split at he
    · rename_i z' es' hH
      split at he <;> simp at he
      rename_i hc
      obtain ⟨rfl, hle⟩ := hc
      subst he
      cases h with
      | slc hφ hlc hN ha =>
        rename_i b base z cap ad
        obtain ⟨b', base', arr, t', fz, e1, hhp, hfz, hpos, hzz, hsz, ho, hr⟩ := hs.row hH
        rw [hφ] at e1
        simp only [Option.some.injEq, Prod.mk.injEq] at e1
        obtain ⟨rfl, rfl, rfl⟩ := e1
        have hlen : ((es'.drop off).take len).length = len := by simp; omega
        refine .inr ⟨ad, cap, by rw [hlen], by omega, fun e he => hzz e (List.mem_of_mem_drop (List.mem_of_mem_take he)), fun i j e u hi hj => ?_⟩
        have hi' : i < len := by have := (List.getElem?_eq_some_iff.1 hi).1; omega
        simp only [List.getElem?_take, hi', if_true, List.getElem?_drop] at hi
        obtain ⟨_, x, hx, hrx, _⟩ := hs.cell hH hi hj hφ
        rw [ha (by omega), Addr.add_lit]
        have hjl := (List.getElem?_eq_some_iff.1 hj).1
        have hel := hzz e (List.mem_of_getElem? hi)
        have hone := ho (off + i) j (by omega) (by omega)
        have hlt : base + (off + i) * z + j < arr.size := by have := mul_lt_of (z := z) (show off + i < es'.length by omega) (show j < z by omega); omega
        have hxa : arr.getD (base + (off + i) * z + j) undef = x := by
          simp [World.cell?, hhp, hlt] at hx
          simp [hlt, hx]
        rw [hxa] at hone
        refine ⟨x, ?_, hone, hrx⟩
        rw [← hx]
        congr 2
        rw [Nat.add_mul]; omega
    · simp at he
  · simp at he
theorem byteOf_rel : ∀ (es : List (List V)) (s : List UInt8), es.mapM byteOf = some s → es.length = s.length ∧ ∀ (i : Nat) (b : UInt8), s[i]? = some b → ∃ n : Int, es[i]? = some [V.int .u8 n] ∧ UInt8.ofNat n.toNat = b := fun es s h => by
  obtain ⟨h1, h2⟩ := mapM_some h
  refine ⟨h1.symm, fun i b hb => ?_⟩
  obtain ⟨e, he, hbe⟩ := h2 i b hb
  unfold byteOf at hbe
  split at hbe
  · split at hbe <;> simp at hbe
    exact ⟨_, he, hbe⟩
  · simp at hbe
theorem foldl_push : ∀ (ns : List Int) (r : ByteArray), (ns.foldl (fun r n => r.push (UInt8.ofNat n.toNat)) r).data.toList = r.data.toList ++ ns.map fun n => UInt8.ofNat n.toNat
  | [], r => by simp
  | n :: ns, r => by
    rw [List.foldl_cons, foldl_push ns]
    simp [ByteArray.push]
theorem quiet_b2s {o : Oper} {s t e : TypeId} {x : Operand} {x' : Opd} {v : V} (ho : o.op = .convert s t x) (hs : P.underlying s = some (.slice e)) (he8 : P.underlying e = some (.int .u8)) (ht : P.underlying t = some .string)
    (hS : Sim φ I σ w) (hf : EnvR φ I w nt env a) (hx : cOpd nt x = some x') {σ' : St} (he : evI env σ (.b2s x') = some (v, σ')) : σ' = σ ∧ Quiet P φ I w a o v := by
  have h := cOpd_rel hf hx
  obtain ⟨dst, op', ty, pos, after, guard⟩ := o
  simp only at ho; subst ho
  simp only [evI, Option.bind_eq_some_iff, Option.map_eq_some_iff, Prod.mk.injEq] at he
  obtain ⟨es, hc, l, hl, rfl, rfl⟩ := he
  refine ⟨rfl, ?_⟩
  obtain ⟨hlen, hby⟩ := byteOf_rel es l hl
  have hconv : ∀ c, a.eval x = c → (∃ ad n k, c = .slice ad n k) → (execOp a.eval ⟨dst, .convert s t x, ty, pos, after, guard⟩).run P w = ((Conv.bytesToString c).run P w).andThen fun v w => .ok (.value v) w := fun c hq hc => by
    obtain ⟨ad, n, k, rfl⟩ := hc
    simp only [execOp, hq, convert, Sem.run_bind, run_underlying hs, run_underlying ht, Result.andThen_ok, run_underlying he8]
    rfl
  rcases cont_cells hS h hc with ⟨hq, rfl⟩ | ⟨ad, cap, hq, hcap, hz, hcell⟩
  · refine ⟨.string .empty, ?_, .str ?_⟩
    · rw [hconv _ hq ⟨_, _, _, rfl⟩]; rfl
    · simp at hl; subst hl; rfl
  · let ns : List Int := (List.range es.length).map fun i => match es[i]? with | some [V.int .u8 n] => n | _ => 0
    have hns : ∀ (i : Nat), i < es.length → w.cell? (ad.add i) = some (.int .u8 (ns.getD i 0)) := fun i hi => by
      obtain ⟨b, hb⟩ : ∃ b, l[i]? = some b := ⟨l[i]'(by omega), List.getElem?_eq_getElem _⟩
      obtain ⟨n, hn, _⟩ := hby i b hb
      obtain ⟨y, hy, _, hr⟩ := hcell i 0 _ _ hn rfl
      have hy' := hr.int_inv
      subst hy'
      rw [Nat.mul_one, Nat.add_zero] at hy
      rw [hy]
      have hn' : es[i] = [V.int .u8 n] := (List.getElem?_eq_some_iff.1 hn).2
      simp [ns, hi, hn']
    have hload : (loadCells ad es.length).run P w = .ok (ns.map (Value.int .u8)).toArray w := by
      rw [loadCells_of (f := fun k => .int .u8 (ns.getD k 0)) hns]
      congr 2
      apply List.ext_getElem?
      intro i
      by_cases hi : i < es.length
      · simp [ns, hi]
      · simp [ns, hi]
    refine ⟨.string (ns.foldl (fun r n => r.push (UInt8.ofNat n.toNat)) ByteArray.empty), ?_, .str ?_⟩
    · rw [hconv _ hq ⟨_, _, _, rfl⟩, run_bytesToString w ad _ _ ns hload]; rfl
    · rw [foldl_push]
      simp only [ns, List.map_map, ByteArray.empty]
      apply List.ext_getElem?
      intro i
      by_cases hi : i < es.length
      · obtain ⟨b, hb⟩ : ∃ b, l[i]? = some b := ⟨l[i]'(by omega), List.getElem?_eq_getElem _⟩
        obtain ⟨n, hn, hnb⟩ := hby i b hb
        have hn' : es[i] = [V.int .u8 n] := (List.getElem?_eq_some_iff.1 hn).2
        simp [hi, hn', hb, hnb]
      · simp [hi]; omega
end
end Go.Proofs.YtmkgmjdbgjiehaaDoor.Ab
namespace Go.Proofs.YtmkgmjdbgjiehaaDoor.Ab
open Go.RowKit
set_option linter.unusedVariables false
set_option linter.unusedSimpArgs false
section
variable {P : Program} {φ : Phi} {I : Nat → Prop} {σ : St} {w : World} {nt : Nat} {env : Env} {a : Act}
theorem setAt_length {cs vs : List V} {o : Nat} (h : o + vs.length ≤ cs.length) : (setAt cs o vs).length = cs.length := by
  simp [setAt]; omega
theorem setAt_get {cs vs : List V} {o : Nat} (h : o + vs.length ≤ cs.length) (i : Nat) : (setAt cs o vs)[i]? = if o ≤ i ∧ i < o + vs.length then vs[i - o]? else cs[i]? := by
  unfold setAt
  rw [List.append_assoc, List.getElem?_append, List.length_take, Nat.min_eq_left (by omega)]
  by_cases h1 : i < o
  · rw [if_pos h1, if_neg (by omega), List.getElem?_take, if_pos h1]
  · rw [if_neg h1, List.getElem?_append]
    by_cases h2 : i - o < vs.length
    · rw [if_pos h2, if_pos (by omega)]
    · rw [if_neg h2, if_neg (by omega), List.getElem?_drop]
      congr 1; omega
theorem foldSet : ∀ (vs : List Value) (o k : Nat) (cs : Array Value), o + k + vs.length ≤ cs.size →
    ((vs.zipIdx k).foldl (fun (cs : Array Value) (p : Value × Nat) => cs.setIfInBounds (o + p.2) p.1) cs).size = cs.size ∧
    ∀ i, ((vs.zipIdx k).foldl (fun (cs : Array Value) (p : Value × Nat) => cs.setIfInBounds (o + p.2) p.1) cs).getD i undef = if o + k ≤ i ∧ i < o + k + vs.length then vs.getD (i - (o + k)) undef else cs.getD i undef
  | [], o, k, cs, h => by simp; intro i h1 h2; omega
  | v :: vs, o, k, cs, h => by
    simp only [List.length_cons] at h
    obtain ⟨h1, h2⟩ := foldSet vs o (k + 1) (cs.setIfInBounds (o + k) v) (by simp; omega)
    rw [List.zipIdx_cons, List.foldl_cons]
    refine ⟨by rw [h1]; simp, fun i => ?_⟩
    rw [h2 i]
    by_cases ha : i = o + k
    · subst ha
      rw [if_neg (by omega), if_pos (by simp), Nat.sub_self]
      simp [show o + k < cs.size by omega]
    · by_cases hb : o + (k + 1) ≤ i ∧ i < o + (k + 1) + vs.length
      · rw [if_pos hb, if_pos (by simp; omega), show i - (o + k) = (i - (o + (k + 1))) + 1 by omega]
        simp
      · rw [if_neg hb, if_neg (by simp; omega)]
        simp [Array.getElem?_setIfInBounds, Ne.symm ha]
theorem fillSet (vs : Array Value) (o : Nat) (cs : Array Value) (h : o + vs.size ≤ cs.size) :
    (vs.zipIdx.foldl (fun (cs : Array Value) (p : Value × Nat) => cs.setIfInBounds (o + p.2) p.1) cs).size = cs.size ∧
    ∀ i, (vs.zipIdx.foldl (fun (cs : Array Value) (p : Value × Nat) => cs.setIfInBounds (o + p.2) p.1) cs).getD i undef = if o ≤ i ∧ i < o + vs.size then vs.getD (i - o) undef else cs.getD i undef := by
  have e : vs.zipIdx.foldl (fun (cs : Array Value) (p : Value × Nat) => cs.setIfInBounds (o + p.2) p.1) cs = (vs.toList.zipIdx 0).foldl (fun (cs : Array Value) (p : Value × Nat) => cs.setIfInBounds (o + p.2) p.1) cs := by
    rw [← Array.foldl_toList, Array.toList_zipIdx]
  obtain ⟨h1, h2⟩ := foldSet vs.toList o 0 cs (by simpa using h)
  rw [e]
  refine ⟨h1, fun i => ?_⟩
  rw [h2 i]
  simp
theorem RelA.set {cs : List V} {as : Array Value} (h : RelA φ I w cs as) {vs : List V} {bs : Array Value} (hv : RelA φ I w vs bs) {o : Nat} (ho : o + vs.length ≤ cs.length) :
    RelA φ I w (setAt cs o vs) (bs.zipIdx.foldl (fun (cs : Array Value) (p : Value × Nat) => cs.setIfInBounds (o + p.2) p.1) as) := by
  obtain ⟨h1, h2⟩ := fillSet bs o as (by rw [hv.1, h.1]; exact ho)
  refine ⟨by rw [h1, setAt_length ho, h.1], fun i v hi => ?_⟩
  rw [setAt_get ho] at hi
  rw [h2 i, hv.1]
  split at hi
  · rename_i hc
    rw [if_pos hc]
    exact hv.2 _ _ hi
  · rename_i hc
    rw [if_neg hc]
    exact h.2 _ _ hi
theorem fieldD_info {s : TypeId} {fs : Array Field} (hu : P.underlying s = some (.struct fs)) {i : Nat} {d : Nat × TypeId × Nat} (h : fieldD P s i = some d) : ∃ f, fs[i]? = some f ∧ d = (f.offset, f.type, d.2.2) ∧ sizeD P f.type = some d.2.2 := by
  unfold fieldD at h
  rw [hu] at h
  simp only [Option.bind_eq_some_iff, Option.map_eq_some_iff] at h
  obtain ⟨f, hf, n, hn, rfl⟩ := h
  exact ⟨f, hf, rfl, hn⟩
theorem build_fill (hf : EnvR φ I w nt env a) (place : Nat → Option (Nat × Nat)) : ∀ (parts : List (Nat × Operand)) (ps : List (Nat × Nat × Opd)) (z : List V) (zc : Array Value) (cs : List V),
    parts.length = ps.length → (∀ (i : Nat) (p : Nat × Nat × Opd), ps[i]? = some p → ∃ q, parts[i]? = some q ∧ place q.1 = some (p.1, p.2.1) ∧ cOpd nt q.2 = some p.2.2) → RelA φ I w z zc → buildV env z ps = some cs →
    ∃ as, Instr.fill place zc (parts.map fun q => (q.1, a.eval q.2)) = some as ∧ RelA φ I w cs as
  | [], [], z, zc, cs, _, _, hz, h => by simp only [buildV, Option.some.injEq] at h; subst h; exact ⟨zc, rfl, hz⟩
  | q :: parts, (off, size, x) :: ps, z, zc, cs, hl, hp, hz, h => by
    obtain ⟨q', hq', hpl, hx⟩ := hp 0 _ rfl
    simp only [List.getElem?_cons_zero, Option.some.injEq] at hq'
    subst hq'
    unfold buildV at h
    split at h
    · rename_i hc
      obtain ⟨hc1, hc2, hc3⟩ := hc
      have hr := cOpd_rel hf hx
      obtain ⟨hs1, hs2⟩ := hr.cells hc3
      simp only at hpl hx hr hs1 hs2
      have hset := RelA.set hz ⟨hs1, hs2⟩ (o := off) (by omega)
      obtain ⟨as, has, hra⟩ := build_fill hf place parts ps _ _ cs (by simpa using hl) (fun i p hpi => by simpa using hp (i + 1) p (by simpa using hpi)) hset h
      refine ⟨as, ?_, hra⟩
      rw [List.map_cons, Instr.fill, hpl]
      have e1 : ¬ ((a.eval q.2).cells.size ≠ size || decide (off + (a.eval q.2).cells.size > zc.size)) = true := by
        simp only [Bool.or_eq_true, decide_eq_true_eq, not_or, Decidable.not_not]
        have := hz.1
        omega
      simp only
      rw [if_neg (by simpa using e1)]
      exact has
    · simp at h
theorem zeroC_run {t : TypeId} {z : List V} (h : zeroC P t = some z) : ∃ c, (zeroValue t).run P w = .ok c w ∧ RelA φ I w z c.cells ∧ z.all V.scal = true ∧ sizeD P t = some z.length ∧ 0 < z.length := by
  simp only [zeroC, Option.bind_eq_some_iff] at h
  obtain ⟨i, hi, c, hc, v, hv, h⟩ := h
  split at h <;> simp at h
  rename_i hcond
  subst h
  have hr := toV_rel (φ := φ) (I := I) (w := w) _ _ _ hv
  exact ⟨c, by simp [zeroValue, typeInfo, hi, hc], hr.cells hcond.1, hcond.1, by simp [sizeD, hi, hcond.2.1], by omega⟩
theorem mapM_sizes : ∀ (l : List Field), (l.all fun f => (sizeD P f.type).isSome) = true → (l.mapM (m := Sem) fun f => do pure (f.offset, ← sizeOf f.type)).run P w = .ok (l.map fun f => (f.offset, (sizeD P f.type).getD 0)) w
  | [], _ => by simp
  | f :: l, h => by
    simp only [List.all_cons, Bool.and_eq_true] at h
    obtain ⟨n, hn⟩ := Option.isSome_iff_exists.1 h.1
    rw [List.mapM_cons]
    simp only [Sem.run_bind, run_sizeOf hn, Result.andThen_ok, Sem.run_pure, mapM_sizes l h.2, List.map_cons, hn, Option.getD_some]
theorem quiet_build {o : Oper} {t : TypeId} {fs : Array Field} {parts : Array (Nat × Operand)} {ps : List (Nat × Nat × Opd)} {z : List V} {v : V} (ho : o.op = .build t parts) (hu : P.underlying t = some (.struct fs)) (hz : zeroC P t = some z)
    (hall : fs.all (fun f => (sizeD P f.type).isSome) = true)
    (hps : (parts.toList.mapM fun (p : Nat × Operand) => (fieldD P t p.1).bind fun d => (cOpd nt p.2).map fun x => (d.1, d.2.2, x)) = some ps)
    (hf : EnvR φ I w nt env a) {σ' : St} (he : evI env σ (.build z ps) = some (v, σ')) : σ' = σ ∧ Quiet P φ I w a o v := by
  obtain ⟨dst, op', ty, pos, after, guard⟩ := o
  simp only at ho; subst ho
  simp only [evI, Option.map_eq_some_iff, Prod.mk.injEq] at he
  obtain ⟨cs, hcs, rfl, rfl⟩ := he
  refine ⟨rfl, ?_⟩
  obtain ⟨zc, hzc, hzr, _, _, _⟩ := zeroC_run (φ := φ) (I := I) (w := w) hz
  obtain ⟨hl, hg⟩ := mapM_some hps
  obtain ⟨as, has, hra⟩ := build_fill hf (fun i => (fs.toList.map fun f => (f.offset, (sizeD P f.type).getD 0))[i]?) parts.toList ps z zc.cells cs (by omega) (fun i p hp => by
    obtain ⟨q, hq, hqp⟩ := hg i p hp
    simp only [Option.bind_eq_some_iff, Option.map_eq_some_iff] at hqp
    obtain ⟨d, hd, x, hx, rfl⟩ := hqp
    obtain ⟨f, hf1, hf2, hf3⟩ := fieldD_info hu hd
    refine ⟨q, hq, ?_, hx⟩
    have : fs.toList[q.1]? = some f := by simpa using hf1
    simp only [List.getElem?_map, this, Option.map_some, hf3, Option.getD_some]
    rw [hf2]) hzr hcs
  refine ⟨.agg as, ?_, .agg hra.1 hra.2⟩
  have hm : (fs.mapM (m := Sem) fun f => do pure (f.offset, ← sizeOf f.type)).run P w = .ok (fs.toList.map fun f => (f.offset, (sizeD P f.type).getD 0)).toArray w := by
    rw [Array.mapM_eq_mapM_toList]
    simp only [Functor.map]
    have := mapM_sizes (P := P) (w := w) fs.toList (by simpa using hall)
    rw [show (Sem.bind (fs.toList.mapM (m := Sem) fun f => do pure (f.offset, ← sizeOf f.type)) (Sem.pure ∘ List.toArray)).run P w = _ from Sem.run_bind' P _ _ w, this]
    rfl
  simp only [execOp, Instr.build, Sem.run_bind, hzc, Result.andThen_ok, run_underlying hu, hm]
  have hmap : (parts.map fun x => (x.1, a.eval x.2)).toList = parts.toList.map fun q => (q.1, a.eval q.2) := by simp
  have hpl : (fun (i : Nat) => (fs.toList.map fun f => (f.offset, (sizeD P f.type).getD 0)).toArray[i]?) = fun (i : Nat) => (fs.toList.map fun f => (f.offset, (sizeD P f.type).getD 0))[i]? := by
    funext i; simp
  simp only [hmap, hpl, has, Sem.run_pure]
  rfl
end
end Go.Proofs.YtmkgmjdbgjiehaaDoor.Ab
namespace Go.Proofs.YtmkgmjdbgjiehaaDoor.Ab
open Go.RowKit
set_option linter.unusedVariables false
set_option linter.unusedSimpArgs false
def Phi.put (φ : Phi) (n : Nat) (x : Nat × Nat × Nat) : Phi := fun l => if l = n then some x else φ l
structure Same (w w' : World) : Prop where
  os : w'.os = w.os
  tape : w'.tape = w.tape
  output : w'.output = w.output
theorem Same.refl (w : World) : Same w w := ⟨rfl, rfl, rfl⟩
section
variable {P : Program} {φ : Phi} {I : Nat → Prop} {σ : St} {w w' : World} {nt : Nat} {env : Env} {a : Act}
theorem Sim.fresh (hs : Sim φ I σ w) : σ.H σ.n = none := by
  cases h : σ.H σ.n with
  | none => rfl
  | some b =>
    obtain ⟨x, hx, _⟩ := hs.live _ _ h
    have := hs.dom _ _ hx
    omega
theorem cellsOf_push {o : Obj} (hh : w'.heap = w.heap.push o) {b : Nat} (hb : b < w.heap.size) : cellsOf w' b = cellsOf w b := by
  simp only [cellsOf, hh, Array.getElem?_push]
  rw [if_neg (by omega)]
theorem heap_push {o : Obj} (hh : w'.heap = w.heap.push o) {b : Nat} (hb : b < w.heap.size) : w'.heap[b]? = w.heap[b]? := by
  rw [hh, Array.getElem?_push, if_neg (by omega)]
theorem put_old (hs : Sim φ I σ w) {x : Nat × Nat × Nat} : ∀ l y, φ l = some y → (φ.put σ.n x) l = some y := fun l y h => by
  unfold Phi.put
  rw [if_neg (by have := hs.dom _ _ h; omega)]
  exact h
theorem Rel.keep (hs : Sim φ I σ w) {φ' : Phi} (hφ : ∀ l y, φ l = some y → φ' l = some y) (hI : ∀ b, I b → w'.heap[b]? = w.heap[b]?) (hN : ∀ b, b < w.heap.size → cellsOf w' b = cellsOf w b)
    {v : V} {c : Value} (h : Rel φ I w v c) : Rel φ' I w' v c :=
  h.mono hφ (fun _ h => h) hI (fun l x hx => hN _ (hs.blk l x hx))
theorem BlkRel.keep (hs : Sim φ I σ w) {φ' : Phi} (hφ : ∀ l y, φ l = some y → φ' l = some y) (hI : ∀ b, I b → w'.heap[b]? = w.heap[b]?) (hN : ∀ b, b < w.heap.size → cellsOf w' b = cellsOf w b)
    {b : Blk} {x : Nat × Nat × Nat} (hb : w'.heap[x.1]? = w.heap[x.1]?) (h : BlkRel φ I w b x) : BlkRel φ' I w' b x := by
  cases h with
  | row hh hfz hpos hz hsz ho hr => exact .row (hb.trans hh) hfz hpos hz hsz ho (fun i j e v h1 h2 => (hr i j e v h1 h2).keep hs hφ hI hN)
  | map hh hn hr => exact .map (hb.trans hh) hn (fun i kv e h1 h2 => ⟨(hr i kv e h1 h2).1.keep hs hφ hI hN, (hr i kv e h1 h2).2.keep hs hφ hI hN⟩)
  | lp hh hr => exact .lp (hb.trans hh) hr
theorem upd_same (H : Nat → Option Blk) (l : Nat) (b : Option Blk) : upd H l b l = b := by simp [upd]
theorem upd_ne (H : Nat → Option Blk) {l k : Nat} (b : Option Blk) (h : k ≠ l) : upd H l b k = H k := by simp [upd, h]
theorem sim_new (hs : Sim φ I σ w) {o : Obj} (hh : w'.heap = w.heap.push o) (hsame : Same w w') {blk : Blk} {z : Nat} (hb : ∀ φ', (∀ l y, φ l = some y → φ' l = some y) → BlkRel φ' I w' blk (w.heap.size, 0, z)) :
    Evo φ I σ w (φ.put σ.n (w.heap.size, 0, z)) I (σ.new blk) w' ∧ Sim (φ.put σ.n (w.heap.size, 0, z)) I (σ.new blk) w' := by
  have hφ := put_old hs (x := (w.heap.size, 0, z))
  have hsz : w'.heap.size = w.heap.size + 1 := by rw [hh]; simp
  have hI : ∀ b, I b → w'.heap[b]? = w.heap[b]? := fun b h => heap_push hh (hs.imm b h)
  have hN : ∀ b, b < w.heap.size → cellsOf w' b = cellsOf w b := fun b h => cellsOf_push hh h
  have hlive : ∀ b, Live (φ.put σ.n (w.heap.size, 0, z)) (σ.new blk) b → (Live φ σ b ∧ b < w.heap.size) ∨ b = w.heap.size := fun b hl => by
    obtain ⟨l, x, h1, h2, rfl⟩ := hl
    by_cases hn : l = σ.n
    · subst hn
      simp only [Phi.put, if_true, Option.some.injEq] at h2
      subst h2
      exact .inr rfl
    · simp only [Phi.put, if_neg hn] at h2
      simp only [St.new, upd_ne _ _ hn] at h1
      exact .inl ⟨⟨l, x, h1, h2, rfl⟩, hs.blk _ _ h2⟩
  refine ⟨⟨hφ, fun _ h => h, fun _ h => .inl h, fun b hl => ?_, by omega, hN, fun b h _ => heap_push hh h, hsame.os, hsame.tape, hsame.output, rfl, .same fun b h => heap_push hh h⟩, ⟨fun l x h => ?_, fun l x h => ?_, fun l b h => ?_, fun b hl hi => ?_, fun l l' x x' h1 h2 h3 h4 he => ?_, fun b h => ?_, fun b h => ⟨(hs.base b h).1, (hI b (hs.base b h).1).trans (hs.base b h).2⟩⟩⟩
  · rcases hlive b hl with h | h
    · exact .inl h.1
    · exact .inr (by omega)
  · simp only [Phi.put] at h
    split at h
    · simp only [St.new]; omega
    · have := hs.dom _ _ h; simp only [St.new]; omega
  · simp only [Phi.put] at h
    split at h
    · simp only [Option.some.injEq] at h; subst h; simp only; omega
    · have := hs.blk _ _ h; omega
  · by_cases hn : l = σ.n
    · subst hn
      simp only [St.new, upd_same, Option.some.injEq] at h
      subst h
      exact ⟨_, by simp [Phi.put], hb _ hφ⟩
    · simp only [St.new, upd_ne _ _ hn] at h
      obtain ⟨x, h1, h2⟩ := hs.live _ _ h
      exact ⟨x, hφ _ _ h1, h2.keep hs hφ hI hN (heap_push hh (hs.blk _ _ h1))⟩
  · rcases hlive b hl with h | h
    · exact hs.notI b h.1 hi
    · have := hs.imm b hi; omega
  · by_cases hn : l = σ.n <;> by_cases hn' : l' = σ.n
    · omega
    · subst hn
      simp only [Phi.put, if_true, Option.some.injEq] at h3
      simp only [Phi.put, if_neg hn'] at h4
      have := hs.blk _ _ h4
      subst h3
      simp only at he; omega
    · subst hn'
      simp only [Phi.put, if_true, Option.some.injEq] at h4
      simp only [Phi.put, if_neg hn] at h3
      have := hs.blk _ _ h3
      subst h4
      simp only at he; omega
    · simp only [Phi.put, if_neg hn] at h3
      simp only [Phi.put, if_neg hn'] at h4
      simp only [St.new, upd_ne _ _ hn] at h1
      simp only [St.new, upd_ne _ _ hn'] at h2
      exact hs.inj _ _ _ _ h1 h2 h3 h4 he
  · have := hs.imm b h; omega
theorem row_new (hs : Sim φ I σ w) {arr : Array Value} {t : TypeId} {fz : Nat × Nat} (hh : w'.heap = w.heap.push (.cells arr t fz)) (hsame : Same w w') (hfz : fits arr fz) {z : Nat} (hz : 0 < z) {es : List (List V)}
    (he : ∀ e ∈ es, e.length = z) (hsz : es.length * z ≤ arr.size) (ho : ∀ i j, i < es.length → j < z → (arr.getD (i * z + j) undef).oneCell' = true) (hr : ∀ i j e v, es[i]? = some e → e[j]? = some v → Rel φ I w v (arr.getD (i * z + j) undef)) :
    Evo φ I σ w (φ.put σ.n (w.heap.size, 0, z)) I (σ.new (.row z es)) w' ∧ Sim (φ.put σ.n (w.heap.size, 0, z)) I (σ.new (.row z es)) w' :=
  sim_new hs hh hsame fun φ' hφ => .row (arr := arr) (t := t) (fz := fz) (by rw [hh]; simp) hfz hz he (by omega) (fun i j hi hj => by rw [Nat.zero_add]; exact ho i j hi hj)
    (fun i j e v h1 h2 => by
      rw [Nat.zero_add]
      exact (hr i j e v h1 h2).keep hs hφ (fun b h => heap_push hh (hs.imm b h)) (fun b h => cellsOf_push hh h))
theorem Loops.cells {b : Nat} {arr : Array Value} {t : TypeId} {fz : Nat × Nat} (hb : w.heap[b]? = some (.cells arr t fz)) (hoth : ∀ k, k ≠ b → w'.heap[k]? = w.heap[k]?) : Loops w w' := fun k r hr =>
  ⟨r.state, r.pending, by rw [hoth k (fun e => by rw [e, hb] at hr; simp at hr)]; exact hr⟩
theorem sim_turn (hs : Sim φ I σ w) {l : Nat} {x : Nat × Nat × Nat} (hl : (σ.H l).isSome = true) (hx : φ l = some x) (hoth : ∀ k, k ≠ x.1 → w'.heap[k]? = w.heap[k]?) (hsize : w'.heap.size = w.heap.size)
    (hN : cellsOf w' x.1 = cellsOf w x.1) (hsame : Same w w') {blk : Blk} (hb : BlkRel φ I w' blk x) (hlp : Loops w w') : Evo φ I σ w φ I (σ.set l blk) w' ∧ Sim φ I (σ.set l blk) w' := by
  have hlv : Live φ σ x.1 := ⟨l, x, hl, hx, rfl⟩
  have hI : ∀ b, I b → w'.heap[b]? = w.heap[b]? := fun b h => hoth b (fun e => hs.notI _ hlv (e ▸ h))
  have hN' : ∀ b, b < w.heap.size → cellsOf w' b = cellsOf w b := fun b _ => by
    by_cases e : b = x.1
    · rw [e]; exact hN
    · unfold cellsOf; rw [hoth b e]
  have hlive : ∀ b, Live φ (σ.set l blk) b → Live φ σ b := fun b ⟨k, y, h1, h2, h3⟩ => by
    refine ⟨k, y, ?_, h2, h3⟩
    by_cases e : k = l
    · subst e; exact hl
    · simpa only [St.set, upd_ne _ _ e] using h1
  refine ⟨⟨fun _ _ h => h, fun _ h => h, fun _ h => .inl h, fun b h => .inl (hlive b h), by omega, hN', fun b _ hn => hoth b (fun e => hn (e ▸ hlv)), hsame.os, hsame.tape, hsame.output, rfl, hlp⟩,
    ⟨hs.dom, fun k y h => by have := hs.blk _ _ h; omega, fun k b h => ?_, fun b h => hs.notI b (hlive b h), fun k k' y y' h1 h2 h3 h4 he => ?_, fun b h => by have := hs.imm b h; omega, fun b h => ⟨(hs.base b h).1, (hI b (hs.base b h).1).trans (hs.base b h).2⟩⟩⟩
  · by_cases e : k = l
    · subst e
      simp only [St.set, upd_same, Option.some.injEq] at h
      subst h
      exact ⟨x, hx, hb⟩
    · simp only [St.set, upd_ne _ _ e] at h
      obtain ⟨y, h1, h2⟩ := hs.live _ _ h
      refine ⟨y, h1, h2.keep hs (fun _ _ h => h) hI hN' (hoth _ (fun e' => e (hs.inj _ _ _ _ (by rw [h]; rfl) hl h1 hx e')))⟩
  · have g : ∀ k, ((σ.set l blk).H k).isSome = true → (σ.H k).isSome = true := fun k h => by
      by_cases e : k = l
      · subst e; exact hl
      · simpa only [St.set, upd_ne _ _ e] using h
    exact hs.inj _ _ _ _ (g _ h1) (g _ h2) h3 h4 he
theorem sim_kill (hs : Sim φ I σ w) (l : Nat) : Evo φ I σ w φ I (σ.kill l) w ∧ Sim φ I (σ.kill l) w := by
  have g : ∀ k, ((σ.kill l).H k).isSome = true → (σ.H k).isSome = true ∧ k ≠ l := fun k h => by
    by_cases e : k = l
    · subst e; simp [St.kill, upd_same] at h
    · exact ⟨by simpa only [St.kill, upd_ne _ _ e] using h, e⟩
  have hlive : ∀ b, Live φ (σ.kill l) b → Live φ σ b := fun b ⟨k, y, h1, h2, h3⟩ => ⟨k, y, (g k h1).1, h2, h3⟩
  refine ⟨⟨fun _ _ h => h, fun _ h => h, fun _ h => .inl h, fun b h => .inl (hlive b h), Nat.le_refl _, fun _ _ => rfl, fun _ _ _ => rfl, rfl, rfl, rfl, rfl, Loops.refl _⟩,
    ⟨hs.dom, hs.blk, fun k b h => hs.live k b (by
      have := g k (by rw [h]; rfl)
      simpa only [St.kill, upd_ne _ _ this.2] using h), fun b h => hs.notI b (hlive b h), fun k k' y y' h1 h2 h3 h4 he => hs.inj _ _ _ _ (g _ h1).1 (g _ h2).1 h3 h4 he, hs.imm, hs.base⟩⟩
theorem sim_move (hs : Sim φ I σ w) {l : Nat} {x y : Nat × Nat × Nat} (hl : (σ.H l).isSome = true) (hx : φ l = some x) (hy : y.1 = x.1) (hoth : ∀ k, k ≠ x.1 → w'.heap[k]? = w.heap[k]?) (hsize : w'.heap.size = w.heap.size)
    (hN : cellsOf w' x.1 = cellsOf w x.1) (hsame : Same w w') {blk : Blk} (hb : ∀ φ', (∀ l y, φ l = some y → φ' l = some y) → BlkRel φ' I w' blk y) (hlp : Loops w w') :
    Evo φ I σ w (φ.put σ.n y) I ((σ.kill l).new blk) w' ∧ Sim (φ.put σ.n y) I ((σ.kill l).new blk) w' := by
  have hφ := put_old hs (x := y)
  have hln : l ≠ σ.n := fun e => by rw [e, hs.fresh] at hl; simp at hl
  have hlv : Live φ σ x.1 := ⟨l, x, hl, hx, rfl⟩
  have hI : ∀ b, I b → w'.heap[b]? = w.heap[b]? := fun b h => hoth b (fun e => hs.notI _ hlv (e ▸ h))
  have hN' : ∀ b, b < w.heap.size → cellsOf w' b = cellsOf w b := fun b _ => by
    by_cases e : b = x.1
    · rw [e]; exact hN
    · unfold cellsOf; rw [hoth b e]
  have g : ∀ k, k ≠ σ.n → (((σ.kill l).new blk).H k).isSome = true → (σ.H k).isSome = true ∧ k ≠ l := fun k hn h => by
    simp only [St.new, St.kill, upd_ne _ _ hn] at h
    by_cases e : k = l
    · subst e; simp [upd_same] at h
    · exact ⟨by simpa only [upd_ne _ _ e] using h, e⟩
  have hlive : ∀ b, Live (φ.put σ.n y) ((σ.kill l).new blk) b → Live φ σ b := fun b ⟨k, u, h1, h2, h3⟩ => by
    by_cases hn : k = σ.n
    · subst hn
      simp only [Phi.put, if_true, Option.some.injEq] at h2
      subst h2
      rw [← h3, hy]
      exact hlv
    · simp only [Phi.put, if_neg hn] at h2
      exact ⟨k, u, (g k hn h1).1, h2, h3⟩
  refine ⟨⟨hφ, fun _ h => h, fun _ h => .inl h, fun b h => .inl (hlive b h), by omega, hN', fun b _ hn => hoth b (fun e => hn (e ▸ hlv)), hsame.os, hsame.tape, hsame.output, rfl, hlp⟩,
    ⟨fun k u h => ?_, fun k u h => ?_, fun k b h => ?_, fun b h => hs.notI b (hlive b h), fun k k' u u' h1 h2 h3 h4 he => ?_, fun b h => by have := hs.imm b h; omega, fun b h => ⟨(hs.base b h).1, (hI b (hs.base b h).1).trans (hs.base b h).2⟩⟩⟩
  · simp only [Phi.put] at h
    split at h
    · simp only [St.new, St.kill]; omega
    · have := hs.dom _ _ h; simp only [St.new, St.kill]; omega
  · simp only [Phi.put] at h
    split at h
    · simp only [Option.some.injEq] at h; subst h; have := hs.blk _ _ hx; omega
    · have := hs.blk _ _ h; omega
  · by_cases hn : k = σ.n
    · subst hn
      have : b = blk := by simpa [St.new, St.kill, upd_same] using h.symm
      subst this
      exact ⟨_, by simp [Phi.put], hb _ hφ⟩
    · obtain ⟨hk, hkl⟩ := g k hn (by rw [h]; rfl)
      simp only [St.new, St.kill, upd_ne _ _ hn, upd_ne _ _ hkl] at h
      obtain ⟨u, h1, h2⟩ := hs.live _ _ h
      exact ⟨u, hφ _ _ h1, h2.keep hs hφ hI hN' (hoth _ (fun e => hkl (hs.inj _ _ _ _ hk hl h1 hx e)))⟩
  · by_cases hn : k = σ.n <;> by_cases hn' : k' = σ.n
    · omega
    · subst hn
      simp only [Phi.put, if_true, Option.some.injEq] at h3
      simp only [Phi.put, if_neg hn'] at h4
      obtain ⟨hk, hkl⟩ := g k' hn' h2
      subst h3
      exact absurd (hs.inj _ _ _ _ hk hl h4 hx (by rw [← he, hy])) hkl
    · subst hn'
      simp only [Phi.put, if_true, Option.some.injEq] at h4
      simp only [Phi.put, if_neg hn] at h3
      obtain ⟨hk, hkl⟩ := g k hn h1
      subst h4
      exact absurd (hs.inj _ _ _ _ hk hl h3 hx (by rw [he, hy])) hkl
    · simp only [Phi.put, if_neg hn] at h3
      simp only [Phi.put, if_neg hn'] at h4
      exact hs.inj _ _ _ _ (g _ hn h1).1 (g _ hn' h2).1 h3 h4 he
end
end Go.Proofs.YtmkgmjdbgjiehaaDoor.Ab
namespace Go.Proofs.YtmkgmjdbgjiehaaDoor.Ab
open Go.RowKit
set_option linter.unusedVariables false
set_option linter.unusedSimpArgs false
def Acts (P : Program) (φ : Phi) (I : Nat → Prop) (σ : St) (w : World) (a : Act) (o : Oper) (v : V) (σ' : St) : Prop :=
  ∃ c w' φ' I', ((execOp a.eval o).run P w = .ok (.value c) w' ∨ ((execOp a.eval o).run P w = .ok .skip w' ∧ c = undef)) ∧ Rel φ' I' w' v c ∧ Evo φ I σ w φ' I' σ' w' ∧ Sim φ' I' σ' w'
section
variable {P : Program} {φ : Phi} {I : Nat → Prop} {σ : St} {w w' : World} {nt : Nat} {env : Env} {a : Act}
theorem Quiet.acts {o : Oper} {v : V} (hs : Sim φ I σ w) (h : Quiet P φ I w a o v) : Acts P φ I σ w a o v σ := by
  obtain ⟨c, h1, h2⟩ := h
  exact ⟨c, w, φ, I, .inl h1, h2, Evo.refl _ _ _ _, hs⟩
theorem new_rel (hs : Sim φ I σ w) {z len cap : Nat} {t : TypeId} {arr : Array Value} {fz : Nat × Nat} (hh : w'.heap = w.heap.push (.cells arr t fz)) (hl : len ≤ cap) (hc : cap * z = arr.size) :
    Rel (φ.put σ.n (w.heap.size, 0, z)) I w' (.slc σ.n 0 len) (.slice (some ⟨w.heap.size, 0, none⟩) len cap) := by
  refine .slc (b := w.heap.size) (base := 0) (z := z) (by simp [Phi.put]) hl ?_ (fun _ => by simp)
  rw [Nat.zero_add, Nat.zero_add, hc]
  simp [cellsOf, hh]
theorem new_ptr {z : Nat} : Rel (φ.put σ.n (w.heap.size, 0, z)) I w' (.ptr σ.n 0 0) (.pointer (some ⟨w.heap.size, 0, none⟩)) := by
  have := Rel.ptr (I := I) (w := w') (φ := φ.put σ.n (w.heap.size, 0, z)) (l := σ.n) 0 0 (b := w.heap.size) (base := 0) (z := z) (by simp [Phi.put])
  simpa using this
theorem fits_none (arr : Array Value) : fits arr (0, 0) := .inl rfl
theorem all_scal {vs : List V} (h : vs.all V.scal = true) {cs : Array Value} (hr : RelA φ I w vs cs) : ∀ v ∈ cs.toList, v.oneCell' = true := fun v hv => by
  obtain ⟨i, hi, rfl⟩ := List.mem_iff_getElem.1 hv
  have hi' : i < vs.length := by rw [← hr.1]; simpa using hi
  have := hr.2 i vs[i] (List.getElem?_eq_getElem hi')
  have hg : cs.getD i undef = cs.toList[i] := by simp [show i < cs.size by rw [hr.1]; exact hi']
  rw [hg] at this
  exact this.scal (List.all_eq_true.1 h _ (List.getElem_mem hi'))
theorem getD_one {cs : Array Value} (h : ∀ v ∈ cs.toList, v.oneCell' = true) {i : Nat} (hi : i < cs.size) : (cs.getD i undef).oneCell' = true := by
  have : cs.getD i undef = cs[i] := by simp [hi]
  rw [this]
  exact h _ (by simp)
theorem one_row_one {vs : List V} {cs : Array Value} (hs : vs.all V.scal = true) (h : RelA φ I w vs cs) : ∀ i j, i < [vs].length → j < vs.length → (cs.getD (i * vs.length + j) undef).oneCell' = true := fun i j h1 h2 => by
  have : i = 0 := by simpa using h1
  subst this
  rw [Nat.zero_mul, Nat.zero_add]
  exact getD_one (all_scal hs h) (by rw [h.1]; exact h2)
theorem one_row {vs : List V} {cs : Array Value} (h : RelA φ I w vs cs) : ∀ i j e v, [vs][i]? = some e → e[j]? = some v → Rel φ I w v (cs.getD (i * vs.length + j) undef) := fun i j e v h1 h2 => by
  cases i with
  | zero => simp at h1; subst h1; simpa using h.2 j v h2
  | succ i => simp at h1
theorem acts_new {o : Oper} {t : TypeId} {z : List V} {v : V} {σ' : St} (ho : o.op = .alloc t) (hz : zeroC P t = some z) (hs : Sim φ I σ w) (he : evI env σ (.new z) = some (v, σ')) : Acts P φ I σ w a o v σ' := by
  obtain ⟨c, hc, hr, hsc, _, hp⟩ := zeroC_run (P := P) (φ := φ) (I := I) (w := w) hz
  obtain ⟨dst, op', ty, pos, after, guard⟩ := o
  simp only at ho; subst ho
  simp only [evI, Option.some.injEq, Prod.mk.injEq] at he
  obtain ⟨rfl, rfl⟩ := he
  let w1 : World := { w with heap := w.heap.push (.cells c.cells t (0, 0)) }
  obtain ⟨h1, h2⟩ := row_new (w' := w1) hs rfl ⟨rfl, rfl, rfl⟩ (fits_none _) hp (es := [z]) (by simp) (by simp [hr.1]) (one_row_one hsc hr) (one_row hr)
  refine ⟨_, w1, _, _, .inl ?_, new_ptr, h1, h2⟩
  simp only [execOp, Instr.alloc, Sem.run_bind, hc, Result.andThen_ok, newVar, newRow, run_newObj, Sem.run_pure]
  rfl
theorem acts_box {o : Oper} {t : TypeId} {x : Operand} {x' : Opd} {v : V} {σ' : St} (ho : o.op = .box t x) (hs : Sim φ I σ w) (hf : EnvR φ I w nt env a) (hx : cOpd nt x = some x') (he : evI env σ (.box x') = some (v, σ')) : Acts P φ I σ w a o v σ' := by
  have h := cOpd_rel hf hx
  obtain ⟨dst, op', ty, pos, after, guard⟩ := o
  simp only at ho; subst ho
  simp only [evI] at he
  split at he <;> simp only [Option.some.injEq, Prod.mk.injEq, reduceCtorEq] at he
  rename_i hc
  obtain ⟨rfl, rfl⟩ := he
  have hr := h.cells hc.1
  let w1 : World := { w with heap := w.heap.push (.cells (a.eval x).cells t (0, 0)) }
  obtain ⟨h1, h2⟩ := row_new (w' := w1) hs rfl ⟨rfl, rfl, rfl⟩ (fits_none _) hc.2 (es := [(x'.ev env).cells]) (by simp) (by simp [hr.1]) (one_row_one hc.1 hr) (one_row hr)
  refine ⟨_, w1, _, _, .inl ?_, new_ptr, h1, h2⟩
  simp only [execOp, Instr.box, newVar, newRow, Sem.run_bind, run_newObj, Result.andThen_ok, Sem.run_pure]
  rfl
theorem acts_mkmap {o : Oper} {t : TypeId} {v : V} {σ' : St} (ho : o.op = .makeMap t none) (hs : Sim φ I σ w) (he : evI env σ .mkmap = some (v, σ')) : Acts P φ I σ w a o v σ' := by
  obtain ⟨dst, op', ty, pos, after, guard⟩ := o
  simp only at ho; subst ho
  simp only [evI, Option.some.injEq, Prod.mk.injEq] at he
  obtain ⟨rfl, rfl⟩ := he
  let w1 : World := { w with heap := w.heap.push (.map #[] 0) }
  obtain ⟨h1, h2⟩ := sim_new (w' := w1) (z := 0) (blk := .map []) hs rfl ⟨rfl, rfl, rfl⟩ (fun φ' hφ => .map (ents := #[]) (clock := 0) (by simp [w1]) rfl (fun i kv e h => by simp at h))
  refine ⟨_, w1, _, _, .inl ?_, .map (b := w.heap.size) (base := 0) (z := 0) (by simp [Phi.put]), h1, h2⟩
  simp only [execOp, Instr.makeMap, Sem.run_bind, run_newObj, Option.map_none, Result.andThen_ok, Sem.run_pure]
  rfl
theorem zeros_get (zc : Array Value) (n : Nat) (z : Nat) (hz : zc.size = z) (hp : 0 < z) (i j : Nat) (hi : i < n) (hj : j < z) :
    ((Array.range (n * z)).map (zc[· % zc.size]!)).getD (i * z + j) undef = zc.getD j undef := by
  have hlt := mul_lt_of hi hj
  have hm : (i * z + j) % z = j := by rw [Nat.mul_comm, Nat.mul_add_mod]; exact Nat.mod_eq_of_lt hj
  have hj' : j < zc.size := by omega
  simp [hlt, hz, hm, hj', getElem!_pos zc j hj', getElem?_pos zc j hj']
theorem wrap_id {n : Int} (h0 : -9223372036854775808 ≤ n) (h1 : n < 9223372036854775808) : IntKind.i64.wrap n = n := by
  unfold IntKind.wrap
  simp only [IntKind.bits, IntKind.signed, Bool.true_and, decide_eq_true_eq, Nat.reduceSub]
  by_cases h : n % 2 ^ 64 ≥ 2 ^ 63
  · rw [if_pos (by simpa using h)]; omega
  · rw [if_neg (by simpa using h)]; omega
theorem replicate_rel {z : List V} {zc : Array Value} (hr : RelA φ I w z zc) (hp : 0 < z.length) (n N : Nat) (hn : n ≤ N) : ∀ i j e v, (List.replicate n z)[i]? = some e → e[j]? = some v →
    Rel φ I w v (((Array.range (N * z.length)).map (zc[· % zc.size]!)).getD (i * z.length + j) undef) := fun i j e v h1 h2 => by
  simp only [List.getElem?_replicate] at h1
  split at h1 <;> simp at h1
  subst h1
  have hj := (List.getElem?_eq_some_iff.1 h2).1
  rw [zeros_get zc N z.length hr.1 hp i j (by omega) hj]
  exact hr.2 j v h2
theorem replicate_one {z : List V} {zc : Array Value} (hs : z.all V.scal = true) (hr : RelA φ I w z zc) (n N : Nat) (hn : n ≤ N) : ∀ i j, i < (List.replicate n z).length → j < z.length →
    (((Array.range (N * z.length)).map (zc[· % zc.size]!)).getD (i * z.length + j) undef).oneCell' = true := fun i j h1 h2 => by
  rw [List.length_replicate] at h1
  rw [zeros_get zc N z.length hr.1 (by omega) i j (by omega) h2]
  exact getD_one (all_scal hs hr) (by rw [hr.1]; exact h2)
theorem acts_mksl {o : Oper} {t e : TypeId} {inf : TypeInfo} {l c : Operand} {l' c' : Opd} {z : List V} {v : V} {σ' : St} (ho : o.op = .makeSlice t l c) (hu : P.underlying t = some (.slice e)) (hz : zeroC P e = some z) (hi : P.info? e = some inf) (hb : inf.bytes ≤ 65536)
    (hs : Sim φ I σ w) (hf : EnvR φ I w nt env a) (hl : cOpd nt l = some l') (hc : cOpd nt c = some c') (he : evI env σ (.mksl inf.bytes z l' c') = some (v, σ')) : Acts P φ I σ w a o v σ' := by
  have h1 := cOpd_rel hf hl
  have h2 := cOpd_rel hf hc
  obtain ⟨zc, hzc, hr, hsc, hsz, hp⟩ := zeroC_run (P := P) (φ := φ) (I := I) (w := w) hz
  obtain ⟨dst, op', ty, pos, after, guard⟩ := o
  simp only at ho; subst ho
  simp only [evI] at he
  split at he <;> (try (simp only [reduceCtorEq] at he; done))
  rename_i k1 n1 k2 n2 e1 e2
  rw [e1] at h1; rw [e2] at h2
  have h1 := h1.int_inv
  have h2 := h2.int_inv
  split at he <;> simp only [Option.some.injEq, Prod.mk.injEq, reduceCtorEq] at he
  rename_i hcnd
  obtain ⟨hn0, hn1, hn2, hn3⟩ := hcnd
  obtain ⟨rfl, rfl⟩ := he
  simp only [reach] at hn2 hn3
  have hw1 : IntKind.i64.wrap n1 = n1 := wrap_id (by omega) (by omega)
  have hw2 : IntKind.i64.wrap n2 = n2 := wrap_id (by omega) (by omega)
  let arr : Array Value := if n2.toNat * z.length = 0 then #[] else (Array.range (n2.toNat * z.length)).map (zc.cells[· % zc.cells.size]!)
  have harr : arr = (Array.range (n2.toNat * z.length)).map (zc.cells[· % zc.cells.size]!) := by
    simp only [arr]
    split
    · rename_i h; rw [h]; simp
    · rfl
  let w1 : World := { w with heap := w.heap.push (.cells arr e (0, 0)) }
  obtain ⟨q1, q2⟩ := row_new (w' := w1) hs rfl ⟨rfl, rfl, rfl⟩ (fits_none _) hp (es := List.replicate n1.toNat z) (fun e he => by rw [(List.mem_replicate.1 he).2])
    (by rw [harr]; simp; exact Nat.mul_le_mul_right _ (by omega)) (by rw [harr]; exact replicate_one hsc hr _ _ (by omega)) (by rw [harr]; exact replicate_rel hr hp _ _ (by omega))
  have hrel := new_rel (w' := w1) (z := z.length) (len := n1.toNat) (cap := n2.toNat) hs rfl (by omega) (by rw [harr]; simp)
  refine ⟨_, w1, _, _, .inl ?_, hrel, q1, q2⟩
  have hb1 : ¬ (n2 < 0 ∨ 281474976710656 < (inf.bytes : Int) * n2) := by omega
  have hb3 : ¬ (n1 < 0) := by omega
  have hb4 : ¬ (n2 < n1) := by omega
  have hti : (typeInfo e).run P w = .ok inf w := by simp [typeInfo, hi]
  have hlarge : ∀ n : Int, 0 ≤ n → inf.bytes * n ≤ 70368744177664 → (decide (n < 0) || decide ((inf.bytes : Int) * n > 2 ^ 48)) = false := fun n h h' => by simp; omega
  have hbn : (inf.bytes : Int) * n1 ≤ 70368744177664 := Int.le_trans (Int.mul_le_mul_of_nonneg_left hn1 (by omega)) hn2
  by_cases hz0 : n2.toNat * z.length = 0
  · have ha : arr = #[] := by simp only [arr, hz0, if_true]
    simp only [w1, ha]
    simp [execOp, Instr.makeSlice, run_underlying hu, h1, h2, asInt, asIntOf, hti, hw1, hw2, run_sizeOf hsz, hz0, hb1, hb3, hb4, newRow]
    rw [show Array.range 0 = #[] from rfl, Array.map_empty]
  · have ha : arr = (Array.range (n2.toNat * z.length)).map (zc.cells[· % zc.cells.size]!) := harr
    simp only [w1, ha]
    simp [execOp, Instr.makeSlice, run_underlying hu, h1, h2, asInt, asIntOf, hti, hw1, hw2, run_sizeOf hsz, hz0, hb1, hb3, hb4, newRow, hzc]
theorem bslice_fill (hf : EnvR φ I w nt env a) {z : Nat} (hz : 0 < z) : ∀ (parts : List (Nat × Operand)) (ps : List (Nat × Opd)) (es es' : List (List V)) (arr : Array Value),
    parts.length = ps.length → (∀ (i : Nat) (p : Nat × Opd), ps[i]? = some p → ∃ q, parts[i]? = some q ∧ q.1 = p.1 ∧ cOpd nt q.2 = some p.2) → (∀ e ∈ es, e.length = z) → arr.size = es.length * z → (∀ i j, i < es.length → j < z → (arr.getD (i * z + j) undef).oneCell' = true) →
    (∀ i j e v, es[i]? = some e → e[j]? = some v → Rel φ I w v (arr.getD (i * z + j) undef)) → bsliceV env z es ps = some es' →
    ∃ as, Instr.fill (fun i => some (i * z, z)) arr (parts.map fun q => (q.1, a.eval q.2)) = some as ∧ (∀ e ∈ es', e.length = z) ∧ es'.length = es.length ∧ as.size = es.length * z ∧ (∀ i j, i < es.length → j < z → (as.getD (i * z + j) undef).oneCell' = true) ∧
      ∀ i j e v, es'[i]? = some e → e[j]? = some v → Rel φ I w v (as.getD (i * z + j) undef)
  | [], [], es, es', arr, _, _, h1, h2, h0, h3, h => by simp only [bsliceV, Option.some.injEq] at h; subst h; exact ⟨arr, rfl, h1, rfl, h2, h0, h3⟩
  | q :: parts, (k, x) :: ps, es, es', arr, hl, hp, h1, h2, h0, h3, h => by
    obtain ⟨q', hq', hpl, hx⟩ := hp 0 _ rfl
    simp only [List.getElem?_cons_zero, Option.some.injEq] at hq'
    subst hq'
    unfold bsliceV at h
    split at h
    · rename_i hc
      obtain ⟨hc1, hc2, hc3⟩ := hc
      have hr := cOpd_rel hf hx
      obtain ⟨hs1, hs2⟩ := hr.cells hc3
      simp only at hpl hx hr hs1 hs2
      have hsz : k * z + z ≤ es.length * z := by
        have : (k + 1) * z ≤ es.length * z := Nat.mul_le_mul_right z hc2
        rw [Nat.add_mul] at this; omega
      obtain ⟨g1, g2⟩ := fillSet (a.eval q.2).cells (k * z) arr (by omega)
      obtain ⟨as, has, b1, b2, b3, b0, b4⟩ := bslice_fill hf hz parts ps (es.set k (x.ev env).cells) es' _ (by simpa using hl) (fun i p hpi => by simpa using hp (i + 1) p (by simpa using hpi))
        (fun e he => by
          rcases List.mem_or_eq_of_mem_set he with h | h
          · exact h1 e h
          · rw [h]; exact hc1)
        (by rw [g1, h2, List.length_set])
        (fun i j hi hj => by
          rw [g2]
          rw [List.length_set] at hi
          split
          · exact getD_one (all_scal hc3 ⟨hs1, hs2⟩) (by omega)
          · exact h0 i j hi hj)
        (fun i j e v hi hj => by
          rw [g2]
          rw [List.getElem?_set] at hi
          split at hi
          · rename_i hki
            subst hki
            simp only [Option.some.injEq] at hi
            subst hi
            have hjl := (List.getElem?_eq_some_iff.1 hj).1
            rw [if_pos (by omega), show k * z + j - k * z = j by omega]
            exact hs2 _ _ hj
          · rename_i hki
            have hjl := (List.getElem?_eq_some_iff.1 hj).1
            have hel := h1 e (List.mem_of_getElem? hi)
            rw [if_neg]
            · exact h3 i j e v hi hj
            · intro ⟨hh1, hh2⟩
              rw [hs1, hc1] at hh2
              rcases Nat.lt_or_gt_of_ne hki with hlt | hlt
              · have : (k + 1) * z ≤ i * z := Nat.mul_le_mul_right z hlt
                rw [Nat.add_mul] at this; omega
              · have : (i + 1) * z ≤ k * z := Nat.mul_le_mul_right z hlt
                rw [Nat.add_mul] at this; omega) h
      refine ⟨as, ?_, b1, by rw [b2, List.length_set], by rw [b3, List.length_set], fun i j hi hj => b0 i j (by rw [List.length_set]; exact hi) hj, b4⟩
      rw [List.map_cons, Instr.fill, hpl]
      have e1 : ¬ ((a.eval q.2).cells.size ≠ z || decide (k * z + (a.eval q.2).cells.size > arr.size)) = true := by
        simp only [Bool.or_eq_true, decide_eq_true_eq, not_or, Decidable.not_not]
        omega
      simp only
      rw [if_neg (by simpa using e1)]
      exact has
    · simp at h
theorem acts_bslice {o : Oper} {t e : TypeId} {len : Nat} {parts : Array (Nat × Operand)} {ps : List (Nat × Opd)} {z : List V} {v : V} {σ' : St} (ho : o.op = .buildSlice t len parts) (hu : P.underlying t = some (.slice e)) (hz : zeroC P e = some z)
    (hlim : len * z.length ≤ 2 ^ 24) (hps : (parts.toList.mapM fun (p : Nat × Operand) => (cOpd nt p.2).map fun x => (p.1, x)) = some ps)
    (hs : Sim φ I σ w) (hf : EnvR φ I w nt env a) (he : evI env σ (.bslice z len ps) = some (v, σ')) : Acts P φ I σ w a o v σ' := by
  obtain ⟨zc, hzc, hr, hsc, hsz, hp⟩ := zeroC_run (P := P) (φ := φ) (I := I) (w := w) hz
  obtain ⟨dst, op', ty, pos, after, guard⟩ := o
  simp only at ho; subst ho
  simp only [evI, Option.map_eq_some_iff, Prod.mk.injEq] at he
  obtain ⟨es, hes, rfl, rfl⟩ := he
  obtain ⟨hl, hg⟩ := mapM_some hps
  obtain ⟨as, has, b1, b2, b3, b0, b4⟩ := bslice_fill hf hp parts.toList ps (List.replicate len z) es ((Array.range (len * z.length)).map (zc.cells[· % zc.cells.size]!)) (by omega) (fun i p hpi => by
      obtain ⟨q, hq, hqp⟩ := hg i p hpi
      simp only [Option.map_eq_some_iff] at hqp
      obtain ⟨x, hx, rfl⟩ := hqp
      exact ⟨q, hq, rfl, hx⟩) (fun e he => by rw [(List.mem_replicate.1 he).2]) (by simp) (replicate_one hsc hr len len (Nat.le_refl _)) (replicate_rel hr hp len len (Nat.le_refl _)) hes
  rw [List.length_replicate] at b2 b3 b0
  let w1 : World := { w with heap := w.heap.push (.cells as e (0, 0)) }
  obtain ⟨q1, q2⟩ := row_new (w' := w1) hs rfl ⟨rfl, rfl, rfl⟩ (fits_none _) hp b1 (by rw [b2, b3]; exact Nat.le_refl _) (fun i j hi hj => b0 i j (by omega) hj) b4
  have hrel := new_rel (w' := w1) (z := z.length) (len := len) (cap := len) hs rfl (Nat.le_refl _) (by rw [b3])
  refine ⟨_, w1, _, _, .inl ?_, hrel, q1, q2⟩
  have hlim' : ¬ (len * z.length > 2 ^ 24) := by omega
  have hmap : (parts.map fun x => (x.1, a.eval x.2)).toList = parts.toList.map fun q => (q.1, a.eval q.2) := by simp
  simp only [execOp, Instr.buildSlice, Sem.run_bind, run_underlying hu, Result.andThen_ok, run_sizeOf hsz]
  rw [if_neg hlim']
  by_cases hz0 : len * z.length = 0
  · have hr0 : (Array.range (len * z.length)).map (zc.cells[· % zc.cells.size]!) = (Array.range (len * z.length)).map ((#[] : Array Value)[· % (#[] : Array Value).size]!) := by rw [hz0]; simp
    rw [hr0] at has
    simp only [hz0, if_true, Sem.run_bind, Sem.run_pure, Result.andThen_ok] at has ⊢
    rw [hmap, has]
    simp only [newRow, Sem.run_bind, run_newObj, Result.andThen_ok, Sem.run_pure]
    rfl
  · rw [if_neg hz0]
    simp only [Sem.run_bind, hzc, Sem.run_pure, Result.andThen_ok]
    rw [hmap, has]
    simp only [newRow, Sem.run_bind, run_newObj, Result.andThen_ok, Sem.run_pure]
    rfl
end
end Go.Proofs.YtmkgmjdbgjiehaaDoor.Ab
namespace Go.Proofs.YtmkgmjdbgjiehaaDoor.Ab
open Go.RowKit
set_option linter.unusedVariables false
set_option linter.unusedSimpArgs false
section
variable {P : Program} {φ : Phi} {I : Nat → Prop} {σ : St} {w w' : World} {nt : Nat} {env : Env} {a : Act}
theorem run_storeCells {g : Nat} {t : TypeId} {fz : Nat × Nat} : ∀ (vs : List Value) (o i : Nat) (arr : Array Value) (w : World), w.heap[g]? = some (.cells arr t fz) → fits arr fz → o + i + vs.length ≤ arr.size → (∀ v ∈ vs, v.oneCell' = true) →
    ∃ w' arr', (storeCells ⟨g, o, none⟩ vs i).run P w = .ok () w' ∧ w'.heap[g]? = some (.cells arr' t fz) ∧ arr'.size = arr.size ∧ w'.heap.size = w.heap.size ∧ (∀ k, k ≠ g → w'.heap[k]? = w.heap[k]?) ∧ Same w w' ∧
      ∀ k, arr'.getD k undef = if o + i ≤ k ∧ k < o + i + vs.length then vs.getD (k - (o + i)) undef else arr.getD k undef
  | [], o, i, arr, w, hh, _, _, _ => ⟨w, arr, rfl, hh, rfl, rfl, fun _ _ => rfl, Same.refl w, fun k => by simp; intro h1 h2; omega⟩
  | v :: vs, o, i, arr, w, hh, hfz, hsz, hv => by
    simp only [List.length_cons] at hsz
    have hcell : w.cell? ⟨g, o + i, none⟩ = some (arr[o + i]'(by omega)) := by simp [World.cell?, hh, show o + i < arr.size by omega]
    have hfr : w.frozen? ⟨g, o + i, none⟩ = false := by
      have := hfz.not (o := o + i) (by omega)
      simp only [World.frozen?, hh, Bool.and_eq_false_iff, decide_eq_false_iff_not]
      omega
    have hst : (store ⟨g, o + i, none⟩ v).run P w = .ok () (w.setCell ⟨g, o + i, none⟩ v) := by
      rw [run_store P w _ v _ (hv v (by simp))]
      simp [hcell, hfr]
    have hh' : (w.setCell ⟨g, o + i, none⟩ v).heap[g]? = some (.cells (arr.setIfInBounds (o + i) v) t fz) := by
      simp [World.setCell, Array.getElem?_modify, hh]
    obtain ⟨w', arr', h1, h2, h3, h4, h5, h6, h7⟩ := run_storeCells vs o (i + 1) (arr.setIfInBounds (o + i) v) (w.setCell ⟨g, o + i, none⟩ v) hh' (hfz.size (by simp)) (by simp; omega) (fun u hu => hv u (by simp [hu]))
    refine ⟨w', arr', ?_, h2, by simpa using h3, by simpa using h4, fun k hk => ?_, ⟨h6.os, h6.tape, h6.output⟩, fun k => ?_⟩
    · rw [storeCells, Sem.run_bind, Addr.add_lit, hst]
      exact h1
    · rw [h5 k hk]
      simp only [World.setCell, Array.getElem?_modify]
      rw [if_neg (Ne.symm hk)]
    · rw [h7 k]
      by_cases ha : k = o + i
      · subst ha
        rw [if_neg (by omega), if_pos (by simp), Nat.sub_self]
        simp [show o + i < arr.size by omega]
      · by_cases hb : o + (i + 1) ≤ k ∧ k < o + (i + 1) + vs.length
        · rw [if_pos hb, if_pos (by simp; omega), show k - (o + i) = (k - (o + (i + 1))) + 1 by omega]
          simp
        · rw [if_neg hb, if_neg (by simp; omega)]
          simp [Array.getElem?_setIfInBounds, Ne.symm ha]
theorem rel_turn (hs : Sim φ I σ w) {l : Nat} {x : Nat × Nat × Nat} (hl : (σ.H l).isSome = true) (hx : φ l = some x) (hoth : ∀ k, k ≠ x.1 → w'.heap[k]? = w.heap[k]?) (hN : cellsOf w' x.1 = cellsOf w x.1)
    {φ' : Phi} (hφ : ∀ l y, φ l = some y → φ' l = some y) {v : V} {c : Value} (h : Rel φ I w v c) : Rel φ' I w' v c :=
  h.mono hφ (fun _ h => h) (fun b hb => hoth b (fun e => hs.notI _ ⟨l, x, hl, hx, rfl⟩ (e ▸ hb))) (fun l' y hy => by
    by_cases e : y.1 = x.1
    · rw [e]; exact hN
    · unfold cellsOf; rw [hoth _ e])
theorem acts_st {o : Oper} {t : TypeId} {n : Nat} {x y : Operand} {x' y' : Opd} {v : V} {σ' : St} (ho : o.op = .store t x y) (hn : sizeD P t = some n)
    (hs : Sim φ I σ w) (hf : EnvR φ I w nt env a) (hx : cOpd nt x = some x') (hy : cOpd nt y = some y') (he : evI env σ (.st n x' y') = some (v, σ')) : Acts P φ I σ w a o v σ' := by
  have h1 := cOpd_rel hf hx
  have h2 := cOpd_rel hf hy
  obtain ⟨dst, op', ty, pos, after, guard⟩ := o
  simp only at ho; subst ho
  simp only [evI] at he
  split at he <;> (try (simp only [reduceCtorEq] at he; done))
  rename_i l i j e1
  rw [e1] at h1
  split at he <;> (try (simp only [reduceCtorEq] at he; done))
  rename_i z es hH
  simp only [Option.bind_eq_some_iff] at he
  obtain ⟨e, hi, he⟩ := he
  split at he <;> simp only [Option.some.injEq, Prod.mk.injEq, reduceCtorEq] at he
  rename_i hc
  obtain ⟨hc1, hc2, hc3⟩ := hc
  obtain ⟨rfl, rfl⟩ := he
  generalize hq : a.eval x = q at h1
  cases h1 with
  | ptr i j hφ =>
    rename_i b base z'
    obtain ⟨b', base', arr, t', fz, q1, hh, hfz, hpos, hz, hsz, ho1, hr⟩ := hs.row hH
    rw [hφ] at q1
    simp only [Option.some.injEq, Prod.mk.injEq] at q1
    obtain ⟨rfl, rfl, rfl⟩ := q1
    have hcs := h2.cells hc3
    have hil := (List.getElem?_eq_some_iff.1 hi).1
    have hel := hz e (List.mem_of_getElem? hi)
    have hlt : base + i * z' + j + n ≤ arr.size := by
      have : (i + 1) * z' ≤ es.length * z' := Nat.mul_le_mul_right z' hil
      rw [Nat.add_mul] at this
      omega
    obtain ⟨w1, arr', r1, r2, r3, r4, r5, r6, r7⟩ := run_storeCells (P := P) (a.eval y).cells.toList (base + i * z' + j) 0 arr w hh hfz (by rw [Array.length_toList, hcs.1, hc1]; omega) (all_scal hc3 hcs)
    have hlv : (σ.H l).isSome = true := by rw [hH]; rfl
    have hN : cellsOf w1 b = cellsOf w b := by simp [cellsOf, r2, hh, r3]
    have hlen : (setAt e j (y'.ev env).cells).length = z' := by rw [setAt_length (by omega), hel]
    have hblk : BlkRel φ I w1 (.row z' (es.set i (setAt e j (y'.ev env).cells))) (b, base, z') := by
      refine .row r2 (hfz.size (by omega)) hpos (fun e' he' => ?_) (by rw [List.length_set]; omega) (fun i' j' hi' hj' => ?_) (fun i' j' e' u hi' hj' => ?_)
      · rcases List.mem_or_eq_of_mem_set he' with h | h
        · exact hz _ h
        · rw [h]; exact hlen
      · rw [List.length_set] at hi'
        rw [r7]
        split
        · rename_i hh1
          have hk : base + i' * z' + j' - (base + i * z' + j + 0) < (a.eval y).cells.size := by rw [Array.length_toList] at hh1; omega
          have := getD_one (all_scal hc3 hcs) hk
          simpa using this
        · exact ho1 i' j' hi' hj'
      · have kp : ∀ {v : V} {c : Value}, Rel φ I w v c → Rel φ I w1 v c := fun h => rel_turn hs hlv hφ r5 hN (fun _ _ h => h) h
        rw [r7]
        rw [List.getElem?_set] at hi'
        rw [Array.length_toList, hcs.1, hc1, Nat.add_zero]
        split at hi'
        · rename_i hii
          subst hii
          simp only [hil, if_true, Option.some.injEq] at hi'
          subst hi'
          rw [setAt_get (by omega)] at hj'
          rw [hc1] at hj'
          split at hj'
          · rename_i hjj
            rw [if_pos (by omega), show base + i * z' + j' - (base + i * z' + j) = j' - j by omega]
            have := hcs.2 _ _ hj'
            refine kp ?_
            simpa using this
          · rename_i hjj
            rw [if_neg (by omega)]
            exact kp (hr _ _ _ _ hi hj')
        · rename_i hii
          have hil' := (List.getElem?_eq_some_iff.1 hi').1
          have hel' := hz e' (List.mem_of_getElem? hi')
          have hjl' := (List.getElem?_eq_some_iff.1 hj').1
          rw [if_neg]
          · exact kp (hr _ _ _ _ hi' hj')
          · intro ⟨hh1, hh2⟩
            rcases Nat.lt_or_gt_of_ne hii with hlt' | hlt'
            · have : (i + 1) * z' ≤ i' * z' := Nat.mul_le_mul_right z' hlt'
              rw [Nat.add_mul] at this; omega
            · have : (i' + 1) * z' ≤ i * z' := Nat.mul_le_mul_right z' hlt'
              rw [Nat.add_mul] at this; omega
    obtain ⟨s1, s2⟩ := sim_turn hs hlv hφ r5 r4 hN r6 hblk (.cells hh r5)
    refine ⟨undef, w1, φ, I, .inr ⟨?_, rfl⟩, .tup rfl (fun i v h => by simp at h), s1, s2⟩
    have hcz : ¬ ((a.eval y).cells.size ≠ n) := by rw [hcs.1, hc1]; simp
    simp only [execOp, Instr.storeAt, hq, Instr.sureAddr, storeVar, Sem.run_bind, Sem.run_pure, Result.andThen_ok, run_sizeOf hn, hcz, if_false, r1]
end
end Go.Proofs.YtmkgmjdbgjiehaaDoor.Ab
