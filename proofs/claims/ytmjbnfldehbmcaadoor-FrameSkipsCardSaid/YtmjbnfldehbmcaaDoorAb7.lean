/-
The walk over the program's texts, told with what its values say: a part of it. No further condition.
-/
import Derived.Test.YtmjbnfldehbmcaaDoorAb6
namespace Go.Proofs.YtmjbnfldehbmcaaDoor.Ab
open Go.RowKit
set_option linter.unusedVariables false
set_option linter.unusedSimpArgs false
section
variable {P : Program} {φ : Phi} {I : Nat → Prop} {σ : St} {w : World} {nt : Nat} {env : Env} {a : Act}
theorem cOpdO_bound (hf : EnvR φ I w nt env a) {x : Option Operand} {x' : Option Opd} (h : cOpdO nt x = some x') {d n : Nat} (hb : bound env d x' = some n) :
    (x = none ∧ n = d) ∨ (∃ y k, x = some y ∧ a.eval y = .int k n) := by
  cases x with
  | none =>
    simp only [cOpdO, Option.some.injEq] at h; subst h
    simp only [bound, Option.some.injEq] at hb
    exact .inl ⟨rfl, hb.symm⟩
  | some y =>
    simp only [cOpdO, Option.map_eq_some_iff] at h
    obtain ⟨y', hy, rfl⟩ := h
    have h := cOpd_rel hf hy
    simp only [bound] at hb
    split at hb
    · rename_i k m e
      rw [e] at h
      split at hb
      · rename_i h0
        simp only [Option.some.injEq] at hb
        refine .inr ⟨y, k, rfl, ?_⟩
        rw [h.int_inv]
        congr 1
        omega
      · simp at hb
    · simp at hb
theorem run_bound {k : IntKind} {n m : Nat} (h : n ≤ m) (code : BoundsCode) : (Instr.sliceBound (.int k n) m code).run P w = .ok n w := by
  have h1 : (0 : Int) ≤ n ∧ (n : Int) ≤ m := by omega
  simp [Instr.sliceBound, asIntOf, h1]
theorem run_bounds (hf : EnvR φ I w nt env a) {lo hi : Option Operand} {lo' hi' : Option Opd} (h1 : cOpdO nt lo = some lo') (h2 : cOpdO nt hi = some hi') {len cap l h : Nat} (hl : bound env 0 lo' = some l)
    (hh : bound env len hi' = some h) (hlh : l ≤ h) (hhc : h ≤ cap) (isS : Bool) : (Instr.sliceBounds isS len cap (lo.map a.eval) (hi.map a.eval) none).run P w = .ok (l, h, cap) w := by
  rcases cOpdO_bound hf h1 hl with ⟨rfl, rfl⟩ | ⟨x, k, rfl, hx⟩ <;> rcases cOpdO_bound hf h2 hh with ⟨rfl, rfl⟩ | ⟨y, k', rfl, hy⟩
  · simp [Instr.sliceBounds]
  · simp [Instr.sliceBounds, hy, run_bound hhc]
  · simp [Instr.sliceBounds, hx, run_bound hlh]
  · simp [Instr.sliceBounds, hx, hy, run_bound hlh, run_bound hhc]
theorem extract_list (s : ByteArray) (l h : Nat) : (s.extract l h).data.toList = (s.data.toList.take h).drop l := by
  rw [ByteArray.data_extract, Array.toList_extract, List.extract_eq_take_drop, List.drop_take]
theorem quiet_ssl {o : Oper} {t : TypeId} {x : Operand} {x' : Opd} {lo hi : Option Operand} {lo' hi' : Option Opd} {v : V} (ho : o.op = .slice t x lo hi none) (hu : P.underlying t = some .string)
    (hf : EnvR φ I w nt env a) (hx : cOpd nt x = some x') (h1 : cOpdO nt lo = some lo') (h2 : cOpdO nt hi = some hi') {σ' : St} (he : evI env σ (.ssl x' lo' hi') = some (v, σ')) : σ' = σ ∧ Quiet P φ I w a o v := by
  have h := cOpd_rel hf hx
  obtain ⟨dst, op', ty, pos, after, guard⟩ := o
  simp only at ho; subst ho
  simp only [evI] at he
  split at he <;> (try (simp only [reduceCtorEq] at he; done))
  rename_i s e
  rw [e] at h
  obtain ⟨b, hb, rfl⟩ := h.str_inv
  simp only [Option.bind_eq_some_iff] at he
  obtain ⟨hn, hh, l, hl, he⟩ := he
  split at he
  · rename_i hle
    simp only [Option.some.injEq, Prod.mk.injEq] at he
    obtain ⟨rfl, rfl⟩ := he
    have hsz : b.data.toList.length = b.size := by simp
    rw [hsz] at hh hle
    have hr := run_bounds (P := P) hf h1 h2 hl hh hle.1 hle.2 false
    refine ⟨rfl, .string (b.extract l hn), ?_, .str (extract_list b l hn)⟩
    simp [execOp, Instr.sliceAt, Instr.slice, run_underlying hu, hb, hr]
  · simp at he
theorem quiet_lsl {o : Oper} {t ty' : TypeId} {z : Nat} {x : Operand} {x' : Opd} {lo hi : Option Operand} {lo' hi' : Option Opd} {v : V} (ho : o.op = .slice t x lo hi none) (hu : P.underlying t = some (.slice ty')) (hz : sizeD P ty' = some z) (hzp : 0 < z)
    (hs : Sim φ I σ w) (hf : EnvR φ I w nt env a) (hx : cOpd nt x = some x') (h1 : cOpdO nt lo = some lo') (h2 : cOpdO nt hi = some hi') {σ' : St} (he : evI env σ (.lsl z x' lo' hi') = some (v, σ')) : σ' = σ ∧ Quiet P φ I w a o v := by
  have h := cOpd_rel hf hx
  obtain ⟨dst, op', ty, pos, after, guard⟩ := o
  simp only at ho; subst ho
  have key : ∀ (p : Option Addr) (len cap l hn : Nat), a.eval x = .slice p len cap → bound env 0 lo' = some l → bound env len hi' = some hn → l ≤ hn → hn ≤ cap →
      (execOp a.eval ⟨dst, .slice t x lo hi none, ty, pos, after, guard⟩).run P w = .ok (.value (.slice (if cap = l then p else p.map (·.add (l * z))) (hn - l) (cap - l))) w := fun p len cap l hn hq hl hh hlh hhc => by
    have hr := run_bounds (P := P) hf h1 h2 hl hh hlh hhc true
    simp [execOp, Instr.sliceAt, Instr.slice, run_underlying hu, hq, hr, run_sizeOf hz]
  simp only [evI] at he
  split at he
  · rename_i e
    rw [e] at h
    simp only [Option.bind_eq_some_iff] at he
    obtain ⟨hn, hh, l, hl, he⟩ := he
    split at he
    · rename_i hc
      obtain ⟨rfl, rfl⟩ := hc
      simp only [Option.some.injEq, Prod.mk.injEq] at he
      obtain ⟨rfl, rfl⟩ := he
      generalize hq : a.eval x = q at h
      cases h
      exact ⟨rfl, _, key _ _ _ _ _ hq hl hh (Nat.le_refl _) (Nat.le_refl _), .nils⟩
    · simp at he
  · rename_i z' es e
    rw [e] at h
    simp only [Option.bind_eq_some_iff] at he
    obtain ⟨hn, hh, l, hl, he⟩ := he
    split at he
    · rename_i hc
      obtain ⟨rfl, hlh, hhl⟩ := hc
      simp only [Option.some.injEq, Prod.mk.injEq] at he
      obtain ⟨rfl, rfl⟩ := he
      generalize hq : a.eval x = q at h
      cases h with
      | islc hcap ha hzz hc ho hp hr =>
        rename_i b o' cap ad cs
        have hlen : ((es.take hn).drop l).length = hn - l := by simp; omega
        refine ⟨rfl, _, key _ _ _ _ _ hq hl hh hlh (by omega), ?_⟩
        rw [← hlen]
        have hrel : ∀ ad', (((es.take hn).drop l) ≠ [] → ad' = ⟨b, o' + l * z', none⟩ ∧ I b) → Rel φ I w (.islc z' ((es.take hn).drop l)) (.slice (some ad') ((es.take hn).drop l).length (cap - l)) := fun ad' hne =>
          .islc (b := b) (o := o' + l * z') (cs := fun i j => cs (l + i) j) (by omega) hne (fun e' he' => hzz e' (List.mem_of_mem_take (List.mem_of_mem_drop he')))
            (fun i j hi hj => by rw [show o' + l * z' + i * z' + j = o' + (l + i) * z' + j by rw [Nat.add_mul]; omega]; exact hc (l + i) j (by omega) hj)
            (fun i j hi hj => ho (l + i) j (by omega) hj)
            (List.all_eq_true.2 fun e' he' => List.all_eq_true.1 hp e' (List.mem_of_mem_take (List.mem_of_mem_drop he')))
            (fun i j e' u h1 h2 => by
              simp only [List.getElem?_drop, List.getElem?_take] at h1
              split at h1
              · exact hr _ _ _ _ h1 h2
              · simp at h1)
        have hI : ((es.take hn).drop l) ≠ [] → es ≠ [] := fun hne e0 => hne (by simp [e0])
        by_cases hcl : cap = l
        · rw [if_pos hcl]
          refine hrel _ (fun hne => absurd (show (es.take hn).drop l = [] from List.length_eq_zero_iff.1 (by omega)) hne)
        · rw [if_neg hcl]
          refine hrel _ (fun hne => ?_)
          obtain ⟨rfl, hI'⟩ := ha (hI hne)
          exact ⟨Addr.add_lit _ _ _, hI'⟩
    · simp at he
  · rename_i p off len e
    rw [e] at h
    simp only [Option.bind_eq_some_iff] at he
    obtain ⟨hn, hh, l, hl, he⟩ := he
    split at he
    · rename_i z' es hH
      split at he
      · rename_i hc
        obtain ⟨rfl, hlh, hhl⟩ := hc
        simp only [Option.some.injEq, Prod.mk.injEq] at he
        obtain ⟨rfl, rfl⟩ := he
        generalize hq : a.eval x = q at h
        cases h with
        | slc hφ hlc hN ha =>
          rename_i b base z cap ad
          obtain ⟨b', base', arr, t', fz, e1, hhp, hfz, hpos, hzz, hsz, _, hr⟩ := hs.row hH
          rw [hφ] at e1
          simp only [Option.some.injEq, Prod.mk.injEq] at e1
          obtain ⟨rfl, rfl, rfl⟩ := e1
          have hcell : cellsOf w b = arr.size := by simp [cellsOf, hhp]
          have hcap : off + hn ≤ off + cap := by
            have h5 : es.length * z ≤ (off + cap) * z := by omega
            have h6 := Nat.le_of_mul_le_mul_right h5 hpos
            omega
          refine ⟨rfl, _, key _ _ _ _ _ hq hl hh hlh (by omega), ?_⟩
          have hN' : base + (off + l + (cap - l)) * z = cellsOf w b := by rw [← hN]; congr 2; omega
          by_cases hcl : cap = l
          · rw [if_pos hcl]
            exact .slc hφ (by omega) hN' (fun hne => absurd (by omega) hne)
          · rw [if_neg hcl]
            refine .slc hφ (by omega) hN' (fun hne => ?_)
            rw [ha (by omega)]
            show Addr.add _ _ = _
            rw [Addr.add_lit, Nat.add_mul, Nat.add_assoc]
      · simp at he
    · simp at he
  · simp at he
theorem quiet_ia {o : Oper} {t ty' : TypeId} {z : Nat} {x y : Operand} {x' y' : Opd} {v : V} (ho : o.op = .indexAddr t x y) (hu : P.underlying t = some (.slice ty')) (hz : sizeD P ty' = some z)
    (hs : Sim φ I σ w) (hf : EnvR φ I w nt env a) (hx : cOpd nt x = some x') (hy : cOpd nt y = some y') {σ' : St} (he : evI env σ (.ia z x' y') = some (v, σ')) : σ' = σ ∧ Quiet P φ I w a o v := by
  have h1 := cOpd_rel hf hx
  have h2 := cOpd_rel hf hy
  obtain ⟨dst, op', ty, pos, after, guard⟩ := o
  simp only at ho; subst ho
  simp only [evI] at he
  split at he <;> (try (simp only [reduceCtorEq] at he; done))
  rename_i kk k e2
  rw [e2] at h2
  have h2 := h2.int_inv
  split at he <;> (try (simp only [reduceCtorEq] at he; done))
  rename_i h0
  have key : ∀ (ad : Addr) (len cap : Nat), a.eval x = .slice (some ad) len cap → k.toNat < len → (execOp a.eval ⟨dst, .indexAddr t x y, ty, pos, after, guard⟩).run P w = .ok (.value (.pointer (some (ad.add (k.toNat * z))))) w := fun ad len cap hq hlt => by
    have hk : 0 ≤ k ∧ k < (len : Int) := by omega
    simp [execOp, Instr.indexAt, h2, asIntOf, run_underlying hu, hq, hk, run_sizeOf hz]
  split at he
  · rename_i z' es e1
    rw [e1] at h1
    split at he
    · rename_i hz'; subst hz'
      simp only [Option.map_eq_some_iff, Prod.mk.injEq] at he
      obtain ⟨e, hi, rfl, rfl⟩ := he
      generalize hq : a.eval x = q at h1
      cases h1 with
      | islc hcap ha hzz hc ho hp hr =>
        rename_i b o' cap ad cs
        have hlt := (List.getElem?_eq_some_iff.1 hi).1
        obtain ⟨rfl, hI⟩ := ha (fun e0 => by simp [e0] at hlt)
        refine ⟨rfl, _, key _ _ _ hq hlt, ?_⟩
        rw [Addr.add_lit]
        have hel := hzz e (List.mem_of_getElem? hi)
        exact .iptr (o := o' + k.toNat * z') (cs := cs k.toNat) 0 hI (fun j hj => hc _ _ hlt (by omega)) (fun j hj => ho _ _ hlt (by omega)) (List.all_eq_true.1 hp e (List.mem_of_getElem? hi)) (fun j u hu => hr _ _ _ _ hi hu)
    · simp at he
  · rename_i l off len e1
    rw [e1] at h1
    split at he
    · rename_i z' es hH
      split at he
      · rename_i hc
        obtain ⟨rfl, hlt⟩ := hc
        simp only [Option.some.injEq, Prod.mk.injEq] at he
        obtain ⟨rfl, rfl⟩ := he
        generalize hq : a.eval x = q at h1
        cases h1 with
        | slc hφ hlc hN ha =>
          rename_i b base z cap ad
          obtain ⟨b', base', arr, t', fz, e1, hhp, hfz, hpos, hzz, hsz, _, hr⟩ := hs.row hH
          rw [hφ] at e1
          simp only [Option.some.injEq, Prod.mk.injEq] at e1
          obtain ⟨rfl, rfl, rfl⟩ := e1
          refine ⟨rfl, _, key _ _ _ hq hlt, ?_⟩
          rw [ha (by omega), Addr.add_lit, show base + off * z + k.toNat * z = base + (off + k.toNat) * z + 0 by rw [Nat.add_mul]; omega]
          exact .ptr _ _ hφ
      · simp at he
    · simp at he
  · simp at he
theorem quiet_aa {o : Oper} {t ty' : TypeId} {n z : Nat} {x y : Operand} {x' y' : Opd} {v : V} (ho : o.op = .indexAddr t x y) (hu : P.underlying t = some (.array n ty')) (hz : sizeD P ty' = some z)
    (hf : EnvR φ I w nt env a) (hx : cOpd nt x = some x') (hy : cOpd nt y = some y') {σ' : St} (he : evI env σ (.aa n z x' y') = some (v, σ')) : σ' = σ ∧ Quiet P φ I w a o v := by
  have h1 := cOpd_rel hf hx
  have h2 := cOpd_rel hf hy
  obtain ⟨dst, op', ty, pos, after, guard⟩ := o
  simp only at ho; subst ho
  simp only [evI] at he
  split at he <;> (try (simp only [reduceCtorEq] at he; done))
  rename_i kk k e2
  rw [e2] at h2
  have h2 := h2.int_inv
  split at he <;> (try (simp only [reduceCtorEq] at he; done))
  rename_i h0
  have key : ∀ (ad : Addr), a.eval x = .pointer (some ad) → (execOp a.eval ⟨dst, .indexAddr t x y, ty, pos, after, guard⟩).run P w = .ok (.value (.pointer (some (ad.add (k.toNat * z))))) w := fun ad hq => by
    simp [execOp, Instr.indexAt, h2, asIntOf, run_underlying hu, hq, h0, run_sizeOf hz, Instr.sureAddr]
  split at he <;> simp only [Option.some.injEq, Prod.mk.injEq, reduceCtorEq] at he <;> obtain ⟨rfl, rfl⟩ := he <;> rename_i e1 <;> rw [e1] at h1 <;> generalize hq : a.eval x = q at h1
  · cases h1 with
    | ptr i j hφ => exact ⟨rfl, _, key _ hq, by rw [Addr.add_lit, Nat.add_assoc]; exact .ptr _ _ hφ⟩
  · cases h1 with
    | iptr j hI hc ho hp hr => exact ⟨rfl, _, key _ hq, by rw [Addr.add_lit, Nat.add_assoc]; exact .iptr _ hI hc ho hp hr⟩
theorem quiet_tas {o : Oper} {t s : TypeId} {d : TypeDesc} {ok : Bool} {z : V} {x : Operand} {x' : Opd} {v : V} (ho : o.op = .typeAssert x s t ok) (hu : P.underlying t = some d) (hd : ∀ ms, d ≠ .interface ms) (hz : zeroV P t = some z)
    (hf : EnvR φ I w nt env a) (hx : cOpd nt x = some x') {σ' : St} (he : evI env σ (.tas t z ok x') = some (v, σ')) : σ' = σ ∧ Quiet P φ I w a o v := by
  have h := cOpd_rel hf hx
  obtain ⟨dst, op', ty, pos, after, guard⟩ := o
  simp only at ho; subst ho
  have hzr : ∃ c, (zeroValue t).run P w = .ok c w ∧ Rel φ I w z c := by
    simp only [zeroV, Option.bind_eq_some_iff] at hz
    obtain ⟨i, hi, c, hc, hv⟩ := hz
    exact ⟨c, by simp [zeroValue, typeInfo, hi, hc], toV_rel _ _ _ hv⟩
  obtain ⟨zc, hzc, hzr⟩ := hzr
  have tup2 : ∀ (v : V) (c : Value) (b : Bool), Rel φ I w v c → Rel φ I w (.tup [v, .bool b]) (.tuple #[c, .bool b]) := fun v c b hr =>
    .tup rfl (fun i u hu => by
      match i with
      | 0 => simp at hu; subst hu; exact hr
      | 1 => simp at hu; subst hu; exact .bool _
      | i + 2 => simp at hu)
  have hu' : ∀ {α : Type} (f : TypeDesc → Sem α), (underlying t >>= f).run P w = (f d).run P w := fun f => by rw [Sem.run_bind, run_underlying hu]; rfl
  simp only [evI] at he
  split at he
  · rename_i t' v' e
    rw [e] at h
    generalize hq : a.eval x = q at h
    cases h with
    | iface _ hr =>
      rename_i c
      split at he
      · rename_i htt; subst htt
        simp only [Option.some.injEq, Prod.mk.injEq] at he
        obtain ⟨rfl, rfl⟩ := he
        cases ok
        · refine ⟨rfl, c, ?_, by simpa using hr⟩
          simp only [execOp, Instr.typeAssert, hq, Sem.run_bind, run_underlying hu, Result.andThen_ok]
          cases d <;> first | exact absurd rfl (hd _) | simp
        · refine ⟨rfl, .tuple #[c, .bool true], ?_, by simpa using tup2 _ _ _ hr⟩
          simp only [execOp, Instr.typeAssert, hq, Sem.run_bind, run_underlying hu, Result.andThen_ok]
          cases d <;> first | exact absurd rfl (hd _) | simp
      · rename_i htt
        split at he
        · rename_i hok
          simp only [Option.some.injEq, Prod.mk.injEq] at he
          obtain ⟨rfl, rfl⟩ := he
          refine ⟨rfl, .tuple #[zc, .bool false], ?_, tup2 _ _ _ hzr⟩
          simp only [execOp, Instr.typeAssert, hq, Sem.run_bind, run_underlying hu, Result.andThen_ok]
          cases d <;> first | exact absurd rfl (hd _) | simp [htt, hok, hzc]
        · simp at he
  · rename_i e
    rw [e] at h
    generalize hq : a.eval x = q at h
    cases h
    split at he
    · rename_i hok
      simp only [Option.some.injEq, Prod.mk.injEq] at he
      obtain ⟨rfl, rfl⟩ := he
      refine ⟨rfl, .tuple #[zc, .bool false], ?_, tup2 _ _ _ hzr⟩
      simp only [execOp, Instr.typeAssert, hq, Sem.run_bind, run_underlying hu, Result.andThen_ok]
      cases d <;> first | exact absurd rfl (hd _) | simp [hok, hzc]
    · simp at he
  · simp at he
end
end Go.Proofs.YtmjbnfldehbmcaaDoor.Ab
