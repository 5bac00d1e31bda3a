/-
The walk over the program's texts, told with what its values say: a part of it. No further condition.
-/
import Derived.Test.YtmjbnfldehbmcaaDoorAb7
namespace Go.Proofs.YtmjbnfldehbmcaaDoor.Ab
open Go.RowKit
set_option linter.unusedVariables false
set_option linter.unusedSimpArgs false
section
variable {P : Program} {φ : Phi} {I : Nat → Prop} {σ : St} {w : World} {nt : Nat} {env : Env} {a : Act}
theorem mm_run (isMax : Bool) {x y : V} {X Y : Value} (hx : Rel φ I w x X) (hy : Rel φ I w y Y) {r : V} (h : mmV isMax x y = some r) :
    ∃ R, ((if isMax then Builtin.max2 X Y else Builtin.min2 X Y)).run P w = .ok R w ∧ Rel φ I w r R := by
  unfold mmV at h
  split at h
  · rename_i k a k' b
    have hx := hx.int_inv
    have hy := hy.int_inv
    subst hx; subst hy
    split at h
    · rename_i hk; subst hk
      simp only [Option.some.injEq] at h
      subst h
      cases isMax
      · exact ⟨.int k (if b < a then b else a), by simp [Builtin.min2], by simpa using Rel.int _ _⟩
      · exact ⟨.int k (if b > a then b else a), by simp [Builtin.max2], by simpa using Rel.int _ _⟩
    · simp at h
  · simp at h
theorem mm_list (isMax : Bool) : ∀ (ys : List V) (Ys : List Value) (x : V) (X : Value), Rel φ I w x X → ys.length = Ys.length → (∀ i v, ys[i]? = some v → Rel φ I w v (Ys.getD i undef)) → ∀ r, mmL isMax x ys = some r →
    ∃ R, (Ys.foldlM (if isMax then Builtin.max2 else Builtin.min2) X).run P w = .ok R w ∧ Rel φ I w r R
  | [], [], x, X, hx, _, _, r, h => by simp only [mmL, Option.some.injEq] at h; subst h; exact ⟨X, by simp, hx⟩
  | y :: ys, Y :: Ys, x, X, hx, hl, hr, r, h => by
    simp only [mmL, Option.bind_eq_some_iff] at h
    obtain ⟨m, hm, h⟩ := h
    obtain ⟨M, hM, hrM⟩ := mm_run (P := P) isMax hx (by simpa using hr 0 y rfl) hm
    obtain ⟨R, hR, hrR⟩ := mm_list isMax ys Ys m M hrM (by simpa using hl) (fun i v hv => by simpa using hr (i + 1) v (by simpa using hv)) r h
    refine ⟨R, ?_, hrR⟩
    rw [List.foldlM_cons, Sem.run_bind]
    cases isMax <;> simp_all
theorem quiet_mm {o : Oper} {c : Call} {isMax : Bool} {xs' : List Opd} {v : V} (ho : o.op = .call c) (hc : c.callee = .builtin (if isMax then .max else .min)) (ha : cOpds nt c.args.toList = some xs')
    (hf : EnvR φ I w nt env a) {σ' : St} (he : evI env σ (.mm isMax xs') = some (v, σ')) : σ' = σ ∧ Quiet P φ I w a o v := by
  obtain ⟨dst, op', ty, pos, after, guard⟩ := o
  simp only at ho; subst ho
  obtain ⟨cal, args, ts⟩ := c
  simp only at hc ha; subst hc
  obtain ⟨h1, h2⟩ := rels_map hf ha
  simp only [evI] at he
  split at he
  · rename_i v0 vs hxs
    simp only [Option.map_eq_some_iff, Prod.mk.injEq] at he
    obtain ⟨r, hr, rfl, rfl⟩ := he
    rw [hxs] at h1 h2
    obtain ⟨X, Xs, hX⟩ : ∃ X Xs, (args.map a.eval).toList = X :: Xs := by
      cases h : (args.map a.eval).toList with
      | nil =>
        have h3 : (args.map a.eval).size = 0 := by rw [← Array.length_toList, h]; rfl
        rw [h1] at h3
        simp at h3
      | cons X Xs => exact ⟨X, Xs, rfl⟩
    have hg : ∀ i, (args.map a.eval).getD i undef = (X :: Xs).getD i undef := fun i => by rw [← hX]; simp
    have hlen : vs.length = Xs.length := by
      have h3 : (X :: Xs).length = (args.map a.eval).size := by rw [← hX, Array.length_toList]
      rw [h1] at h3
      simpa using h3.symm
    obtain ⟨R, hR, hrR⟩ := mm_list (P := P) (φ := φ) (I := I) (w := w) isMax vs Xs v0 X (by have := h2 0 v0 rfl; rw [hg] at this; simpa using this)
      hlen (fun i u hu => by have := h2 (i + 1) u (by simpa using hu); rw [hg] at this; simpa using this) r hr
    refine ⟨rfl, R, ?_, hrR⟩
    cases isMax
    · simp only [Bool.false_eq_true, if_false] at hR ⊢
      simp only [execOp, resolve, Sem.run_bind, Sem.run_pure, Result.andThen_ok, invoke, builtin, Builtin.min_, hX, hR]
    · simp only [if_true] at hR ⊢
      simp only [execOp, resolve, Sem.run_bind, Sem.run_pure, Result.andThen_ok, invoke, builtin, Builtin.max_, hX, hR]
  · simp at he
/-! Structs, compared. -/
abbrev RelA (φ : Phi) (I : Nat → Prop) (w : World) (vs : List V) (cs : Array Value) : Prop := cs.size = vs.length ∧ ∀ i v, vs[i]? = some v → Rel φ I w v (cs.getD i undef)
theorem eqCells_split : ∀ (k1 k2 : List CK) (x y : List V) (r : Bool), eqCells (k1 ++ k2) x y = some r →
    ∃ r1 r2, eqCells k1 (x.take k1.length) (y.take k1.length) = some r1 ∧ eqCells k2 (x.drop k1.length) (y.drop k1.length) = some r2 ∧ r = (r1 && r2)
  | [], k2, x, y, r, h => ⟨true, r, by simp [eqCells], by simpa using h, by simp⟩
  | k :: k1, k2, x, y, r, h => by
    rw [List.cons_append] at h
    unfold eqCells at h
    split at h
    · rename_i e; simp at e
    · rename_i ks k a xs k' b ys e
      simp only [List.cons.injEq] at e; obtain ⟨rfl, rfl⟩ := e
      split at h
      · rename_i hk
        simp only [Option.map_eq_some_iff] at h
        obtain ⟨r', h', rfl⟩ := h
        obtain ⟨r1, r2, e1, e2, rfl⟩ := eqCells_split k1 k2 xs ys r' h'
        exact ⟨decide (a = b) && r1, r2, by simp [eqCells, hk, e1], by simpa using e2, by simp [Bool.and_assoc]⟩
      · simp at h
    · rename_i ks a xs b ys e
      simp only [List.cons.injEq] at e; obtain ⟨rfl, rfl⟩ := e
      simp only [Option.map_eq_some_iff] at h
      obtain ⟨r', h', rfl⟩ := h
      obtain ⟨r1, r2, e1, e2, rfl⟩ := eqCells_split k1 k2 xs ys r' h'
      exact ⟨decide (a = b) && r1, r2, by simp [eqCells, e1], by simpa using e2, by simp [Bool.and_assoc]⟩
    · rename_i ks a xs b ys e
      simp only [List.cons.injEq] at e; obtain ⟨rfl, rfl⟩ := e
      simp only [Option.map_eq_some_iff] at h
      obtain ⟨r', h', rfl⟩ := h
      obtain ⟨r1, r2, e1, e2, rfl⟩ := eqCells_split k1 k2 xs ys r' h'
      exact ⟨decide (a = b) && r1, r2, by simp [eqCells, e1], by simpa using e2, by simp [Bool.and_assoc]⟩
    · simp at h
theorem eqCells_len : ∀ (ks : List CK) (x y : List V) (r : Bool), eqCells ks x y = some r → x.length = ks.length ∧ y.length = ks.length
  | [], x, y, r, h => by
    unfold eqCells at h
    split at h <;> simp_all
  | k :: ks, x, y, r, h => by
    unfold eqCells at h
    split at h
    · rename_i e; simp at e
    · rename_i ks' k a xs k' b ys e
      simp only [List.cons.injEq] at e; obtain ⟨rfl, rfl⟩ := e
      split at h
      · simp only [Option.map_eq_some_iff] at h
        obtain ⟨r', h', rfl⟩ := h
        have := eqCells_len ks xs ys r' h'
        simp [this]
      · simp at h
    · rename_i ks' a xs b ys e
      simp only [List.cons.injEq] at e; obtain ⟨rfl, rfl⟩ := e
      simp only [Option.map_eq_some_iff] at h
      obtain ⟨r', h', rfl⟩ := h
      have := eqCells_len ks xs ys r' h'
      simp [this]
    · rename_i ks' a xs b ys e
      simp only [List.cons.injEq] at e; obtain ⟨rfl, rfl⟩ := e
      simp only [Option.map_eq_some_iff] at h
      obtain ⟨r', h', rfl⟩ := h
      have := eqCells_len ks xs ys r' h'
      simp [this]
    · simp at h
/-- A value of a type, and its cells. -/
def IsVal (P : Program) (φ : Phi) (I : Nat → Prop) (w : World) (d : TypeDesc) (cx : List V) (X : Value) : Prop :=
  if isAggD d then ∃ xs, X = .agg xs ∧ RelA φ I w cx xs else ∃ v, cx = [v] ∧ Rel φ I w v X
theorem run_part_is {t : TypeId} {d : TypeDesc} {n : Nat} (hd : P.underlying t = some d) (hn : sizeD P t = some n) (hone : isAggD d = false → n = 1) {cx : List V} {xs : Array Value} (h : RelA φ I w cx xs) {o : Nat} (ho : o + n ≤ cx.length) :
    ∃ X, (part t xs o).run P w = .ok X w ∧ IsVal P φ I w d ((cx.drop o).take n) X := by
  cases hag : isAggD d with
  | true =>
    refine ⟨_, run_part_agg hd hag hn xs o, ?_⟩
    have := Rel.sub h.1 h.2 ho
    unfold IsVal
    rw [if_pos hag]
    cases this with
    | agg h1 h2 => exact ⟨_, rfl, h1, h2⟩
  | false =>
    obtain rfl := hone hag
    have hl : o < xs.size := by have := h.1; omega
    refine ⟨_, run_part_one hd hag xs o hl, ?_⟩
    unfold IsVal
    rw [if_neg (by simp [hag])]
    refine ⟨cx[o], ?_, h.2 o _ (List.getElem?_eq_getElem _)⟩
    rw [List.drop_eq_getElem_cons (by omega)]
    rfl
abbrev kfold (P : Program) (d : Nat) (o : Option (List CK)) (fs : List Field) : Option (List CK) :=
  fs.foldl (fun (o : Option (List CK)) f => o.bind fun acc => if f.name ≠ "_" ∧ f.offset = acc.length then (kinds P d f.type).map (acc ++ ·) else none) o
theorem kfold_none {d : Nat} : ∀ fs : List Field, kfold P d none fs = none
  | [] => rfl
  | f :: fs => by unfold kfold; rw [List.foldl_cons, Option.bind_none]; exact kfold_none fs
theorem kfold_cons {d : Nat} {f : Field} {fs : List Field} {acc ks : List CK} (h : kfold P d (some acc) (f :: fs) = some ks) :
    f.name ≠ "_" ∧ f.offset = acc.length ∧ ∃ k1, kinds P d f.type = some k1 ∧ kfold P d (some (acc ++ k1)) fs = some ks := by
  unfold kfold at h
  rw [List.foldl_cons, Option.bind_some] at h
  split at h
  · rename_i hc
    cases hk : kinds P d f.type with
    | none => rw [hk, Option.map_none] at h; have := kfold_none (P := P) (d := d) fs; unfold kfold at this; rw [this] at h; simp at h
    | some k1 => rw [hk, Option.map_some] at h; exact ⟨hc.1, hc.2, k1, by first | rfl | exact hk, h⟩
  · have := kfold_none (P := P) (d := d) fs; unfold kfold at this; rw [this] at h; simp at h
theorem kfold_prefix {d : Nat} : ∀ (fs : List Field) (acc ks : List CK), kfold P d (some acc) fs = some ks → ∃ r, ks = acc ++ r
  | [], acc, ks, h => ⟨[], by simp [kfold] at h; simp [h]⟩
  | f :: fs, acc, ks, h => by
    obtain ⟨_, _, k1, _, h⟩ := kfold_cons h
    obtain ⟨r, rfl⟩ := kfold_prefix fs _ _ h
    exact ⟨k1 ++ r, by simp⟩
theorem kinds_size {d : Nat} {t : TypeId} {ks : List CK} (h : kinds P d t = some ks) : ∃ u, P.underlying t = some u ∧ sizeD P t = some ks.length ∧ (isAggD u = false → ks.length = 1) := by
  cases d with
  | zero => simp [kinds] at h
  | succ d =>
    unfold kinds at h
    split at h
    · rename_i k hu; split at h <;> simp at h; subst h; exact ⟨_, hu, by assumption, fun _ => rfl⟩
    · rename_i hu; split at h <;> simp at h; subst h; exact ⟨_, hu, by assumption, fun _ => rfl⟩
    · rename_i hu; split at h <;> simp at h; subst h; exact ⟨_, hu, by assumption, fun _ => rfl⟩
    · rename_i fs hu
      split at h
      · simp at h
      · simp only [Option.bind_eq_some_iff] at h
        obtain ⟨k, hk, h⟩ := h
        split at h <;> simp at h
        subst h
        exact ⟨_, hu, by assumption, fun e => by simp [isAggD] at e⟩
    · simp at h
theorem eq_in : ∀ (d D : Nat) (t : TypeId) (u : TypeDesc) (ks : List CK) (cx cy : List V) (X Y : Value), d ≤ D → kinds P d t = some ks → P.underlying t = some u →
    IsVal P φ I w u cx X → IsVal P φ I w u cy Y → ∀ r, eqCells ks cx cy = some r → (Op.equalIn D t X Y).run P w = .ok r w := by
  intro d
  induction d with
  | zero => intro D t u n cx cy X Y _ h; simp [kinds] at h
  | succ d ih =>
    intro D t u ks cx cy X Y hD hk hu hX hY r hr
    obtain ⟨D, rfl⟩ : ∃ k, D = k + 1 := ⟨D - 1, by omega⟩
    unfold kinds at hk
    rw [hu] at hk
    unfold IsVal at hX hY
    cases u <;> simp only [reduceCtorEq] at hk
    case struct fs =>
      simp only [isAggD, if_true] at hX hY
      obtain ⟨xs, rfl, hX⟩ := hX
      obtain ⟨ys, rfl, hY⟩ := hY
      split at hk
      · simp at hk
      rename_i hheld
      simp only [Option.bind_eq_some_iff] at hk
      obtain ⟨ks', hk, hk'⟩ := hk
      split at hk' <;> simp at hk'
      subst hk'
      have hfs : P.fieldsOf t = fs := by simp [Program.fieldsOf, hu]
      rw [run_equalIn_struct w D t xs ys (by rw [hfs]; exact hu) (by simpa using hheld), hfs]
      have key : ∀ (l : List Field) (acc rest : List CK) (r : Bool), acc.length ≤ cx.length → acc.length ≤ cy.length → kfold P d (some acc) l = some (acc ++ rest) → eqCells rest (cx.drop acc.length) (cy.drop acc.length) = some r → (Op.eqFields D xs ys l).run P w = .ok r w := by
        intro l
        induction l with
        | nil =>
          intro acc rest r _ _ hf hr
          simp [kfold] at hf
          subst hf
          unfold eqCells at hr
          split at hr <;> simp_all
          subst hr
          rfl
        | cons f l ihl =>
          intro acc rest r hx0 hy0 hf hr
          obtain ⟨hnm, hoff, k1, hk1, hf'⟩ := kfold_cons hf
          obtain ⟨r2, hr2⟩ := kfold_prefix _ _ _ hf'
          rw [List.append_assoc] at hr2
          have hr2 := List.append_cancel_left hr2
          subst hr2
          obtain ⟨r1, r2', e1, e2, rfl⟩ := eqCells_split k1 r2 _ _ _ hr
          rw [List.drop_drop, List.drop_drop] at e2
          obtain ⟨uf, huf, hsz, hone⟩ := kinds_size hk1
          have hlen := eqCells_len _ _ _ _ hr
          simp only [List.length_drop, List.length_append] at hlen
          have hle := hlen.1
          have hle2 := hlen.2
          have hl1 := eqCells_len _ _ _ _ e1
          simp only [List.length_take, List.length_drop] at hl1
          have hrest := ihl (acc ++ k1) r2 r2' (by simp only [List.length_append]; omega) (by simp only [List.length_append]; omega) (by rw [hf', List.append_assoc]) (by rw [List.length_append]; exact e2)
          obtain ⟨A, hA, hAv⟩ := run_part_is huf hsz hone hX (o := f.offset) (by omega)
          obtain ⟨B, hB, hBv⟩ := run_part_is huf hsz hone hY (o := f.offset) (by omega)
          rw [hoff] at hAv hBv
          have hq := ih D f.type uf k1 _ _ A B (by omega) hk1 huf hAv hBv r1 e1
          simp only [Op.eqFields, ne_eq, hnm, not_false_eq_true, if_true, Sem.run_bind, hA, hB, Result.andThen_ok, hq]
          cases r1
          · simp
          · simpa using hrest
      exact key fs.toList [] ks' r (by simp) (by simp) (by simpa using hk) (by simpa using hr)
    all_goals
      split at hk <;> simp at hk
      subst hk
      simp only [isAggD, Bool.false_eq_true, if_false] at hX hY
      obtain ⟨v1, rfl, h1⟩ := hX
      obtain ⟨v2, rfl, h2⟩ := hY
      unfold eqCells at hr
      split at hr <;> (try (simp_all; done))
      rename_i e0 e1 e2
      simp only [List.cons.injEq] at e0 e1 e2
      obtain ⟨_, rfl⟩ := e0
      obtain ⟨rfl, rfl⟩ := e1
      obtain ⟨rfl, rfl⟩ := e2
      simp only [eqCells] at hr
    case h_2 =>
      split at hr <;> simp at hr
      subst hr
      rename_i hkk; subst hkk
      rw [h1.int_inv, h2.int_inv, run_equalIn_int w D t _ _ _ _ hu, beqd]
    case h_3 =>
      simp at hr; subst hr
      obtain ⟨s1, rfl, rfl⟩ := h1.str_inv
      obtain ⟨s2, rfl, rfl⟩ := h2.str_inv
      rw [run_equalIn_string w D t _ _ hu, bytes_toList, bytes_toList, beqd]
    case h_4 =>
      simp at hr; subst hr
      rw [h1.bool_inv, h2.bool_inv, run_equalIn_bool' w D t _ _ hu, beqd]
theorem quiet_eqa {o : Oper} {op : BinOp} {neg : Bool} {t u : TypeId} {fs : Array Field} {ks : List CK} {x y : Operand} {x' y' : Opd} {v : V} (ho : o.op = .binOp op t x y u) (hop : op = if neg then .neq else .eql)
    (ht : P.underlying t = some (.struct fs)) (hk : kinds P 20 t = some ks) (hgt : P.eqGuardType P.depth t = false)
    (hf : EnvR φ I w nt env a) (hx : cOpd nt x = some x') (hy : cOpd nt y = some y') {σ' : St} (he : evI env σ (.eqa neg ks x' y') = some (v, σ')) : σ' = σ ∧ Quiet P φ I w a o v := by
  have h1 := cOpd_rel hf hx
  have h2 := cOpd_rel hf hy
  obtain ⟨dst, op', ty, pos, after, guard⟩ := o
  simp only at ho; subst ho
  simp only [evI] at he
  split at he
  · rename_i c1 c2 e1 e2
    rw [e1] at h1; rw [e2] at h2
    simp only [Option.map_eq_some_iff, Prod.mk.injEq] at he
    obtain ⟨r, hr, rfl, rfl⟩ := he
    generalize hq1 : a.eval x = q1 at h1
    generalize hq2 : a.eval y = q2 at h2
    cases h1 with
    | agg l1 r1 =>
      cases h2 with
      | agg l2 r2 =>
        rename_i xs ys
        have key : (Op.equal t (.agg xs) (.agg ys)).run P w = .ok r w :=
          eq_in 20 10000 t _ ks c1 c2 _ _ (by omega) hk ht (by simp only [IsVal, isAggD, if_true]; exact ⟨_, rfl, l1, r1⟩) (by simp only [IsVal, isAggD, if_true]; exact ⟨_, rfl, l2, r2⟩) r hr
        refine ⟨rfl, .bool (if neg then !r else r), ?_, .bool _⟩
        subst hop
        cases neg
        · simp [execOp, hq1, hq2, eqGuard, hgt, binOp, key]
        · simp [execOp, hq1, hq2, eqGuard, hgt, binOp, key]
  · simp at he
theorem cont_cells (hs : Sim φ I σ w) {z : Nat} {v : V} {c : Value} (h : Rel φ I w v c) {es : List (List V)} (he : cont σ z v = some es) :
    (c = .slice none 0 0 ∧ es = []) ∨ ∃ ad cap, c = .slice (some ad) es.length cap ∧ es.length ≤ cap ∧ (∀ e ∈ es, e.length = z) ∧
      ∀ i j e u, es[i]? = some e → e[j]? = some u → ∃ x, w.cell? (ad.add (i * z + j)) = some x ∧ x.oneCell' = true ∧ Rel φ I w u x := by
  unfold cont at he
  split at he
  · simp only [Option.some.injEq] at he; subst he; cases h; exact .inl ⟨rfl, rfl⟩
  · rename_i z1 es1
    split at he <;> simp at he
    rename_i hz; subst hz; subst he
    cases h with
    | islc hl ha hzz hc ho hp hr =>
      refine .inr ⟨_, _, rfl, hl, hzz, fun i j e u hi hj => ?_⟩
      have hlt := (List.getElem?_eq_some_iff.1 hi).1
      obtain ⟨rfl, _⟩ := ha (fun e0 => by simp [e0] at hlt)
      have hjl := (List.getElem?_eq_some_iff.1 hj).1
      rw [Addr.add_lit, ← Nat.add_assoc]
      have hjz : j < z1 := by rw [← hzz e (List.mem_of_getElem? hi)]; exact hjl
      exact ⟨_, hc i j hlt hjz, ho i j hlt hjz, hr _ _ _ _ hi hj⟩
  · rename_i l off len
    split at he
    · rename_i z' es' hH
      split at he <;> simp at he
      rename_i hc
      obtain ⟨rfl, hle⟩ := hc
      subst he
      cases h with
      | slc hφ hlc hN ha =>
        rename_i b base z cap ad
        obtain ⟨b', base', arr, t', fz, e1, hhp, hfz, hpos, hzz, hsz, ho, hr⟩ := hs.row hH
        rw [hφ] at e1
        simp only [Option.some.injEq, Prod.mk.injEq] at e1
        obtain ⟨rfl, rfl, rfl⟩ := e1
        have hlen : ((es'.drop off).take len).length = len := by simp; omega
        refine .inr ⟨ad, cap, by rw [hlen], by omega, fun e he => hzz e (List.mem_of_mem_drop (List.mem_of_mem_take he)), fun i j e u hi hj => ?_⟩
        have hi' : i < len := by have := (List.getElem?_eq_some_iff.1 hi).1; omega
        simp only [List.getElem?_take, hi', if_true, List.getElem?_drop] at hi
        obtain ⟨_, x, hx, hrx, _⟩ := hs.cell hH hi hj hφ
        rw [ha (by omega), Addr.add_lit]
        have hjl := (List.getElem?_eq_some_iff.1 hj).1
        have hel := hzz e (List.mem_of_getElem? hi)
        have hone := ho (off + i) j (by omega) (by omega)
        have hlt : base + (off + i) * z + j < arr.size := by have := mul_lt_of (z := z) (show off + i < es'.length by omega) (show j < z by omega); omega
        have hxa : arr.getD (base + (off + i) * z + j) undef = x := by
          simp [World.cell?, hhp, hlt] at hx
          simp [hlt, hx]
        rw [hxa] at hone
        refine ⟨x, ?_, hone, hrx⟩
        rw [← hx]
        congr 2
        rw [Nat.add_mul]; omega
    · simp at he
  · simp at he
theorem byteOf_rel : ∀ (es : List (List V)) (s : List UInt8), es.mapM byteOf = some s → es.length = s.length ∧ ∀ (i : Nat) (b : UInt8), s[i]? = some b → ∃ n : Int, es[i]? = some [V.int .u8 n] ∧ UInt8.ofNat n.toNat = b := fun es s h => by
  obtain ⟨h1, h2⟩ := mapM_some h
  refine ⟨h1.symm, fun i b hb => ?_⟩
  obtain ⟨e, he, hbe⟩ := h2 i b hb
  unfold byteOf at hbe
  split at hbe
  · split at hbe <;> simp at hbe
    exact ⟨_, he, hbe⟩
  · simp at hbe
theorem foldl_push : ∀ (ns : List Int) (r : ByteArray), (ns.foldl (fun r n => r.push (UInt8.ofNat n.toNat)) r).data.toList = r.data.toList ++ ns.map fun n => UInt8.ofNat n.toNat
  | [], r => by simp
  | n :: ns, r => by
    rw [List.foldl_cons, foldl_push ns]
    simp [ByteArray.push]
theorem quiet_b2s {o : Oper} {s t e : TypeId} {x : Operand} {x' : Opd} {v : V} (ho : o.op = .convert s t x) (hs : P.underlying s = some (.slice e)) (he8 : P.underlying e = some (.int .u8)) (ht : P.underlying t = some .string)
    (hS : Sim φ I σ w) (hf : EnvR φ I w nt env a) (hx : cOpd nt x = some x') {σ' : St} (he : evI env σ (.b2s x') = some (v, σ')) : σ' = σ ∧ Quiet P φ I w a o v := by
  have h := cOpd_rel hf hx
  obtain ⟨dst, op', ty, pos, after, guard⟩ := o
  simp only at ho; subst ho
  simp only [evI, Option.bind_eq_some_iff, Option.map_eq_some_iff, Prod.mk.injEq] at he
  obtain ⟨es, hc, l, hl, rfl, rfl⟩ := he
  refine ⟨rfl, ?_⟩
  obtain ⟨hlen, hby⟩ := byteOf_rel es l hl
  have hconv : ∀ c, a.eval x = c → (∃ ad n k, c = .slice ad n k) → (execOp a.eval ⟨dst, .convert s t x, ty, pos, after, guard⟩).run P w = ((Conv.bytesToString c).run P w).andThen fun v w => .ok (.value v) w := fun c hq hc => by
    obtain ⟨ad, n, k, rfl⟩ := hc
    simp only [execOp, hq, convert, Sem.run_bind, run_underlying hs, run_underlying ht, Result.andThen_ok, run_underlying he8]
    rfl
  rcases cont_cells hS h hc with ⟨hq, rfl⟩ | ⟨ad, cap, hq, hcap, hz, hcell⟩
  · refine ⟨.string .empty, ?_, .str ?_⟩
    · rw [hconv _ hq ⟨_, _, _, rfl⟩]; rfl
    · simp at hl; subst hl; rfl
  · let ns : List Int := (List.range es.length).map fun i => match es[i]? with | some [V.int .u8 n] => n | _ => 0
    have hns : ∀ (i : Nat), i < es.length → w.cell? (ad.add i) = some (.int .u8 (ns.getD i 0)) := fun i hi => by
      obtain ⟨b, hb⟩ : ∃ b, l[i]? = some b := ⟨l[i]'(by omega), List.getElem?_eq_getElem _⟩
      obtain ⟨n, hn, _⟩ := hby i b hb
      obtain ⟨y, hy, _, hr⟩ := hcell i 0 _ _ hn rfl
      have hy' := hr.int_inv
      subst hy'
      rw [Nat.mul_one, Nat.add_zero] at hy
      rw [hy]
      have hn' : es[i] = [V.int .u8 n] := (List.getElem?_eq_some_iff.1 hn).2
      simp [ns, hi, hn']
    have hload : (loadCells ad es.length).run P w = .ok (ns.map (Value.int .u8)).toArray w := by
      rw [loadCells_of (f := fun k => .int .u8 (ns.getD k 0)) hns]
      congr 2
      apply List.ext_getElem?
      intro i
      by_cases hi : i < es.length
      · simp [ns, hi]
      · simp [ns, hi]
    refine ⟨.string (ns.foldl (fun r n => r.push (UInt8.ofNat n.toNat)) ByteArray.empty), ?_, .str ?_⟩
    · rw [hconv _ hq ⟨_, _, _, rfl⟩, run_bytesToString w ad _ _ ns hload]; rfl
    · rw [foldl_push]
      simp only [ns, List.map_map, ByteArray.empty]
      apply List.ext_getElem?
      intro i
      by_cases hi : i < es.length
      · obtain ⟨b, hb⟩ : ∃ b, l[i]? = some b := ⟨l[i]'(by omega), List.getElem?_eq_getElem _⟩
        obtain ⟨n, hn, hnb⟩ := hby i b hb
        have hn' : es[i] = [V.int .u8 n] := (List.getElem?_eq_some_iff.1 hn).2
        simp [hi, hn', hb, hnb]
      · simp [hi]; omega
end
end Go.Proofs.YtmjbnfldehbmcaaDoor.Ab
