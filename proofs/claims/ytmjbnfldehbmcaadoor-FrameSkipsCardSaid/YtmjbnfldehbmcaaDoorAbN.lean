/-
The walk over the program's texts, told with what its values say: a part of it. No further condition.
-/
import Derived.Test.YtmjbnfldehbmcaaDoorAbM
namespace Go.Proofs.YtmjbnfldehbmcaaDoor.Ab
open Go.RowKit
set_option linter.unusedVariables false
set_option linter.unusedSimpArgs false
section
variable {P : Program} {φ φ' : Phi} {I I' : Nat → Prop} {σ σ' : St} {w w' : World} {nt : Nat} {f : Fr} {a : Act} {Q : AX → Fr → St → Prop} {ops : Array Oper} {R : List RI} {A T : List (List Nat)}
/-- What the region's tables are. -/
structure Tab (P : Program) (nt : Nat) (ops : Array Oper) (R : List RI) (A T : List (List Nat)) : Prop where
  hR : ops.toList.mapM (cRI P nt ops) = some R
  hA : ∀ i, i < ops.size → A.getD i [] = aftL ops i
  hT : TOk A T
def okL (n : Nat) (A : List (List Nat)) : List Nat → Prop
  | [] => True
  | k :: L => (k < n ∧ k ∉ L ∧ ∀ y ∈ A.getD k [], y ∈ L) ∧ okL n A L
theorem okL_closed {n : Nat} : ∀ {L : List Nat}, okL n A L → ∀ k ∈ L, k < n ∧ ∀ y ∈ A.getD k [], y ∈ L
  | [], _, k, h => by simp at h
  | x :: L, h, k, hk => by
    rcases List.mem_cons.1 hk with rfl | hk
    · exact ⟨h.1.1, fun y hy => List.mem_cons_of_mem _ (h.1.2.2 y hy)⟩
    · exact ⟨(okL_closed h.2 k hk).1, fun y hy => List.mem_cons_of_mem _ ((okL_closed h.2 k hk).2 y hy)⟩
structure Inv (ops : Array Oper) (R : List RI) (A T : List (List Nat)) (L : List Nat) (S : Array Bool) (f : Fr) (e : Env) (σ : St) : Prop where
  size : S.size = ops.size
  ord : okL ops.size A L
  sub : ∀ k, S.getD k false = true → k ∈ L
  down : ∀ k, S.getD k false = true → ∀ x ∈ A.getD k [], S.getD x false = true
  del : ∀ k ∈ L, S.getD k false = false → ∃ r d, R[k]? = some r ∧ EOk T R k r d ∧ (eagL T R).getD k false = true ∧ chk r f σ
  agree : ∀ t, (∀ k ∈ L, S.getD k false = false → ∀ r, R[k]? = some r → r.dst ≠ some t) → e t = f.env t
theorem bind_edges {i : Nat} {o : Oper} (ho : ops[i]? = some o) (X : Nat → Prop) : (∀ y ∈ aftL ops i, X y) ↔ ∀ e ∈ o.after, Region.binds .any e = true → X e.on := by
  unfold aftL
  rw [ho]
  simp only [List.mem_map, List.mem_filter, Array.mem_toList_iff]
  constructor
  · exact fun h e he hb => h _ ⟨e, ⟨he, hb⟩, rfl⟩
  · rintro h y ⟨e, ⟨he, hb⟩, rfl⟩; exact h e he hb
theorem ready_iff (ht : Tab P nt ops R A T) {S : Array Bool} (hS : S.size = ops.size) {i : Nat} : i ∈ Region.ready .any ops S ↔ i < ops.size ∧ S.getD i false = false ∧ ∀ y ∈ A.getD i [], S.getD y false = true := by
  rw [mem_ready]
  constructor
  · rintro ⟨h0, o, ho, hall⟩
    have hlt : i < ops.size := (Array.getElem?_eq_some_iff.1 ho).1
    refine ⟨hlt, ?_, ?_⟩
    · have : i < S.size := by rw [hS]; exact hlt
      simpa [this] using h0
    · rw [ht.hA i hlt]
      exact (bind_edges ho fun y => S.getD y false = true).2 hall
  · rintro ⟨hlt, h0, hall⟩
    have ho : ops[i]? = some ops[i] := Array.getElem?_eq_getElem hlt
    refine ⟨?_, _, ho, ?_⟩
    · have : i < S.size := by rw [hS]; exact hlt
      simpa [this] using h0
    · rw [ht.hA i hlt] at hall
      exact (bind_edges ho fun y => S.getD y false = true).1 hall
theorem mem_rdy {n i : Nat} {L : List Nat} : i ∈ rdy n A L ↔ i < n ∧ i ∉ L ∧ ∀ y ∈ A.getD i [], y ∈ L := by
  simp [rdy, and_assoc]
theorem set_at {S : Array Bool} {i j : Nat} : (S.setIfInBounds i true).getD j false = true ↔ S.getD j false = true ∨ (i = j ∧ j < S.size) := by
  by_cases h : i = j
  · subst h
    by_cases hi : i < S.size
    · simp [hi]
    · simp [hi, Array.getElem?_eq_none (Nat.le_of_not_lt hi)]
  · simp [Array.getElem?_setIfInBounds_ne h, h]
theorem bfalse {b : Bool} : b = false ↔ ¬ b = true := by simp
/-- It is told, and does what its telling says. -/
theorem Tab.op (ht : Tab P nt ops R A T) {i : Nat} {r : RI} (hr : R[i]? = some r) : ∃ o, ops[i]? = some o ∧ cRI P nt ops o = some r := (cRI_some ht.hR).2 i r hr
theorem Tab.at (ht : Tab P nt ops R A T) {i : Nat} (h : i < ops.size) : ∃ r, R[i]? = some r := ⟨R[i]'(by rw [(cRI_some ht.hR).1]; exact h), List.getElem?_eq_getElem _⟩
/-- Nobody's delayed place is read. -/
theorem Inv.reads (ht : Tab P nt ops R A T) {L : List Nat} {S : Array Bool} {e : Env} (hv : Inv ops R A T L S f e σ) {i : Nat} {r : RI} (hr : R[i]? = some r) (hi : ∀ y ∈ A.getD i [], S.getD y false = true)
    (hself : ∀ k ∈ L, S.getD k false = false → k = i → ∀ d, r.dst = some d → d ∉ r.ts) : ∀ t ∈ r.ts, f.env t = e t := fun t hm => by
  refine (hv.agree t fun k hk hkS rk hrk hd => ?_).symm
  obtain ⟨r', d, hr', hE, _⟩ := hv.del k hk hkS
  rw [hrk] at hr'
  obtain rfl := Option.some.inj hr'
  have hdt : d = t := by have := hE.dst; rw [hd] at this; exact (Option.some.inj this).symm
  subst hdt
  by_cases hki : k = i
  · subst hki
    rw [hr] at hrk
    obtain rfl := Option.some.inj hrk
    exact hself k hk hkS rfl _ hd hm
  · have := inT_ok ht.hT (hE.read i r hr (Ne.symm hki) hm) (X := fun y => S.getD y false = true) hv.down hi
    rw [hkS] at this
    exact absurd this (by simp)
theorem pwp_alts {E : List Bool} {L : List Nat} {go : Nat → Plan} : ∀ {is : List Nat}, pwp P Q (altsOf T E R L go is) f σ → ∀ i ∈ is, ∃ r, R[i]? = some r ∧ rwp1 P (fun x f σ => match x with | .panic v => ∀ env, Q (.panic v) ⟨env, f.ds⟩ σ | _ => False) (fun f σ => (∀ q ∈ againL T E R L i, chk q f σ) ∧ pwp P Q (go i) f σ) r f σ
  | [], _, i, h => by simp at h
  | x :: is, h, i, hi => by
    unfold altsOf at h
    split at h
    · rename_i r hr
      rcases List.mem_cons.1 hi with rfl | hi
      · exact ⟨r, hr, h.1⟩
      · exact pwp_alts h.2 i hi
    · simp [pwp, rwp1, wantG] at h
theorem chk_put {r : RI} {d : Option Nat} {v : V} {ds : List AD} (h1 : ∀ t, d = some t → t ∉ r.ts) (h2 : ∀ t, d = some t → r.dst ≠ some t) (hr : r.ins.reads = false ∨ σ' = σ) (hq : r.ins.quiet = true) (h : chk r f σ) : chk r { f.put d v with ds := ds } σ' := by
  have same : ∀ t, d ≠ some t → ({ f.put d v with ds := ds } : Fr).env t = f.env t := fun t ht => by
    cases d with
    | none => rfl
    | some d => simp only [Fr.put, Env.put]; rw [if_neg (fun e : t = d => ht (by rw [e]))]
  have hts : ∀ t ∈ r.ts, ({ f.put d v with ds := ds } : Fr).env t = f.env t := fun t ht => same t fun e => h1 t e ht
  unfold chk at h ⊢
  split at h
  · trivial
  · rename_i d' hd'
    rw [wantG_congr (rts hts).1, same d' (fun e => h2 d' e hd')]
    split at h
    · exact h.elim
    · exact h
    · rw [evI_congr (rts hts).2]
      rcases hr with hr | rfl
      · exact evI_other hq hr h
      · exact h
theorem oldest {n : Nat} {S : Array Bool} : ∀ {L : List Nat}, okL n A L → (∃ k ∈ L, S.getD k false = false) → ∃ k ∈ L, S.getD k false = false ∧ ∀ y ∈ A.getD k [], S.getD y false = true
  | [], _, ⟨k, h, _⟩ => by simp at h
  | x :: L, h, hk => by
    by_cases ht : ∃ k ∈ L, S.getD k false = false
    · obtain ⟨k, h1, h2⟩ := oldest h.2 ht
      exact ⟨k, List.mem_cons_of_mem _ h1, h2⟩
    · have all : ∀ k ∈ L, S.getD k false = true := fun k hk => by
        cases hS : S.getD k false with
        | true => rfl
        | false => exact absurd ⟨k, hk, hS⟩ ht
      obtain ⟨k, h1, h2⟩ := hk
      rcases List.mem_cons.1 h1 with rfl | h1
      · exact ⟨k, by simp, h2, fun y hy => all y (h.1.2.2 y hy)⟩
      · rw [all k h1] at h2; simp at h2
theorem count_set {S : Array Bool} {i : Nat} (hi : i < S.size) (h : S.getD i false = false) : (S.setIfInBounds i true).toList.count false + 1 = S.toList.count false := by
  have hl : i < S.toList.length := by simpa using hi
  have hS : S.toList[i] = false := by simpa [hi] using h
  have : 0 < S.toList.count false := List.count_pos_iff.2 (hS ▸ List.getElem_mem hl)
  rw [Array.toList_setIfInBounds, List.count_set hl, hS]
  simp only [beq_self_eq_true, if_true]
  rw [if_neg (by decide)]
  omega
theorem any_ok (ht : Tab P nt ops R A T) {φ0 : Phi} {I0 : Nat → Prop} {σ0 : St} {w0 : World} : ∀ (fuel m : Nat) (L : List Nat) (S : Array Bool) (f : Fr) (e : Env) (σ : St) (φ : Phi) (I : Nat → Prop) (w : World) (a : Act),
    Inv ops R A T L S f e σ → S.toList.count false ≤ fuel → Sim φ I σ w → RelF nt φ I w ⟨e, f.ds⟩ a → Evo φ0 I0 σ0 w0 φ I σ w → pwp P Q (build A T (eagL T R) R m L) f σ → wpAny P .any ops (Lift nt Q φ0 I0 σ0 w0) fuel S a w := by
  intro fuel
  induction fuel using Nat.strongRecOn with
  | ind fuel ih =>
  intro m
  induction m with
  | zero => intro L S f e σ φ I w a hv hc hs hf hb h; simp [build, pwp, rwp1, wantG, Fr.put] at h
  | succ m ihm =>
  intro L S f e σ φ I w a hv hc hs hf hb h
  have inL : ∀ i, (∀ y ∈ A.getD i [], S.getD y false = true) → i < ops.size → i ∉ L → i ∈ rdy R.length A L := fun i hi hlt hn =>
    mem_rdy.2 ⟨by rw [(cRI_some ht.hR).1]; exact hlt, hn, fun y hy => hv.sub y (hi y hy)⟩
  have notS : ∀ i, i ∉ L → S.getD i false = false := fun i hn => by
    cases hS : S.getD i false with
    | false => rfl
    | true => exact absurd (hv.sub i hS) hn
  have notT : ∀ k ∈ L, ∀ i, i ∉ L → inT T k i = true → False := fun k hk i hn hT =>
    hn (inT_ok ht.hT hT (X := fun y => y ∈ L) (fun k hk => (okL_closed hv.ord k hk).2) (okL_closed hv.ord k hk).2)
  have allS : Region.ready .any ops S = [] → ∀ k ∈ L, S.getD k false = true := fun hr => by
    intro k hk
    cases hS : S.getD k false with
    | true => rfl
    | false =>
      obtain ⟨k', hk', h1, h2⟩ := oldest hv.ord ⟨k, hk, hS⟩
      have := (ready_iff ht hv.size).2 ⟨(okL_closed hv.ord k' hk').1, h1, h2⟩
      rw [hr] at this
      simp at this
  have szS : ∀ i, i < ops.size → i < S.size := fun i hi => by rw [hv.size]; exact hi
  -- a reading that is put off, done now
  have late : ∀ fuel', fuel = fuel' + 1 → ∀ i ∈ Region.ready .any ops S, i ∈ L → wpOp P ops (Lift nt Q φ0 I0 σ0 w0) i (wpAny P .any ops (Lift nt Q φ0 I0 σ0 w0) fuel' (S.setIfInBounds i true)) a w := by
    intro fuel' hfu i hi hiL
    obtain ⟨hlt, hS, hA⟩ := (ready_iff ht hv.size).1 hi
    obtain ⟨r, d, hr, hE, hEb, hch⟩ := hv.del i hiL hS
    obtain ⟨o, ho, hco⟩ := ht.op hr
    have hreads : ∀ t ∈ r.ts, f.env t = e t := hv.reads ht hr hA fun k hk hkS hki d' hd' => by
      have hdd := hE.dst; rw [hd'] at hdd
      obtain rfl := Option.some.inj hdd
      exact hE.self
    have hrw : rwp1 P Q (fun f' σ' => f' = (⟨e, f.ds⟩ : Fr).put r.dst (f.env d) ∧ σ' = σ) r ⟨e, f.ds⟩ σ := chk_rwp1 (f := f) hE.dst hE.quiet hch hreads ⟨rfl, rfl⟩
    refine rwp1_ok ho hco hs hf hb hrw ?_
    rintro f' σ' φ' I' w' a' ⟨rfl, rfl⟩ hev hs' hf'
    refine ih fuel' (by omega) (m + 1) L _ f (e.put r.dst (f.env d)) σ' φ' I' w' a' ?_ ?_ hs' hf' (hb.trans hev) h
    · refine ⟨by simp [hv.size], hv.ord, fun k hk => ?_, fun k hk x hx => ?_, fun k hk hkS => ?_, fun t hto => ?_⟩
      · rcases set_at.1 hk with hk | ⟨rfl, _⟩
        · exact hv.sub k hk
        · exact hiL
      · rcases set_at.1 hk with hk | ⟨rfl, _⟩
        · exact set_at.2 (.inl (hv.down k hk x hx))
        · exact set_at.2 (.inl (hA x hx))
      · exact hv.del k hk (bfalse.2 fun h => bfalse.1 hkS (set_at.2 (.inl h)))
      · rw [hE.dst]
        simp only [Env.put]
        split
        · rename_i heq; rw [heq]
        · rename_i hne
          refine hv.agree t fun k hk hkS rk hrk hdk => ?_
          by_cases hki : k = i
          · subst hki
            rw [hr] at hrk
            obtain rfl := Option.some.inj hrk
            rw [hE.dst] at hdk
            exact hne (Option.some.inj hdk).symm
          · refine hto k hk ?_ rk hrk hdk
            exact bfalse.2 fun h => by
              rcases set_at.1 h with h | ⟨h, _⟩
              · rw [hkS] at h; simp at h
              · exact hki h.symm
    · have := count_set (szS i hlt) hS
      omega
  have zero : fuel = 0 → Region.ready .any ops S = [] := fun h0 => by
    rw [List.eq_nil_iff_forall_not_mem]
    intro i hi
    obtain ⟨hlt, hS, hA⟩ := (ready_iff ht hv.size).1 hi
    have := count_set (szS i hlt) hS
    omega
  unfold build at h
  split at h
  · rename_i i hfi
    have hir := List.mem_of_find?_eq_some hfi
    have hiE := List.find?_some hfi
    obtain ⟨hlt, hn, hA⟩ := mem_rdy.1 hir
    obtain ⟨r, d, hr, hE⟩ := eager_ok hiE
    rw [hr] at h
    simp only [pwp] at h
    obtain ⟨v, hp, hch⟩ := rwp1_quiet hE.dst hE.quiet hE.self h
    rw [hE.dst] at hp hch
    refine ihm (i :: L) S (f.put (some d) v) e σ φ I w a ?_ hc hs hf hb hp
    refine ⟨hv.size, ⟨⟨by rw [← (cRI_some ht.hR).1]; exact hlt, hn, hA⟩, hv.ord⟩, fun k hk => List.mem_cons_of_mem _ (hv.sub k hk), hv.down, fun k hk hkS => ?_, fun t hto => ?_⟩
    · rcases List.mem_cons.1 hk with rfl | hk
      · exact ⟨r, d, hr, hE, hiE, hch⟩
      · obtain ⟨rk, dk, hrk, hEk, hEkb, hck⟩ := hv.del k hk hkS
        have hki : k ≠ i := fun e => hn (e ▸ hk)
        refine ⟨rk, dk, hrk, hEk, hEkb, chk_put (f := f) (d := some d) (v := v) (ds := f.ds) (fun t ht' htm => ?_) (fun t ht' htd => ?_) (.inr rfl) hEk.quiet hck⟩
        · obtain rfl := Option.some.inj ht'
          exact notT k hk i hn (hE.read k rk hrk hki htm)
        · obtain rfl := Option.some.inj ht'
          exact hE.one k rk hrk hki htd
    · have hne : t ≠ d := fun e => hto i (by simp) (notS i hn) r hr (by rw [hE.dst, e])
      simp only [Fr.put, Env.put]
      rw [if_neg hne]
      exact hv.agree t fun k hk hkS => hto k (List.mem_cons_of_mem _ hk) hkS
  · rename_i hnone
    have noE : ∀ i ∈ rdy R.length A L, ¬ (eagL T R).getD i false = true := fun i hi he => by
      have := List.find?_eq_none.1 hnone i hi
      exact this he
    split at h
    · rename_i hnil
      have hnorm : Region.ready .any ops S = [] → Lift nt Q φ0 I0 σ0 w0 .normal a w := fun hr => by
        have he : e = f.env := funext fun t => hv.agree t fun k hk hkS => by rw [allS hr k hk] at hkS; simp at hkS
        subst he
        exact ⟨_, _, _, _, _, h, .normal, hb, hs, hf⟩
      cases fuel with
      | zero => exact ⟨zero rfl, hnorm (zero rfl)⟩
      | succ fuel' =>
        refine ⟨hnorm, fun i hi => ?_⟩
        by_cases hiL : i ∈ L
        · exact late fuel' rfl i hi hiL
        · obtain ⟨hlt, hS, hA⟩ := (ready_iff ht hv.size).1 hi
          have := inL i hA hlt hiL
          rw [hnil] at this
          simp at this
    · rename_i x xs hcons
      have hnorm : Region.ready .any ops S = [] → False := fun hr => by
        have hx : x ∈ rdy R.length A L := by rw [hcons]; simp
        obtain ⟨hlt, hn, hA⟩ := mem_rdy.1 hx
        have := (ready_iff ht hv.size).2 ⟨by rw [← (cRI_some ht.hR).1]; exact hlt, notS x hn, fun y hy => allS hr y (hA y hy)⟩
        rw [hr] at this
        simp at this
      cases fuel with
      | zero => exact (hnorm (zero rfl)).elim
      | succ fuel' =>
        refine ⟨fun hr => (hnorm hr).elim, fun i hi => ?_⟩
        by_cases hiL : i ∈ L
        · exact late fuel' rfl i hi hiL
        obtain ⟨hlt, hS, hA⟩ := (ready_iff ht hv.size).1 hi
        have hir := inL i hA hlt hiL
        obtain ⟨r, hr, hrw⟩ := pwp_alts h i (hcons ▸ hir)
        obtain ⟨o, ho, hco⟩ := ht.op hr
        have hreads : ∀ t ∈ r.ts, f.env t = e t := hv.reads ht hr hA fun k hk _ hki => absurd (hki ▸ hk) hiL
        have hrw2 : rwp1 P Q (fun f2 σ2 => ∃ v ds, f2 = { (⟨e, f.ds⟩ : Fr).put r.dst v with ds := ds } ∧ ((∀ q ∈ againL T (eagL T R) R L i, chk q { f.put r.dst v with ds := ds } σ2) ∧ pwp P Q (build A T (eagL T R) R m (i :: L)) { f.put r.dst v with ds := ds } σ2)) r ⟨e, f.ds⟩ σ :=
          rwp1_congr (f := f) (f' := ⟨e, f.ds⟩) rfl hreads hrw (fun v σ h => h e) (fun v σ ds h => ⟨v, ds, rfl, h⟩)
        refine rwp1_ok ho hco hs hf hb hrw2 ?_
        rintro f' σ' φ' I' w' a' ⟨v, ds, rfl, hag, hp⟩ hev hs' hf'
        refine ih fuel' (by omega) m (i :: L) _ { f.put r.dst v with ds := ds } (e.put r.dst v) σ' φ' I' w' a' ?_ ?_ hs' hf' (hb.trans hev) hp
        · refine ⟨by simp [hv.size], ⟨⟨hlt, hiL, fun y hy => hv.sub y (hA y hy)⟩, hv.ord⟩, fun k hk => ?_, fun k hk y hy => ?_, fun k hk hkS => ?_, fun t hto => ?_⟩
          · rcases set_at.1 hk with hk | ⟨rfl, _⟩
            · exact List.mem_cons_of_mem _ (hv.sub k hk)
            · simp
          · rcases set_at.1 hk with hk | ⟨rfl, _⟩
            · exact set_at.2 (.inl (hv.down k hk y hy))
            · exact set_at.2 (.inl (hA y hy))
          · have hkS' : S.getD k false = false := bfalse.2 fun h => bfalse.1 hkS (set_at.2 (.inl h))
            have hki : k ≠ i := fun e => bfalse.1 hkS (set_at.2 (.inr ⟨e.symm, by rw [e]; exact szS i hlt⟩))
            have hkL := (List.mem_cons.1 hk).resolve_left hki
            obtain ⟨rk, dk, hrk, hEk, hEkb, hck⟩ := hv.del k hkL hkS'
            have notTi : inT T i k = true → False := fun hT => by
              have := inT_ok ht.hT hT (X := fun y => S.getD y false = true) hv.down hA
              rw [hkS'] at this; simp at this
            refine ⟨rk, dk, hrk, hEk, hEkb, ?_⟩
            cases hrd : rk.ins.reads with
            | true =>
              refine hag rk (List.mem_filterMap.2 ⟨k, hkL, ?_⟩)
              rw [if_pos ⟨hEkb, bfalse.2 notTi⟩, hrk]
              simp [hrd]
            | false =>
              refine chk_put (fun t ht' htm => ?_) (fun t ht' htd => ?_) (.inl hrd) hEk.quiet hck
              · rcases hEk.write i r t hr (Ne.symm hki) ht' htm with h | h
                · exact notT k hkL i hiL h
                · exact notTi h
              · rw [hEk.dst] at htd
                exact hEk.one i r hr (Ne.symm hki) (by rw [ht', ← htd])
          · cases hd : r.dst with
            | none =>
              simp only [hd, Fr.put, Env.put] at hto ⊢
              refine hv.agree t fun k hk hkS rk hrk => hto k (List.mem_cons_of_mem _ hk) (bfalse.2 fun h => ?_) rk hrk
              rcases set_at.1 h with h | ⟨rfl, _⟩
              · rw [hkS] at h; simp at h
              · exact hiL hk
            | some d' =>
              simp only [hd, Fr.put, Env.put] at hto ⊢
              split
              · rfl
              · refine hv.agree t fun k hk hkS rk hrk => hto k (List.mem_cons_of_mem _ hk) (bfalse.2 fun h => ?_) rk hrk
                rcases set_at.1 h with h | ⟨rfl, _⟩
                · rw [hkS] at h; simp at h
                · exact hiL hk
        · have := count_set (szS i hlt) hS
          omega
end
end Go.Proofs.YtmjbnfldehbmcaaDoor.Ab
