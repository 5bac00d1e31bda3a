/-
The walk over the program's texts, told with what its values say: a part of it. No further condition.
-/
import Derived.Test.YtmjbnfldehbmcaaDoorAbJ
namespace Go.Proofs.YtmjbnfldehbmcaaDoor.Ab
open Go.RowKit
set_option linter.unusedVariables false
set_option linter.unusedSimpArgs false
/-- All rows that it names have a name below n. -/
inductive Lt (n : Nat) : V → Prop where
  | bool (b : Bool) : Lt n (.bool b)
  | int (k : IntKind) (i : Int) : Lt n (.int k i)
  | str (s : List UInt8) : Lt n (.str s)
  | nilp : Lt n .nilp
  | ptr (l i j : Nat) (h : l < n) : Lt n (.ptr l i j)
  | iptr (e : List V) (j : Nat) : Lt n (.iptr e j)
  | nils : Lt n .nils
  | slc (l o k : Nat) (h : l < n) : Lt n (.slc l o k)
  | islc (z : Nat) (es : List (List V)) : Lt n (.islc z es)
  | mapn : Lt n .mapn
  | map (l : Nat) (h : l < n) : Lt n (.map l)
  | func (fn : Fn) (a b : List V) (ha : ∀ v ∈ a, Lt n v) (hb : ∀ v ∈ b, Lt n v) : Lt n (.func fn a b)
  | nilf : Lt n .nilf
  | iface (t : TypeId) (v : V) (h : Lt n v) : Lt n (.iface t v)
  | nili : Lt n .nili
  | agg (vs : List V) (h : ∀ v ∈ vs, Lt n v) : Lt n (.agg vs)
  | tup (vs : List V) (h : ∀ v ∈ vs, Lt n v) : Lt n (.tup vs)
  | any : Lt n .any
def BLt (n : Nat) : Blk → Prop
  | .row _ es => ∀ e ∈ es, ∀ v ∈ e, Lt n v
  | .map es => ∀ p ∈ es, Lt n p.1 ∧ Lt n p.2
section
variable {P : Program} {φ φ' : Phi} {I I' : Nat → Prop} {σ σ' : St} {w w' : World}
theorem mem_get {α : Type} {l : List α} {x : α} (h : x ∈ l) : ∃ i : Nat, l[i]? = some x := List.mem_iff_getElem?.1 h
theorem Rel.lt {n : Nat} (hd : ∀ l x, φ l = some x → l < n) {v : V} {c : Value} (h : Rel φ I w v c) : Lt n v := by
  induction h with
  | bool b => exact .bool b
  | int k n => exact .int k n
  | str h => exact .str _
  | nilp => exact .nilp
  | ptr i j h => exact .ptr _ _ _ (hd _ _ h)
  | iptr j => exact .iptr _ _
  | nils => exact .nils
  | slc h => exact .slc _ _ _ (hd _ _ h)
  | islc => exact .islc _ _
  | mapn => exact .mapn
  | map h => exact .map _ (hd _ _ h)
  | func fn h1 r1 h2 r2 ih1 ih2 =>
    exact .func _ _ _ (fun v hv => by obtain ⟨i, hi⟩ := mem_get hv; exact ih1 i v hi) (fun v hv => by obtain ⟨i, hi⟩ := mem_get hv; exact ih2 i v hi)
  | nilf => exact .nilf
  | iface t h ih => exact .iface _ _ ih
  | nili => exact .nili
  | agg h r ih => exact .agg _ (fun v hv => by obtain ⟨i, hi⟩ := mem_get hv; exact ih i v hi)
  | tup h r ih => exact .tup _ (fun v hv => by obtain ⟨i, hi⟩ := mem_get hv; exact ih i v hi)
  | any c => exact .any
theorem pure_lt {n : Nat} : ∀ {v : V}, v.pure = true → Lt n v
  | .bool b, _ => .bool b
  | .int k i, _ => .int k i
  | .str s, _ => .str s
  | .nilp, _ => .nilp
  | .ptr _ _ _, h => by simp [V.pure] at h
  | .iptr e j, _ => .iptr e j
  | .nils, _ => .nils
  | .slc _ _ _, h => by simp [V.pure] at h
  | .islc z es, _ => .islc z es
  | .mapn, _ => .mapn
  | .map _, h => by simp [V.pure] at h
  | .func fn a b, h => by
    simp only [V.pure, Bool.and_eq_true, List.isEmpty_iff] at h
    obtain ⟨rfl, rfl⟩ := h
    exact .func fn [] [] (fun v h => by simp at h) (fun v h => by simp at h)
  | .nilf, _ => .nilf
  | .iface t v, h => .iface t v (pure_lt (by cases v <;> simp_all [V.pure]))
  | .nili, _ => .nili
  | .agg _, h => by simp [V.pure] at h
  | .tup _, h => by simp [V.pure] at h
  | .any, _ => .any
/-- What names rows below n alone is told by what is known of these. -/
theorem Rel.cut {n : Nat} (hφ : ∀ l x, l < n → φ l = some x → φ' l = some x) (hI : ∀ b, I b → I' b) {v : V} {c : Value} (h : Rel φ I w v c) (hl : Lt n v) : Rel φ' I' w v c := by
  induction h with
  | bool b => exact .bool b
  | int k n => exact .int k n
  | str h => exact .str h
  | nilp => exact .nilp
  | ptr i j h => cases hl with | ptr _ _ _ hh => exact .ptr i j (hφ _ _ hh h)
  | iptr j hb hcs ho hp hr ih => exact .iptr j (hI _ hb) hcs ho hp (fun k v hk => ih k v hk (pure_lt (List.all_eq_true.1 hp v (List.mem_of_getElem? hk))))
  | nils => exact .nils
  | slc h hl' hn ha => cases hl with | slc _ _ _ hh => exact .slc (hφ _ _ hh h) hl' hn ha
  | islc hl' ha hz hcs ho hp hr ih =>
    exact .islc hl' (fun e => ⟨(ha e).1, hI _ (ha e).2⟩) hz hcs ho hp (fun i j e v h1 h2 => ih i j e v h1 h2 (pure_lt (List.all_eq_true.1 (List.all_eq_true.1 hp e (List.mem_of_getElem? h1)) v (List.mem_of_getElem? h2))))
  | mapn => exact .mapn
  | map h => cases hl with | map _ hh => exact .map (hφ _ _ hh h)
  | func fn h1 r1 h2 r2 ih1 ih2 =>
    cases hl with
    | func _ _ _ ha hb => exact .func fn h1 (fun i v hv => ih1 i v hv (ha v (List.mem_of_getElem? hv))) h2 (fun i v hv => ih2 i v hv (hb v (List.mem_of_getElem? hv)))
  | nilf => exact .nilf
  | iface t h ih => cases hl with | iface _ _ hh => exact .iface t (ih hh)
  | nili => exact .nili
  | agg h r ih => cases hl with | agg _ hh => exact .agg h (fun i v hv => ih i v hv (hh v (List.mem_of_getElem? hv)))
  | tup h r ih => cases hl with | tup _ hh => exact .tup h (fun i v hv => ih i v hv (hh v (List.mem_of_getElem? hv)))
  | any c => exact .any c
/-! Rows that nobody writes any more are told whole; what is named from n on is forgotten. -/
def frzS (H : Nat → Option Blk) (n : Nat) (g : V → V) : V → V
  | .slc l off len => if l < n then .slc l off len else match H l with
    | some (.row z es) => if off + len ≤ es.length ∧ (((es.drop off).take len).map (·.map g)).all (·.all V.pure) = true then .islc z (((es.drop off).take len).map (·.map g)) else .any
    | _ => .any
  | .ptr l i j => if l < n then .ptr l i j else match H l with
    | some (.row z es) => match es[i]? with
      | some e => if (e.map g).all V.pure = true then .iptr (e.map g) j else .any
      | none => .any
    | _ => .any
  | .map l => if l < n then .map l else .any
  | .func fn a b => .func fn (a.map g) (b.map g)
  | .iface t v => .iface t (match v with | .agg cs => .agg (cs.map g) | v => g v)
  | .agg _ => .any
  | .tup _ => .any
  | v => v
def frzC (H : Nat → Option Blk) (n : Nat) : Nat → V → V
  | 0 => fun v => if v.pure then v else .any
  | k + 1 => frzS H n (frzC H n k)
def frzA (H : Nat → Option Blk) (n : Nat) : V → V
  | .agg cs => .agg (cs.map (frzC H n 4))
  | v => frzC H n 4 v
def frzV (H : Nat → Option Blk) (n : Nat) : V → V
  | .agg cs => .agg (cs.map (frzC H n 4))
  | .tup vs => .tup (vs.map (frzA H n))
  | v => frzC H n 4 v
def frzO (H : Nat → Option Blk) (n : Nat) : CO → CO
  | .ret v => .ret (frzV H n v)
  | .panic v => .panic (frzV H n v)
def cutPhi (φ : Phi) (n : Nat) : Phi := fun l => if l < n then φ l else none
def frzI (φ : Phi) (I : Nat → Prop) (σ : St) (n : Nat) : Nat → Prop := fun b => I b ∨ ∃ l x, n ≤ l ∧ (σ.H l).isSome = true ∧ φ l = some x ∧ x.1 = b
def St.cut (σ : St) (n : Nat) : St := ⟨fun l => if l < n then σ.H l else none, n, σ.W⟩
theorem frz_map {n : Nat} {vs : List V} {cs : Array Value} {g : V → V} (h : RelA φ I w vs cs) (hg : ∀ v c, Rel φ I w v c → Rel (cutPhi φ n) (frzI φ I σ n) w (g v) c) : RelA (cutPhi φ n) (frzI φ I σ n) w (vs.map g) cs :=
  ⟨by simpa using h.1, fun i v hv => by
    simp only [List.getElem?_map, Option.map_eq_some_iff] at hv
    obtain ⟨u, hu, rfl⟩ := hv
    exact hg _ _ (h.2 i u hu)⟩
theorem frzS_rel (hs : Sim φ I σ w) (n : Nat) {g : V → V} (ih : ∀ v c, Rel φ I w v c → Rel (cutPhi φ n) (frzI φ I σ n) w (g v) c) (v : V) (c : Value) (h : Rel φ I w v c) : Rel (cutPhi φ n) (frzI φ I σ n) w (frzS σ.H n g v) c := by
  have hcut : ∀ l x, l < n → φ l = some x → cutPhi φ n l = some x := fun l x h e => by simp [cutPhi, h, e]
  have hI : ∀ b, I b → frzI φ I σ n b := fun b h => .inl h
  unfold frzS
  split
  · rename_i l off len
    split
    · rename_i hl; exact h.cut hcut hI (.slc _ _ _ hl)
    · rename_i hl
      split
      · rename_i z es hH
        split
        · rename_i hc
          cases h with
          | slc hφ hlc hN ha =>
            rename_i b base z' cap ad
            obtain ⟨b', base', arr, t', fz, e1, hhp, hfz, hpos, hzz, hsz, ho, hr⟩ := hs.row hH
            rw [hφ] at e1
            simp only [Option.some.injEq, Prod.mk.injEq] at e1
            obtain ⟨rfl, rfl, rfl⟩ := e1
            have hlen : (((es.drop off).take len).map (·.map g)).length = len := by simp; omega
            have hidx : ∀ i j, i < len → j < z' → base + off * z' + i * z' + j = base + (off + i) * z' + j := fun i j _ _ => by rw [Nat.add_mul]; omega
            have hlt : ∀ i j, i < len → j < z' → base + (off + i) * z' + j < arr.size := fun i j hi hj => by have := mul_lt_of (z := z') (show off + i < es.length by omega) hj; omega
            refine cast (by rw [hlen]) (Rel.islc (φ := cutPhi φ n) (I := frzI φ I σ n) (w := w) (z := z') (es := ((es.drop off).take len).map (·.map g)) (b := b) (o := base + off * z') (cap := cap) (a := ad)
              (cs := fun i j => arr.getD (base + (off + i) * z' + j) undef) (by omega) (fun hne => ⟨ha (fun e0 => ?_), .inr ⟨l, _, by omega, by rw [hH]; rfl, hφ, rfl⟩⟩) (fun e he => ?_) (fun i j hi hj => ?_) (fun i j hi hj => ho _ _ (by rw [hlen] at hi; omega) hj) hc.2 (fun i j e v h1 h2 => ?_))
            · have : len = 0 := by omega
              exact hne (List.length_eq_zero_iff.1 (by rw [hlen]; exact this))
            · simp only [List.mem_map] at he
              obtain ⟨e', he', rfl⟩ := he
              rw [List.length_map]
              exact hzz _ (List.mem_of_mem_drop (List.mem_of_mem_take he'))
            · rw [hlen] at hi
              rw [hidx i j hi hj]
              have := hlt i j hi hj
              simp [World.cell?, hhp, this]
            · simp only [List.getElem?_map, Option.map_eq_some_iff] at h1
              obtain ⟨e', he', rfl⟩ := h1
              simp only [List.getElem?_map, Option.map_eq_some_iff] at h2
              obtain ⟨v', hv', rfl⟩ := h2
              simp only [List.getElem?_take] at he'
              split at he'
              · rw [List.getElem?_drop] at he'
                exact ih _ _ (hr _ _ _ _ he' hv')
              · simp at he'
        · exact .any _
      · exact .any _
  · rename_i l i j
    split
    · rename_i hl; exact h.cut hcut hI (.ptr _ _ _ hl)
    · rename_i hl
      split
      · rename_i z es hH
        split
        · rename_i e he
          split
          · rename_i hc
            cases h with
            | ptr i j hφ =>
              rename_i b base z'
              obtain ⟨b', base', arr, t', fz, e1, hhp, hfz, hpos, hzz, hsz, ho, hr⟩ := hs.row hH
              rw [hφ] at e1
              simp only [Option.some.injEq, Prod.mk.injEq] at e1
              obtain ⟨rfl, rfl, rfl⟩ := e1
              have hil := (List.getElem?_eq_some_iff.1 he).1
              have hel := hzz e (List.mem_of_getElem? he)
              refine .iptr (o := base + i * z') (cs := fun k => arr.getD (base + i * z' + k) undef) j (.inr ⟨l, _, by omega, by rw [hH]; rfl, hφ, rfl⟩) (fun q hq => ?_) (fun q hq => ho _ _ hil (by simpa [hel] using hq)) hc (fun q v hv => ?_)
              · rw [List.length_map, hel] at hq
                have := mul_lt_of hil hq
                simp [World.cell?, hhp, show base + i * z' + q < arr.size by omega]
              · simp only [List.getElem?_map, Option.map_eq_some_iff] at hv
                obtain ⟨v', hv', rfl⟩ := hv
                exact ih _ _ (hr _ _ _ _ he hv')
          · exact .any _
        · exact .any _
      · exact .any _
  · rename_i l
    split
    · rename_i hl; exact h.cut hcut hI (.map _ hl)
    · exact .any _
  · cases h with
    | func fn h1 r1 h2 r2 =>
      obtain ⟨a1, a2⟩ := frz_map (σ := σ) (n := n) ⟨h1, r1⟩ ih
      obtain ⟨b1, b2⟩ := frz_map (σ := σ) (n := n) ⟨h2, r2⟩ ih
      exact .func _ a1 a2 b1 b2
  · rename_i t v
    cases h with
    | iface _ hv =>
      refine .iface t ?_
      split
      · cases hv with
        | agg h1 r1 =>
          obtain ⟨a1, a2⟩ := frz_map (σ := σ) (n := n) ⟨h1, r1⟩ ih
          exact .agg a1 a2
      · exact ih _ _ hv
  · exact .any _
  · exact .any _
  · rename_i h1 h2 h3 h4 h5 h6 h7
    cases h with
    | bool b => exact .bool b
    | int k n => exact .int k n
    | str h => exact .str h
    | nilp => exact .nilp
    | ptr i j h => exact (h2 _ _ _ rfl).elim
    | iptr j hb hcs ho hp hr => exact (Rel.iptr j hb hcs ho hp hr).cut hcut hI (.iptr _ _)
    | nils => exact .nils
    | slc => exact (h1 _ _ _ rfl).elim
    | islc hl' ha hz hcs ho hp hr => exact (Rel.islc hl' ha hz hcs ho hp hr).cut hcut hI (.islc _ _)
    | mapn => exact .mapn
    | map h => exact (h3 _ rfl).elim
    | func => exact (h4 _ _ _ rfl).elim
    | nilf => exact .nilf
    | iface => exact (h5 _ _ rfl).elim
    | nili => exact .nili
    | agg => exact (h6 _ rfl).elim
    | tup => exact (h7 _ rfl).elim
    | any c => exact .any c
theorem frzC_rel (hs : Sim φ I σ w) (n : Nat) : ∀ (k : Nat) (v : V) (c : Value), Rel φ I w v c → Rel (cutPhi φ n) (frzI φ I σ n) w (frzC σ.H n k v) c
  | 0, v, c, h => by
    unfold frzC
    split
    · rename_i hp; exact h.cut (fun l x (h : l < n) e => by simp [cutPhi, h, e]) (fun b h => .inl h) (pure_lt hp)
    · exact .any _
  | k + 1, v, c, h => frzS_rel hs n (frzC_rel hs n k) v c h
theorem frzA_rel (hs : Sim φ I σ w) (n : Nat) {v : V} {c : Value} (h : Rel φ I w v c) : Rel (cutPhi φ n) (frzI φ I σ n) w (frzA σ.H n v) c := by
  unfold frzA
  split
  · cases h with
    | agg h1 r1 =>
      obtain ⟨a1, a2⟩ := frz_map (σ := σ) (n := n) ⟨h1, r1⟩ (frzC_rel hs n 4)
      exact .agg a1 a2
  · exact frzC_rel hs n 4 _ _ h
theorem frzV_rel (hs : Sim φ I σ w) (n : Nat) {v : V} {c : Value} (h : Rel φ I w v c) : Rel (cutPhi φ n) (frzI φ I σ n) w (frzV σ.H n v) c := by
  unfold frzV
  split
  · cases h with
    | agg h1 r1 =>
      obtain ⟨a1, a2⟩ := frz_map (σ := σ) (n := n) ⟨h1, r1⟩ (frzC_rel hs n 4)
      exact .agg a1 a2
  · cases h with
    | tup h1 r1 =>
      obtain ⟨a1, a2⟩ := frz_map (σ := σ) (n := n) ⟨h1, r1⟩ (fun v c h => frzA_rel hs n h)
      exact .tup a1 a2
  · exact frzC_rel hs n 4 _ _ h
theorem BlkRel.cut {n : Nat} (hφ : ∀ l x, l < n → φ l = some x → φ' l = some x) (hI : ∀ b, I b → I' b) {b : Blk} {x : Nat × Nat × Nat} (h : BlkRel φ I w b x) (hl : BLt n b) : BlkRel φ' I' w b x := by
  cases h with
  | row hh hfz hpos hz hsz ho hr => exact .row hh hfz hpos hz hsz ho (fun i j e v h1 h2 => (hr i j e v h1 h2).cut hφ hI (hl e (List.mem_of_getElem? h1) v (List.mem_of_getElem? h2)))
  | map hh hn hr => exact .map hh hn (fun i kv e h1 h2 => ⟨(hr i kv e h1 h2).1.cut hφ hI (hl kv (List.mem_of_getElem? h1)).1, (hr i kv e h1 h2).2.cut hφ hI (hl kv (List.mem_of_getElem? h1)).2⟩)
theorem Sim.blt (hs : Sim φ I σ w) {l : Nat} {b : Blk} (h : σ.H l = some b) : BLt σ.n b := by
  obtain ⟨x, _, hb⟩ := hs.live _ _ h
  cases hb with
  | row hh hfz hpos hz hsz ho hr => exact fun e he v hv => by obtain ⟨i, hi⟩ := mem_get he; obtain ⟨j, hj⟩ := mem_get hv; exact (hr i j e v hi hj).lt hs.dom
  | map hh hn hr =>
    intro kv hkv
    obtain ⟨i, hi⟩ := mem_get hkv
    obtain ⟨hlt, _⟩ := List.getElem?_eq_some_iff.1 hi
    rw [← hn] at hlt
    have := hr i kv _ hi (Array.getElem?_eq_getElem hlt)
    exact ⟨this.1.lt hs.dom, this.2.lt hs.dom⟩
theorem sim_cut {n : Nat} (hs : Sim φ I σ w) (hb : ∀ l b, l < n → σ.H l = some b → BLt n b) : Sim (cutPhi φ n) (frzI φ I σ n) (σ.cut n) w := by
  have hcut : ∀ l x, l < n → φ l = some x → cutPhi φ n l = some x := fun l x h e => by simp [cutPhi, h, e]
  have hlive : ∀ l, ((σ.cut n).H l).isSome = true → l < n ∧ (σ.H l).isSome = true := fun l h => by
    simp only [St.cut] at h
    split at h
    · rename_i hl; exact ⟨hl, h⟩
    · simp at h
  have hph : ∀ l x, cutPhi φ n l = some x → l < n ∧ φ l = some x := fun l x h => by
    simp only [cutPhi] at h
    split at h
    · rename_i hl; exact ⟨hl, h⟩
    · simp at h
  refine ⟨fun l x h => (hph l x h).1, fun l x h => hs.blk l x (hph l x h).2, fun l b h => ?_, fun b hl hi => ?_, fun l l' x x' h1 h2 h3 h4 he => hs.inj l l' x x' (hlive l h1).2 (hlive l' h2).2 (hph l x h3).2 (hph l' x' h4).2 he, fun b h => ?_, fun b h => ⟨.inl (hs.base b h).1, (hs.base b h).2⟩⟩
  · have hl := (hlive l (by rw [h]; rfl)).1
    simp only [St.cut, if_pos hl] at h
    obtain ⟨x, hx, hbr⟩ := hs.live l b h
    exact ⟨x, hcut l x hl hx, hbr.cut hcut (fun b h => .inl h) (hb l b hl h)⟩
  · obtain ⟨l, x, h1, h2, rfl⟩ := hl
    obtain ⟨hl, h1⟩ := hlive l h1
    have h2 := (hph l x h2).2
    rcases hi with hi | ⟨l', x', h3, h4, h5, h6⟩
    · exact hs.notI _ ⟨l, x, h1, h2, rfl⟩ hi
    · have := hs.inj l l' x x' h1 h4 h2 h5 h6.symm
      omega
  · rcases h with h | ⟨l, x, _, _, h, rfl⟩
    · exact hs.imm b h
    · exact hs.blk l x h
/-- What a call left behind is forgotten, but for what it hands back. -/
def Trunc (σ : St) (R : CO → St → Prop) (o : CO) (σ' : St) : Prop :=
  (∀ l b, l < σ.n → σ'.H l = some b → σ.H l = some b ∨ BLt σ.n b) ∧ R (frzO σ'.H σ.n o) (σ'.cut σ.n)
theorem ccalls_trunc {k : FuncId} {vs : List V} {R : CO → St → Prop} (h : CCalls P k vs σ (Trunc σ R)) : CCalls P k vs σ R := by
  intro φ I w cs hs ha
  refine (h φ I w cs hs ha).mono fun e w' ⟨o, σ', φ', I', ⟨h1, h2⟩, h3, h4, h5⟩ => ?_
  refine ⟨_, _, cutPhi φ' σ.n, frzI φ' I' σ' σ.n, h2, ?_, ⟨fun l x hx => ?_, fun b hb => .inl (h4.imm b hb), fun b hb => ?_, fun b hb => ?_, h4.size, h4.shape, h4.frame, h4.os, h4.tape, h4.output, h4.base⟩, sim_cut h5 fun l b hl hb => ?_⟩
  · cases h3 with
    | ret hv => exact .ret (frzV_rel h5 _ hv)
    | panic hv => exact .panic (frzV_rel h5 _ hv)
  · simp only [cutPhi, if_pos (hs.dom l x hx)]
    exact h4.phi l x hx
  · rcases hb with hb | ⟨l, x, _, h6, h7, rfl⟩
    · exact h4.immNew b hb
    · exact .inr (h4.liveNew _ ⟨l, x, h6, h7, rfl⟩)
  · obtain ⟨l, x, h6, h7, rfl⟩ := hb
    refine h4.liveNew _ ⟨l, x, ?_, ?_, rfl⟩
    · simp only [St.cut] at h6
      split at h6
      · exact h6
      · simp at h6
    · simp only [cutPhi] at h7
      split at h7
      · exact h7
      · simp at h7
  · rcases h1 l b hl hb with h | h
    · exact hs.blt h
    · exact h
/-- A function that answers alone: the call changes nothing. -/
theorem ccalls_base {k : FuncId} {vs : List V} {R : CO → St → Prop} (h : CCalls P k vs σ R) : CCalls P k vs σ fun o σ' => R o σ' ∧ σ'.W = σ.W := fun φ I w cs hs ha =>
  (h φ I w cs hs ha).mono fun e w' ⟨o, σ', φ', I', h1, h2, h3, h4⟩ => ⟨o, σ', φ', I', ⟨h1, h3.base⟩, h2, h3, h4⟩
theorem ccalls_pure {k : FuncId} {vs : List V} {v : V} (h : CCalls P k vs σ fun o σ' => (∀ l, l < σ.n → σ'.H l = σ.H l) ∧ frzO σ'.H σ.n o = .ret v) : CCalls P k vs σ fun o σ' => o = .ret v ∧ σ' = σ := by
  intro φ I w cs hs ha
  refine ccalls_trunc (R := fun o σ' => o = .ret v ∧ σ' = σ) ((ccalls_base h).mono fun o σ' ⟨⟨h1, h2⟩, hW⟩ => ⟨fun l b hl hb => .inl (by rw [← h1 l hl]; exact hb), h2, ?_⟩) φ I w cs hs ha
  have hnone : ∀ l, ¬ l < σ.n → σ.H l = none := fun l hl => by
    cases hb : σ.H l with
    | none => rfl
    | some b => obtain ⟨x, hx, _⟩ := hs.live l b hb; exact absurd (hs.dom l x hx) hl
  cases σ with
  | mk H n W =>
    simp only [St.cut, St.mk.injEq, true_and]
    refine ⟨?_, hW⟩
    funext l
    split
    · rename_i hl; exact h1 l hl
    · rename_i hl; exact (hnone l hl).symm
end
end Go.Proofs.YtmjbnfldehbmcaaDoor.Ab
