/-
The walk over the program's texts, told with what its values say: a part of it. No further condition.
-/
import Derived.Test.YtmjbnfldehbmcaaDoorAbDW
import Derived.Test.YtmjbnfldehbmcaaDoorAbY
namespace Go.Proofs.YtmjbnfldehbmcaaDoor
open Go.Proofs.YtmjbnfldehbmcaaDoor.Ab
set_option linter.unusedVariables false
open Lib (decDigits)
theorem New.base {σ σ' : St} {v : V} {s : List UInt8} (h : New σ σ' v s) {u : V} {b : List UInt8} (hu : ∀ σ, Bs σ u b) : Bs σ' u b := hu σ'
theorem Bs.chk2 {σ : St} {v : V} {s : List UInt8} (h : Bs σ v s) : ((cont σ 1 v).bind fun es => Option.map (fun s => (V.str s, σ)) (List.mapM Ab.byteOf es)) = some (V.str s, σ) := by
  have := congrArg (Option.map fun x => (x, σ)) h.b2s
  rw [Option.map_bind] at this
  simpa [Function.comp_def] using this
theorem writes_c (σ : St) (v : V) (us : List V) (bs : List (List UInt8)) (h : Bds v us bs) (ht : Tab σ) : CCalls Tryd.prog 3 [v] σ (fun o σ' => o = .ret (.bool true)) := by
  refine w_fn ok3 (by simp [c3]) fun Q hn hr hpq => ?_
  simp only [c3] at *
  have hq : ∀ f' σ', f'.ds = [] → f'.env 2 = .bool true → Q .ret f' σ' := fun f σ' h1 h2 => hr f _ ⟨h1, _, by simp [retV, resL, resV, one, h2], rfl⟩
  clear hn hr hpq
  have hlen := h.lenV σ
  refine w_seq ?_
  refine w_regk [0] fun K KP hk hkp => ?_
  simp
  apply hk; clear hk hkp K KP
  refine w_seq ?_
  refine w_seq ?_
  refine w_regk [0, 15] fun K KP hk hkp => ?_
  simp
  refine (ccalls_base (framed_c σ)).mono ?_
  rintro _ σ1 ⟨rfl, hW1⟩
  simp
  refine (light_c σ1 v us bs h).mono ?_
  rintro _ σ2 ⟨⟨r, rfl, hl⟩, e⟩
  obtain rfl := e.symm
  clear e
  simp
  apply hk; clear hk hkp K KP
  cases r with
  | false =>
    refine w_yes (by simp) ?_
    refine w_seq ?_
    refine w_regk [2] fun K KP hk hkp => ?_
    simp
    refine (framed_c σ1).mono ?_
    rintro _ σ2 rfl
    simp
    exact hk _ _ _ (w_ret (hq _ _ rfl (by simp)))
  | true =>
  obtain ⟨hb200, hb6⟩ := hl rfl
  refine w_no (by simp) ?_
  refine w_skip ?_
  refine w_seq ?_
  refine w_regk [0, 3] fun K KP hk hkp => ?_
  simp
  apply hk; clear hk hkp K KP
  refine w_seq ?_
  refine w_seq ?_
  refine w_regk [0, 3, 4] fun K KP hk hkp => ?_
  simp
  apply hk; clear hk hkp K KP
  refine w_block fun Q0 hn0 he0 hx0 hr0 hp0 => ?_
  refine w_loopk [0, 3, 4] (fun n vs σ' => ∃ (i : Nat) (a : V), i + n = bs.length ∧ vs = [v, a, .int .i64 i] ∧ Sl σ' 1 a ((allW (bs.take i)).map byteE) ∧ (∀ l, a.row = some l → l < σ'.n) ∧ σ'.W = σ.W) bs.length ⟨0, .nils, by simp, by simp, .inl ⟨rfl, by simp [allW]⟩, by simp [V.row], hW1⟩ ?_
  rintro n vs σ' ⟨i, a, hi, rfl, hsl, har, hW⟩ Qz z1 z2 z3 z4
  refine w_seq ?_
  refine w_seq ?_
  refine w_regk [0, 3, 4, 20] fun K KP hk hkp => ?_
  simp [hlen]
  apply hk; clear hk hkp K KP
  by_cases hib : i < bs.length
  rotate_left
  · refine w_no (vF hib) ?_
    refine w_exit (z2 _ _ _ (he0 _ _ ?_))
    rw [show bs.take i = bs from List.take_of_length_le (by omega)] at hsl
    have hbs : Bs σ' a (allW bs) := hsl.rd
    refine w_keep [0, 3] ?_
    refine w_seq ?_
    refine w_regk [0, 3, 6] fun K KP hk hkp => ?_
    simp
    refine (ccalls_base (new_c σ')).mono ?_
    rintro _ σ2 ⟨⟨rfl, o2, n2, k2⟩, hW2⟩
    simp
    apply hk; clear hk hkp K KP
    generalize hp : σ'.n = p at o2 k2 n2
    have hfed := fed_all bs hb6
    have hal := allW_len bs hb6
    refine w_seq ?_
    refine w_regk [0, 6, 7] fun K KP hk hkp => ?_
    simp
    have hbs2 : Bs σ2 a (allW bs) := hbs.mono fun l off len e => k2 l (by have := har l (by rw [e]; rfl); omega)
    refine (feed_c o2 good0 hbs2 (fun l e => ?_) (by omega)).mono ?_
    · have := har l e
      refine ⟨?_, by omega⟩
      simp [names, rowL, V.row]; omega
    rintro _ σ3 ⟨lv, bv, ov, oes, rfl, h3, g3, f3⟩
    simp
    apply hk; clear hk hkp K KP
    rw [hfed] at h3
    have lov : lenV ov = some (.int .i64 bs.length) := by rw [h3.out.rd.len, h3.msgs.len]; simp
    have hp3 := h3.own.at_
    simp only [cel] at hp3
    refine w_seq ?_
    refine w_seq ?_
    refine w_regk [0, 7, 52] fun K KP hk hkp => ?_
    simp [lov, hlen]
    refine (over_c hp3).mono ?_
    rintro _ σ5 ⟨rfl, e⟩
    obtain rfl := e.symm
    clear e
    simp [r0]
    apply hk; clear hk hkp K KP
    refine w_no (by simp) ?_
    refine w_skip ?_
    refine w_seq ?_
    refine w_seq ?_
    refine w_regk [0, 7, 8] fun K KP hk hkp => ?_
    simp
    apply hk; clear hk hkp K KP
    refine w_block fun Q2 hn2 he2 hx2 hr2 hp2 => ?_
    refine w_loopk [0, 7, 8] (fun n vs σ' => σ' = σ3 ∧ ∃ i : Nat, i + n = bs.length ∧ vs = [v, ov, .int .i64 i]) bs.length ⟨rfl, 0, by simp, by simp⟩ ?_
    rintro n vs σ4 ⟨e4, j, hj, rfl⟩ Qy y1 y2 y3 y4
    subst e4
    refine w_seq ?_
    refine w_seq ?_
    refine w_regk [0, 7, 8, 56] fun K KP hk hkp => ?_
    simp [lov]
    apply hk; clear hk hkp K KP
    by_cases hjb : j < bs.length
    rotate_left
    · refine w_no (vF hjb) ?_
      refine w_exit (y2 _ _ _ (he2 _ _ ?_))
      refine w_seq ?_
      refine w_regk [2] fun K KP hk hkp => ?_
      simp
      exact hk _ _ _ (w_ret (hq _ _ rfl (by simp)))
    refine w_yes (vT hjb) ?_
    refine w_skip ?_
    obtain ⟨u, b, hb, hu, hur, ha, hld⟩ := h.at hjb
    have ha' := fun σ => ha σ .i64
    obtain ⟨bb, a1, a2, a3, a4, a5, a6⟩ : ∃ bb, faV 0 (elA ov j) = some (celA ov j 0) ∧ faV 1 (elA ov j) = some (celA ov j 1) ∧ ldV σ4 (celA ov j 0) = some (.int .i64 1) ∧ ldV σ4 (celA ov j 1) = some bb ∧ Bs σ4 bb b ∧ ∀ kk, iaV σ4 2 ov (.int kk j) = some (elA ov j) := by
      obtain ⟨bb, hbb, sb⟩ := h3.msgs.get (i := j) (k := 1) (s := b) (by simp [hb])
      have hil := (List.getElem?_eq_some_iff.1 hbb).1
      exact ⟨bb, h3.out.rd.fa hil, h3.out.rd.fa hil, by rw [h3.out.rd.cel hbb]; rfl, by rw [h3.out.rd.cel hbb]; rfl, sb.rd, fun kk => h3.out.rd.at hil⟩
    have a6' := a6 .i64
    have s1 := a5.b2s
    have s2 := (hu σ4).b2s
    refine w_seq ?_
    refine w_block fun Q3 hn3 he3 hx3 hr3 hp3 => ?_
    refine w_seq ?_
    refine w_drwk [0, 7, 8, 78] fun K KP hk hkp => ?_
    simp [a1, a2, a3, a4, a6', ha', hld, s1, s2]
    apply hk; clear hk hkp K KP
    refine w_no (by simp) ?_
    refine w_skip (w_end (hn3 _ _ ?_))
    refine w_keep [0, 7, 8] ?_
    refine w_reg fun K KP hk hkp => ?_
    have h64 : IntKind.i64.wrap ((j : Int) + 1) = ((j + 1 : Nat) : Int) := by rw [IntWalk.i64_in _ (by omega)]; omega
    simp [h64]
    exact hk _ _ (w_end (y1 (n - 1) _ _ rfl (by omega) ⟨rfl, j + 1, by omega, by simp⟩))
  refine w_yes (vT hib) ?_
  refine w_skip ?_
  obtain ⟨u, b, hb, hu, hur, ha, hld⟩ := h.at hib
  have ha' := fun σ => ha σ .i64
  have hb6' := hb6 b (List.mem_of_getElem? hb)
  have hurn : ∀ (σ : St) l, u.row = some l → l < σ.n := fun σ l e => by rw [hur] at e; simp at e
  refine w_seq ?_
  refine w_block fun Q1 hn1 he1 hx1 hr1 hp1 => ?_
  refine w_seq ?_
  refine w_regk [0, 3, 4, 5] fun K KP hk hkp => ?_
  simp [ha', hld]
  refine (write_c σ' u b (hu σ') (hurn σ') (by omega) (by unfold Tab; rw [hW]; exact ht)).mono ?_
  rintro _ σ2 ⟨w, rfl, hw⟩
  simp
  apply hk; clear hk hkp K KP
  refine w_seq ?_
  refine w_seq ?_
  refine w_drwk [0, 3, 4, 5, 36] fun K KP hk hkp => ?_
  have s1 : Bs σ2 w (wr b) := hw.sl.rd
  have s1' := s1.b2s
  simp [ha', hld, s1']
  refine (rwrite_c σ2 u b (hu σ2) (hurn σ2) (by omega)).mono ?_
  rintro _ σ3 ⟨x, rfl, hx⟩
  have s2 : Bs σ3 x (wr b) := hx.sl.rd
  have s3 : Bs σ3 w (wr b) := s1.mono fun l off len e => hx.H l (hw.row l (by rw [e]; rfl)).2
  have s2' := s2.b2s
  have s3' := Bs.chk2 s3
  refine ⟨by simp [chk, evI, s3', wantG], ?_⟩
  simp [s2']
  apply hk; clear hk hkp K KP
  refine w_no (by simp) ?_
  refine w_skip ?_
  refine w_reg fun K KP hk hkp => ?_
  have hsl3 : Sl σ3 1 a ((allW (bs.take i)).map byteE) := hsl.mono fun l e => by
    have := har l e
    rw [hx.H l (by have := hw.n; omega), hw.H l this]
  have t1 := allW_len (bs.take i) fun c hc => hb6 c (List.mem_of_mem_take hc)
  have t2 : (bs.take i).length ≤ 200 := by simp; omega
  have t3 := wr_len b hb6'
  have hne : wr b ≠ [] := by simp [wr, hdr]
  have happ := hsl3.app (bytes := 1) (srcOf_rd s3) (by simpa using hne) (by simp only [reach, List.length_map]; omega) (by simp only [reach, List.length_map]; omega)
  simp [happ]
  refine hk _ _ (w_end (hn1 _ _ ?_))
  clear hk hkp K KP
  refine w_keep [0, 3, 4] ?_
  refine w_reg fun K KP hk hkp => ?_
  have h64 : IntKind.i64.wrap ((i : Int) + 1) = ((i + 1 : Nat) : Int) := by rw [IntWalk.i64_in _ (by omega)]; omega
  simp [h64]
  refine hk _ _ (w_end (z1 (n - 1) _ _ rfl (by omega) ⟨i + 1, _, by omega, by simp; rfl, ?_, fun l e => ?_, ?_⟩))
  · have : allW (bs.take (i + 1)) = allW (bs.take i) ++ wr b := by rw [mem_take hb]; simp [allW]
    rw [this]
    exact .inr ⟨σ3.n, by simp, by simp⟩
  · simp [V.row] at e; subst e; simp
  · simp [hx.W, hw.W, hW]
theorem writes_top (W : World) (us : List V) (hu : TypedA [.one (.slc (.slc (.int .u8 .nil) .nil) .nil)] us) (ht : Lib.TabIs Tryd.prog W "internal/strconv.uint64pow10" .u64 Lib.pow10Tab) :
    CCalls Tryd.prog 3 us (σ0 W) (fun o _ => o = .ret (.bool true)) := by
  obtain ⟨v, _, rfl, ⟨v', _, e, h, rfl⟩, rfl⟩ := hu
  simp at e; subst e
  have key : ∃ us bs, Bds v us bs := by
    rcases h with rfl | ⟨es, rfl, hm, hes⟩
    · exact ⟨[], [], fun σ => rfl, rfl, rfl, fun i u b h => by simp at h⟩
    · have : ∃ (us : List V) (bs : List (List UInt8)), es = us.map ([·]) ∧ us.length = bs.length ∧ ∀ (i : Nat) u b, us[i]? = some u → bs[i]? = some b → (∀ σ, Bs σ u b) ∧ u.row = none := by
        clear hm
        induction es with
        | nil => exact ⟨[], [], rfl, rfl, fun i u b h => by simp at h⟩
        | cons e es ih =>
          obtain ⟨us, bs, rfl, h1, h2⟩ := ih fun e' he => hes e' (by simp [he])
          have he := hes e (by simp)
          obtain ⟨u, vs', rfl, hu, rfl⟩ := he
          obtain ⟨b, h3, h4, _⟩ := typed_bytes (u := u) ⟨u, [], rfl, hu, rfl⟩
          refine ⟨u :: us, b :: bs, rfl, by simp [h1], fun i u' b' hi hj => ?_⟩
          cases i with
          | zero => simp at hi hj; subst hi; subst hj; exact ⟨h3, h4⟩
          | succ i => exact h2 i u' b' (by simpa using hi) (by simpa using hj)
      obtain ⟨us, bs, rfl, h1, h2⟩ := this
      exact ⟨us, bs, fun σ => by simp [Rd, cont, CT.len], rfl, h1, h2⟩
  obtain ⟨us, bs, hb⟩ := key
  exact writes_c _ v us bs hb ht
end Go.Proofs.YtmjbnfldehbmcaaDoor
