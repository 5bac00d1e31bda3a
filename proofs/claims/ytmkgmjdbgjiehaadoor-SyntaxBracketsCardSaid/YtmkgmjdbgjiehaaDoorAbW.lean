/-
The walk over the program's texts, told with what its values say: a part of it. No further condition.
-/
import Derived.Test.YtmkgmjdbgjiehaaDoorAbQa
import Derived.Test.YtmkgmjdbgjiehaaDoorAbO
import Derived.Test.YtmkgmjdbgjiehaaDoorAbSwG
import Derived.Test.YtmkgmjdbgjiehaaDoorShelf
import Derived.Test.YtmkgmjdbgjiehaaDoorAbPt
import Derived.Below
import Derived.WalkKit
namespace Go.Proofs.YtmkgmjdbgjiehaaDoor.Ab
set_option linter.unusedVariables false
def hdP : List Pc := [⟨2, [102, 110], false⟩, ⟨1, [97], true⟩, ⟨4, [40], false⟩, ⟨4, [41], false⟩, ⟨4, [45, 62], true⟩, ⟨2, [105, 110, 116], true⟩, ⟨4, [61], true⟩]
section
variable {M : Nat} {L : List TK}
theorem hd_item {us bb rest : List TK} {tsc : TK} {e : Ex} (hm : Mt hdP us) (s1 : tsc.kind = 4) (s2 : tsc.txt = [59]) (h : ∀ n d, Q (exprT M L n d (bb ++ tsc :: rest)) e (tsc :: rest)) (n : Nat) :
    itemT M L n (us ++ (bb ++ tsc :: rest)) = .off ∨ (∃ a b r, itemT M L n (us ++ (bb ++ tsc :: rest)) = .bad a b 13 r) ∨ ∃ it', er it'.body = er e ∧ itemT M L n (us ++ (bb ++ tsc :: rest)) = tailR it' rest := by
  obtain ⟨tf, u1, rfl, f1, f2, h1⟩ := Mt.cons hm
  obtain ⟨ta, u2, rfl, a1, a2, h2⟩ := Mt.cons h1
  obtain ⟨tp, u3, rfl, p1, p2, h3⟩ := Mt.cons h2
  obtain ⟨tc, u4, rfl, c1, c2, h4⟩ := Mt.cons h3
  obtain ⟨tr, u5, rfl, r1, r2, h5⟩ := Mt.cons h4
  obtain ⟨ti, u6, rfl, i1, i2, h6⟩ := Mt.cons h5
  obtain ⟨te, u7, rfl, e1, e2, h7⟩ := Mt.cons h6
  obtain rfl := h7.nil
  simp only at f1 f2 a1 a2 p1 p2 c1 c2 r1 r2 i1 i2 e1 e2
  generalize hX : bb ++ tsc :: rest = X at h ⊢
  have e0 : headT M L n (tf :: ta :: tp :: tc :: tr :: ti :: te :: X) = (parsT M L n n [] (tc :: tr :: ti :: te :: X)).bind fun l r4 => (wantT [41] r4).bind fun _ r5 => (wantT [45, 62] r5).bind fun _ r6 => (typT M L n r6).bind fun y r7 => .ok (⟨1, false, ta, l, y⟩ : Hd) r7 := by
    unfold headT
    rw [takeT_p (p := ⟨2, [102, 110], false⟩) f1 f2]
    simp only [isP]
    show (match takeT [112, 117, 98] (tf :: ta :: tp :: tc :: tr :: ti :: te :: X) with | some r => Rs.ok true r | none => .ok false (tf :: ta :: tp :: tc :: tr :: ti :: te :: X)).bind _ = _
    rw [takeT_p (p := ⟨2, [102, 110], false⟩) f1 f2]
    show (wantT [102, 110] (tf :: ta :: tp :: tc :: tr :: ti :: te :: X)).bind _ = _
    rw [wantT_p (p := ⟨2, [102, 110], false⟩) f1 f2 rfl, Rs.bind_ok, nameT_p a1, Rs.bind_ok, wantT_p (p := ⟨4, [40], false⟩) p1 p2 rfl, Rs.bind_ok]
  have hh : headT M L n (tf :: ta :: tp :: tc :: tr :: ti :: te :: X) = .off ∨ ∃ hd : Hd, headT M L n (tf :: ta :: tp :: tc :: tr :: ti :: te :: X) = .ok hd (te :: X) := by
    rw [e0]
    cases n with
    | zero => left; simp [parsT]
    | succ n =>
      right
      have hps : parsT M L (n + 1) (n + 1) [] (tc :: tr :: ti :: te :: X) = .ok [] (tc :: tr :: ti :: te :: X) := by
        unfold parsT
        rw [if_pos (by simp [isT, c1, c2])]
      rw [hps, Rs.bind_ok, wantT_p (p := ⟨4, [41], false⟩) c1 c2 rfl, Rs.bind_ok, wantT_p (p := ⟨4, [45, 62], true⟩) r1 r2 rfl, Rs.bind_ok]
      unfold typT
      simp only
      rw [takeT_p (p := ⟨2, [105, 110, 116], true⟩) i1 i2]
      simp only [isP]
      refine ⟨⟨1, false, ta, [], ⟨1, 0, none, ti.fr, toT L (te :: X)⟩⟩, ?_⟩
      show ((needT (te :: X) (match takeT [123] (te :: X) with | some r3 => _ | none => _)).bind _) = _
      rw [takeT_p (p := ⟨4, [61], true⟩) e1 e2]
      rfl
  unfold itemT
  rcases hh with hh | ⟨hd, hh⟩
  · left
    show (headT M L n (tf :: ta :: tp :: tc :: tr :: ti :: te :: X)).bind _ = _
    rw [hh]; rfl
  · show (headT M L n (tf :: ta :: tp :: tc :: tr :: ti :: te :: X)).bind _ = _ ∨ (∃ a b r, (headT M L n (tf :: ta :: tp :: tc :: tr :: ti :: te :: X)).bind _ = _) ∨ ∃ it' : It, er it'.body = er e ∧ (headT M L n (tf :: ta :: tp :: tc :: tr :: ti :: te :: X)).bind _ = _
    rw [hh]
    simp only [Rs.bind_ok]
    rw [wantT_p (p := ⟨4, [61], true⟩) e1 e2 rfl, Rs.bind_ok]
    rcases h n 0 with hx | ⟨a, b, r, hx⟩ | ⟨e', hx, he'⟩
    · rw [hx]; exact .inl rfl
    · rw [hx]; exact .inr (.inl ⟨a, b, r, rfl⟩)
    · rw [hx, Rs.bind_ok, wantT_p (p := ⟨4, [59], false⟩) s1 s2 rfl, Rs.bind_ok]
      exact .inr (.inr ⟨⟨hd.kind, hd.pub, hd.nm.txt, hd.nm.fr, hd.nm.to, hd.params, hd.result, e'⟩, he', by cases rest <;> rfl⟩)
end
end Go.Proofs.YtmkgmjdbgjiehaaDoor.Ab
namespace Go.Proofs.YtmkgmjdbgjiehaaDoor.Ab
set_option linter.unusedVariables false
set_option linter.unusedSimpArgs false
theorem mt_par {ps : List Pc} {us : List TK} {b : Bool} {more : List Pc} (h : Mt (⟨4, [40], b⟩ :: (ps ++ ⟨4, [41], false⟩ :: more)) us) : ∃ tp ts tc w, us = tp :: (ts ++ tc :: w) ∧ tp.kind = 4 ∧ tp.txt = [40] ∧ Mt ps ts ∧ tc.kind = 4 ∧ tc.txt = [41] ∧ Mt more w := by
  obtain ⟨tp, u, rfl, h1, h2, h3⟩ := Mt.cons h
  obtain ⟨ts, v, rfl, h4, h5⟩ := Mt.app h3
  obtain ⟨tc, w, rfl, h6, h7, h8⟩ := Mt.cons h5
  exact ⟨tp, ts, tc, w, rfl, h1, h2, h4, h6, h7, h8⟩
theorem fo_close {t : TK} (h2 : t.txt = [41]) (r : List TK) : Fo 0 (t :: r) := fo_word h2 (by decide) (by decide) r
theorem fo_semi {t : TK} (h2 : t.txt = [59]) (r : List TK) : Fo 0 (t :: r) := fo_word h2 (by decide) (by decide) r
def brA (e : Ex) : List Pc := ⟨4, [40], true⟩ :: ((⟨4, [40], false⟩ :: (pcE e 0 false ++ [⟨4, [41], false⟩])) ++ ⟨4, [41], false⟩ :: [⟨4, [59], false⟩])
def brB (e : Ex) : List Pc := ⟨4, [40], true⟩ :: (pcE e 0 false ++ ⟨4, [41], false⟩ :: [⟨4, [43], true⟩, ⟨3, [49], true⟩, ⟨4, [59], false⟩])
theorem ch_hd {ps : List Pc} (h : Ch ⟨4, [61], true⟩ ps) : Ch ⟨4, [40], false⟩ (hdP ++ ps) := by
  refine .cons (fun _ => ⟨102, [110], rfl, rfl⟩) (pcok (by decide)) (.cons (.blank rfl) (pcok (by decide)) (.cons (fun _ => ⟨40, [], rfl, rfl⟩) (pcok (by decide)) (.cons (fun _ => ⟨41, [], rfl, rfl⟩) (pcok (by decide)) (.cons (.blank rfl) (pcok (by decide)) (.cons (.blank rfl) (pcok (by decide)) (.cons (.blank rfl) (pcok (by decide)) h))))))
theorem ch_in {e : Ex} (he : Okx e) {prev : Pc} {b : Bool} (hp : b = true ∨ OpenP prev) {more : List Pc} (h : Ch ⟨4, [41], false⟩ more) (k : Lk prev ⟨4, [40], b⟩) : Ch prev (⟨4, [40], b⟩ :: (pcE e 0 false ++ ⟨4, [41], false⟩ :: more)) :=
  .cons k (pcok (by decide)) (wellE he 0 _ false _ (.inr ⟨rfl, .inl rfl⟩) (after_sign (by decide) (pcok (by decide)) h))
theorem ch_brA {e : Ex} (he : Okx e) : Ch ⟨4, [61], true⟩ (brA e) := by
  unfold brA
  refine .cons (.blank rfl) (pcok (by decide)) ?_
  show Ch _ (⟨4, [40], false⟩ :: ((pcE e 0 false ++ [⟨4, [41], false⟩]) ++ ⟨4, [41], false⟩ :: [⟨4, [59], false⟩]))
  rw [List.append_assoc]
  exact ch_in he (.inr ⟨rfl, .inl rfl⟩) (.cons (fun _ => ⟨41, [], rfl, rfl⟩) (pcok (by decide)) (.cons (fun _ => ⟨59, [], rfl, rfl⟩) (pcok (by decide)) trivial)) (fun _ => ⟨40, [], rfl, rfl⟩)
theorem ch_brB {e : Ex} (he : Okx e) : Ch ⟨4, [61], true⟩ (brB e) :=
  ch_in he (.inl rfl) (.cons (.blank rfl) (pcok (by decide)) (.cons (.blank rfl) (pcok (by decide)) (.cons (fun _ => ⟨59, [], rfl, rfl⟩) (pcok (by decide)) trivial))) (.blank rfl)
theorem parse_hd {ps : List Pc} {E : Ex} (hch : Ch ⟨4, [61], true⟩ ps) (hps : ∀ us end', Mt ps us → ∃ bb tsc, us = bb ++ [tsc] ∧ tsc.kind = 4 ∧ tsc.txt = [59] ∧ ∀ (M : Nat) (L : List TK) n d, Q (exprT M L n d (bb ++ tsc :: [end'])) E (tsc :: [end'])) :
    (∃ x, parseF (txtP (hdP ++ ps)) = .good x ∧ er x.body = er E) ∨ ∃ a b, parseF (txtP (hdP ++ ps)) = .err a b 13 := by
  have hc := ch_hd hch
  obtain ⟨b, hb⟩ : ∃ b, b = txtP (hdP ++ ps) := ⟨_, rfl⟩
  have ht : tksF b = (tkG b.length (hdP ++ ps) (onesG (hdP ++ ps)), 0, 0) := by
    have := toks_g b.length _ _ (b.length + 1) (ones_fill (hdP ++ ps)) ⟨_, hc⟩ (by rw [ones_txt, ← hb]; omega)
    rw [ones_txt, ← hb] at this
    exact this
  obtain ⟨us, hu, hm⟩ := tkG_mt b.length (hdP ++ ps) (onesG (hdP ++ ps)) (ones_fill _)
  obtain ⟨u1, u2, rfl, m1, m2⟩ := Mt.app hm
  obtain ⟨bb, tsc, rfl, s1, s2, hq⟩ := hps u2 ⟨0, [], b.length⟩ m2
  have ho := parse_on b (by rw [ht])
  rw [← hb]
  unfold parseF
  rw [ht] at ho ⊢
  rw [if_pos rfl]
  simp only at ho ⊢
  have e1 : tkG b.length (hdP ++ ps) (onesG (hdP ++ ps)) = u1 ++ (bb ++ tsc :: [⟨0, [], b.length⟩]) := by rw [hu]; simp
  rw [e1] at ho ⊢
  generalize fuelF (u1 ++ (bb ++ tsc :: [⟨0, [], b.length⟩])) = n at ho ⊢
  rcases hd_item (M := 60) (L := u1 ++ (bb ++ tsc :: [⟨0, [], b.length⟩])) m1 s1 s2 (hq _ _) n with hi | ⟨x, y, r, hi⟩ | ⟨it', he, hi⟩
  · exact absurd hi ho
  · rw [hi]; exact .inr ⟨x, y, rfl⟩
  · rw [hi]; exact .inl ⟨it', rfl, he⟩
theorem parse_brA {e : Ex} (he : Okx e) : (∃ x, parseF (txtP (hdP ++ brA e)) = .good x ∧ er x.body = er e) ∨ ∃ a b, parseF (txtP (hdP ++ brA e)) = .err a b 13 := by
  refine parse_hd (ch_brA he) fun us end' hm => ?_
  obtain ⟨tp, ts, tc, w, rfl, p1, p2, hts, c1, c2, hw⟩ := mt_par hm
  obtain ⟨tsc, w2, rfl, s1, s2, hw2⟩ := Mt.cons hw
  obtain rfl := hw2.nil
  obtain ⟨tp2, ts2, tc2, w3, rfl, p3, p4, hts2, c3, c4, hw3⟩ := mt_par hts
  obtain rfl := hw3.nil
  refine ⟨tp :: ((tp2 :: (ts2 ++ [tc2])) ++ [tc]), tsc, by simp, s1, s2, fun M L n d => ?_⟩
  have hin : ∀ n d, Q (exprT M L n d (tp2 :: (ts2 ++ tc2 :: (tc :: tsc :: [end'])))) e (tc :: tsc :: [end']) := fun n d => paren_ex p3 p4 c3 c4 (fun n d => (allOK (M := M) (L := L) e he).ex n d ts2 _ false hts2 (fo_close c4 _)) (fo_close c2 _) n d
  have := paren_ex (ts := tp2 :: (ts2 ++ [tc2])) (rest := tsc :: [end']) p1 p2 c1 c2 (fun n d => by have := hin n d; simpa using this) (fo_semi s2 _) n d
  simpa using this
theorem parse_brB {e : Ex} (he : Okx e) : (∃ x, parseF (txtP (hdP ++ brB e)) = .good x ∧ er x.body = er (.mk 8 [] 0 [e, oneE] 0 0)) ∨ ∃ a b, parseF (txtP (hdP ++ brB e)) = .err a b 13 := by
  refine parse_hd (ch_brB he) fun us end' hm => ?_
  obtain ⟨tp, ts, tc, w, rfl, p1, p2, hts, c1, c2, hw⟩ := mt_par hm
  obtain ⟨tq, w2, rfl, q1, q2, hw2⟩ := Mt.cons hw
  obtain ⟨t1, w3, rfl, o1, o2, hw3⟩ := Mt.cons hw2
  obtain ⟨tsc, w4, rfl, s1, s2, hw4⟩ := Mt.cons hw3
  obtain rfl := hw4.nil
  refine ⟨tp :: (ts ++ [tc, tq, t1]), tsc, by simp, s1, s2, fun M L n d => ?_⟩
  have := plus_ex (rest := tsc :: [end']) p1 p2 c1 c2 q1 q2 o1 o2 (fun n d => (allOK (M := M) (L := L) e he).ex n d ts _ false hts (fo_close c2 _)) (fo_semi s2 _) n d
  simpa using this
def hdT : List UInt8 := [102, 110, 32, 97, 40, 41, 32, 45, 62, 32, 105, 110, 116, 32, 61, 32, 40]
theorem brA_txt (e : Ex) : txtP (hdP ++ brA e) = hdT ++ [40] ++ sh e 0 ++ [41, 41, 59] := by
  simp [hdP, brA, hdT, txtP_cons, txtP_app, txt_f, txt_t, txtP_nil, sh]
theorem brB_txt (e : Ex) : txtP (hdP ++ brB e) = hdT ++ sh e 0 ++ [41, 32, 43, 32, 49, 59] := by
  simp [hdP, brB, hdT, txtP_cons, txtP_app, txt_f, txt_t, txtP_nil, sh]
end Go.Proofs.YtmkgmjdbgjiehaaDoor.Ab
namespace Go.Proofs.YtmkgmjdbgjiehaaDoor
open Go.Proofs.YtmkgmjdbgjiehaaDoor.Ab
set_option linter.unusedVariables false
set_option linter.unusedSimpArgs false
attribute [local simp] Gr.refl Gr.new Gr.set Gr.kill Nat.add_assoc r_ckk chk_x chk_n
set_option maxHeartbeats 8000000 in
theorem brackets_ev {σ : St} {v : V} {b : List UInt8} (hv : Bs σ v b) (ho : v.old σ) (ht : Tab σ) : ev ET 5 [v] σ = some (.ret (.bool true), σ) := by
  have hlen := hv.len
  suffices h : ∃ τ, run ET false f5.res [.d f5.body] ⟨envOf [v], []⟩ σ = some (.ret (.bool true), τ) ∧ Gr σ τ by
    obtain ⟨τ, h, g⟩ := h
    exact ev_pure (fd := f5) rfl (by simp [f5]) rfl h g.H g.W (by simp)
  have hp0 := parsed_ev (σ := σ) ht
  by_cases hl : 1000 < b.length
  · have hl' : (1000 : Int) < (b.length : Int) := by omega
    exact ⟨σ, by simp [f5, d5, hp0, hlen, hl, hl'], Gr.refl σ⟩
  have hl' : ¬ (1000 : Int) < (b.length : Int) := by omega
  have p1 := parse_ev (E := ET) (B := BB) rfl rfl hv ho (by omega)
  cases h1 : parseF b with
  | err x y e =>
    rw [h1, errV] at p1
    have he : ¬ (e : Int) = 0 := by have := parse_err0 h1; omega
    have he' := parse_err0 h1
    obtain ⟨s2, hs2⟩ : ∃ s2, s2 = st2 σ z18 [.int .i64 x, .int .i64 y] := ⟨_, rfl⟩
    refine ⟨s2, ?_, by rw [hs2]; exact st2_gr _ _ _⟩
    have hs2' := hs2
    simp only [st2, z18, zz] at hs2'
    simp only [z18] at p1
    simp [f5, d5, hp0, hlen, hl, hl', p1, ← hs2', he, he']
  | good it =>
    rw [h1, goodV] at p1
    obtain ⟨hk, hnd⟩ := parse_ok h1
    have hkb := hk.2.1
    have hndI : nd it.body ≤ ndI it := by unfold ndI; omega
    have hndb : 80 * nd it.body < 2 ^ 46 := by omega
    have hbl := ba_len _ hkb
    have hshl := sh_len (Nat.le_refl (ba it.body).length) 0
    have hnd2 : nd it.body ≤ 2002 := by omega
    have hsh := fun s : St => Show_ev (B := BB) rfl hkb hndb (σ := s)
    have hA := parse_brA hkb
    have hB := parse_brB hkb
    rw [brA_txt] at hA
    rw [brB_txt] at hB
    obtain ⟨S, hS⟩ : ∃ S, S = sh it.body 0 := ⟨_, rfl⟩
    simp only [← hS] at hsh hA hB hshl
    have hSl : S.length ≤ 200000 := by omega
    obtain ⟨i1, i2, i3⟩ := itE_ok BB it
    obtain ⟨a0, a1, a2, a3, a4, a5, a6, hbe, hie'⟩ := itE_body it
    rw [hie'] at i1 i2 p1
    unfold exV at hsh
    rw [hbe] at hsh
    simp only [List.mem_cons, List.not_mem_nil, or_false, forall_eq_or_imp, forall_eq] at i2
    obtain ⟨x1, x2, x3, x4, x5, x6, x7, x8, x9, x10, x11, x12, x13, x14, x15, x16, x17, x18⟩ := i2
    obtain ⟨s2, hs2⟩ : ∃ s2, s2 = st2 σ [.int .i64 it.kind, .bool it.pub, .str it.name, .int .i64 it.fr, .int .i64 it.to, parsV BB it.params, .int .i64 it.result.base, .int .i64 it.result.len, predV BB it.result.pred, .int .i64 it.result.fr, .int .i64 it.result.to, a0, a1, a2, a3, a4, a5, a6] zz := ⟨_, rfl⟩
    have g2 : Gr σ s2 := by rw [hs2]; exact st2_gr _ _ _
    have m2 : s2.H σ.n = some (.row 18 [[.int .i64 it.kind, .bool it.pub, .str it.name, .int .i64 it.fr, .int .i64 it.to, parsV BB it.params, .int .i64 it.result.base, .int .i64 it.result.len, predV BB it.result.pred, .int .i64 it.result.fr, .int .i64 it.result.to, a0, a1, a2, a3, a4, a5, a6]]) := by rw [hs2]; exact st2_a _ _ _
    have n2 : s2.n = σ.n + 2 := by rw [hs2]; exact st2_n _ _ _
    simp only [st2, z18, zz] at hs2
    simp only [zz] at p1
    by_cases hkd : it.kind = 1
    · have hkd' : (it.kind : Int) = 1 := by omega
      rw [hkd'] at p1 hs2 m2
      obtain ⟨s3, hs3⟩ : ∃ s3, s3 = s2.set σ.n (.row 18 [[.int .i64 1, .bool it.pub, .str it.name, .int .i64 it.fr, .int .i64 it.to, .nils, .int .i64 it.result.base, .int .i64 it.result.len, predV BB it.result.pred, .int .i64 it.result.fr, .int .i64 it.result.to, a0, a1, a2, a3, a4, a5, a6]]) := ⟨_, rfl⟩
      have g3 : Gr σ s3 := by rw [hs3]; exact g2.set (Nat.le_refl _) _
      have m3 : s3.H σ.n = some (.row 18 [[.int .i64 1, .bool it.pub, .str it.name, .int .i64 it.fr, .int .i64 it.to, .nils, .int .i64 it.result.base, .int .i64 it.result.len, predV BB it.result.pred, .int .i64 it.result.fr, .int .i64 it.result.to, a0, a1, a2, a3, a4, a5, a6]]) := by rw [hs3]; simp
      have n3 : s3.n = σ.n + 2 := by rw [hs3]; simp [n2]
      obtain ⟨tA, htA⟩ : ∃ t, t = hdT ++ [40] ++ S ++ [41, 41, 59] := ⟨_, rfl⟩
      obtain ⟨tB, htB⟩ : ∃ t, t = hdT ++ S ++ [41, 32, 43, 32, 49, 59] := ⟨_, rfl⟩
      rw [← htA] at hA
      rw [← htB] at hB
      have lA : tA.length ≤ 200100 := by rw [htA]; simp [hdT]; omega
      have lB : tB.length ≤ 200100 := by rw [htB]; simp [hdT]; omega
      have eA : tA = 102 :: 110 :: 32 :: 97 :: 40 :: 41 :: 32 :: 45 :: 62 :: 32 :: 105 :: 110 :: 116 :: 32 :: 61 :: 32 :: 40 :: 40 :: (S ++ [41, 41, 59]) := by rw [htA]; simp [hdT]
      have eB : tB = 102 :: 110 :: 32 :: 97 :: 40 :: 41 :: 32 :: 45 :: 62 :: 32 :: 105 :: 110 :: 116 :: 32 :: 61 :: 32 :: 40 :: (S ++ [41, 32, 43, 32, 49, 59]) := by rw [htB]; simp [hdT]
      have w1 : ∀ (cA : List V) (pA qA eA : Nat) (cB : List V) (pB qB eB : Nat), parseV BB (parseF tA) = .tup [.agg cA, .agg [.int .i64 pA, .int .i64 qA], .int .i64 eA] → parseV BB (parseF tB) = .tup [.agg cB, .agg [.int .i64 pB, .int .i64 qB], .int .i64 eB] → cA.length = 18 → (∀ x ∈ cA, x.scal = true) → cB.length = 18 → (∀ x ∈ cB, x.scal = true) →
          (∀ s : St, Gr σ s → s.H σ.n = some (.row 18 [[.int .i64 1, .bool it.pub, .str it.name, .int .i64 it.fr, .int .i64 it.to, .nils, .int .i64 it.result.base, .int .i64 it.result.len, predV BB it.result.pred, .int .i64 it.result.fr, .int .i64 it.result.to, a0, a1, a2, a3, a4, a5, a6]]) → (eA = 13 ∧ (eB = 0 ∨ eB = 13)) ∨ (eA = 0 ∧ eB = 13)) → ∃ τ, run ET false f5.res [.d f5.body] ⟨envOf [v], []⟩ σ = some (.ret (.bool true), τ) ∧ Gr σ τ := by
        intro cA pA qA eA cB pB qB eB kA kB lcA scA lcB scB hfin
        have hfin := hfin s3 g3 m3
        obtain ⟨s4, hs4⟩ : ∃ s4, s4 = s3.new (.row 1 (tA.map byteE)) := ⟨_, rfl⟩
        have p4 := parse_str (σ := s3) (s := tA) (by omega)
        rw [← hs4, kA] at p4
        obtain ⟨s5, hs5⟩ : ∃ s5, s5 = st2 s4 cA [.int .i64 pA, .int .i64 qA] := ⟨_, rfl⟩
        obtain ⟨s6, hs6⟩ : ∃ s6, s6 = s5.new (.row 1 (tB.map byteE)) := ⟨_, rfl⟩
        have p6 := parse_str (σ := s5) (s := tB) (by omega)
        rw [← hs6, kB] at p6
        obtain ⟨s7, hs7⟩ : ∃ s7, s7 = st2 s6 cB [.int .i64 pB, .int .i64 qB] := ⟨_, rfl⟩
        have g7 : Gr σ s7 := by rw [hs7, hs6, hs5, hs4]; exact (((g3.new _).trans (st2_gr _ _ _)).new _).trans (st2_gr _ _ _)
        refine ⟨s7, ?_, g7⟩
        simp only [st2, z18, zz] at hs5 hs7
        have dA : cA.drop 18 = [] := List.drop_eq_nil_of_le (by omega)
        have dB : cB.drop 18 = [] := List.drop_eq_nil_of_le (by omega)
        have l1 : S.length + 18 ≤ 9223372036854775807 := by omega
        rcases hfin with ⟨rfl, rfl | rfl⟩ | ⟨rfl, rfl⟩
        all_goals simp [f5, d5, hp0, hlen, hl, hl', p1, ← hs2, x6, x9, x12, x13, x14, x15, x16, x17, x18, m2, ← hs3, m3, hsh]
        all_goals repeat (first | rw [if_pos (by omega)] | simp [← eA, ← eB, ← hs4, p4, lcA, eq_true scA, dA, ← hs5, ← hs6, p6, lcB, eq_true scB, dB, ← hs7])
      have zsc : ∀ x ∈ z18, x.scal = true := by decide
      rcases hA with ⟨x, kA, qA⟩ | ⟨pA, qA, kA⟩
      · obtain ⟨y1, y2, _⟩ := itE_ok BB x
        rcases hB with ⟨y, kB, qB⟩ | ⟨pB, qB, kB⟩
        · obtain ⟨u1, u2, _⟩ := itE_ok BB y
          have hkx := (parse_ok kA).1
          have hky := (parse_ok kB).1
          obtain ⟨s4, hs4⟩ : ∃ s4, s4 = s3.new (.row 1 (tA.map byteE)) := ⟨_, rfl⟩
          have g4 : Gr s3 s4 := by rw [hs4]; simp
          have p4 := parse_str (σ := s3) (s := tA) (by omega)
          rw [← hs4, kA, goodV] at p4
          obtain ⟨s5, hs5⟩ : ∃ s5, s5 = st2 s4 (itE BB x) zz := ⟨_, rfl⟩
          have g5 : Gr s4 s5 := by rw [hs5]; exact st2_gr _ _ _
          obtain ⟨s6, hs6⟩ : ∃ s6, s6 = s5.new (.row 1 (tB.map byteE)) := ⟨_, rfl⟩
          have g6 : Gr s5 s6 := by rw [hs6]; simp
          have p6 := parse_str (σ := s5) (s := tB) (by omega)
          rw [← hs6, kB, goodV] at p6
          obtain ⟨s7, hs7⟩ : ∃ s7, s7 = st2 s6 (itE BB y) zz := ⟨_, rfl⟩
          have g7 : Gr s6 s7 := by rw [hs7]; exact st2_gr _ _ _
          have n4 : s4.n = s3.n + 1 := by rw [hs4]; rfl
          have n5 : s5.n = s4.n + 2 := by rw [hs5]; exact st2_n _ _ _
          have n6 : s6.n = s5.n + 1 := by rw [hs6]; rfl
          have m7 : s7.H s6.n = some (.row 18 [itE BB y]) := by rw [hs7]; exact st2_a _ _ _
          have m5 : s7.H s4.n = some (.row 18 [itE BB x]) := by rw [g7.H _ (by omega), g6.H _ (by omega), hs5]; exact st2_a _ _ _
          have m0 := (show s7.H σ.n = s3.H σ.n by rw [g7.H _ (by omega), g6.H _ (by omega), g5.H _ (by omega), g4.H _ (by omega)]).trans m3
          refine ⟨s7, ?_, (((g3.trans g4).trans g5).trans g6).trans g7⟩
          have heq := fun s : St => equal_ev (B := BB) rfl x.body it.body hkx.2.1 hkb s
          rw [show eqB x.body it.body = true from by unfold eqB; simp [qA]] at heq
          obtain ⟨c0, c1, c2, c3, c4, c5, c6, hxe, hxi⟩ := itE_body x
          unfold exV at heq
          rw [hxe, hbe] at heq
          -- the other body
          rw [er_mk] at qB
          cases hyb : y.body with
          | mk ky nmy my ly fy ty =>
            rw [hyb, er_mk] at qB
            injection qB with r1 r2 r3 r4 r5 r6
            subst r1
            obtain ⟨e1, e2, rfl⟩ : ∃ e1 e2, ly = [e1, e2] := len_two (by have := congrArg List.length r4; simpa using this)
            simp only [List.map_cons, List.map_nil, List.cons.injEq] at r4
            have hky2 := hky.2.1
            rw [hyb, Okx] at hky2
            have ok1 := Okxs_mem hky2.2 e1 (by simp)
            have heq2 := fun s : St => equal_ev (B := BB) rfl e1 it.body ok1 hkb s
            rw [show eqB e1 it.body = true from by unfold eqB; simp [r4.1]] at heq2
            unfold exV at heq2
            rw [hbe] at heq2
            have hye : exE BB y.body = [.int .i64 8, .str nmy, .bool false, magV BB my, .islc 7 [exE BB e1, exE BB e2], .int .i64 fy, .int .i64 ty] := by rw [hyb]; rfl
            have hyi : itE BB y = [.int .i64 y.kind, .bool y.pub, .str y.name, .int .i64 y.fr, .int .i64 y.to, parsV BB y.params, .int .i64 y.result.base, .int .i64 y.result.len, predV BB y.result.pred, .int .i64 y.result.fr, .int .i64 y.result.to, .int .i64 8, .str nmy, .bool false, magV BB my, .islc 7 [exE BB e1, exE BB e2], .int .i64 fy, .int .i64 ty] := by
              unfold itE; rw [hye]; rfl
            have hat : ∀ s' : St, iaV s' 7 (.islc 7 [exE BB e1, exE BB e2]) (.int .i64 0) = some (elA (.islc 7 [exE BB e1, exE BB e2]) 0) := fun s' => ((Tl.islc 7 [exE BB e1, exE BB e2]).rd).at (k := .i64) (i := 0) (by simp)
            have hld := fun s' : St => ((Tl.islc 7 [exE BB e1, exE BB e2]).rd (σ := s')).lda (i := 0) (e := exE BB e1) rfl (m := 7) (exE_len BB e1).symm
            rw [hyi] at u1 u2 p6 hs7 m7
            rw [hxi] at y1 y2 p4 hs5 m5
            simp only [st2, z18, zz] at hs5 hs7
            simp only [zz] at p4 p6
            have l1 : S.length + 18 ≤ 9223372036854775807 := by omega
            simp [f5, d5, hp0, hlen, hl, hl', p1, ← hs2, x6, x9, x12, x13, x14, x15, x16, x17, x18, m2, ← hs3, m3, hsh]
            have y2' := y2
            have u2' := u2
            simp only [List.mem_cons, List.not_mem_nil, or_false, forall_eq_or_imp, forall_eq] at y2' u2'
            obtain ⟨_, _, _, _, _, ya, _, _, yb, _, _, yc, yd, ye, yf, yg, yh, yi⟩ := y2'
            obtain ⟨_, _, _, _, _, ua, _, _, ub, _, _, uc, ud, ue, uf, ug, uh, ui⟩ := u2'
            repeat (first | rw [if_pos (by omega)] | simp [← eA, ← eB, ← hs4, p4, ya, yb, yc, yd, ye, yf, yg, yh, yi, ← hs5, ← hs6, p6, ua, ub, uc, ud, ue, uf, ug, uh, ui, ← hs7, m0, m5, m7, heq, heq2, hat, hld])
        · exact w1 _ 0 0 0 _ pB qB 13 (by rw [kA]; rfl) (by rw [kB]; rfl) y1 y2 rfl zsc fun _ _ _ => .inr ⟨rfl, rfl⟩
      · rcases hB with ⟨y, kB, qB⟩ | ⟨pB, qB, kB⟩
        · obtain ⟨u1, u2, _⟩ := itE_ok BB y
          exact w1 _ pA qA 13 _ 0 0 0 (by rw [kA]; rfl) (by rw [kB]; rfl) rfl zsc u1 u2 fun _ _ _ => .inl ⟨rfl, .inl rfl⟩
        · exact w1 _ pA qA 13 _ pB qB 13 (by rw [kA]; rfl) (by rw [kB]; rfl) rfl zsc rfl zsc fun _ _ _ => .inl ⟨rfl, .inr rfl⟩
    · have hkd' : ¬ (it.kind : Int) = 1 := by omega
      refine ⟨s2, ?_, g2⟩
      simp [f5, d5, hp0, hlen, hl, hl', p1, ← hs2, x6, x9, x12, x13, x14, x15, x16, x17, x18, m2, hkd, hkd']
end Go.Proofs.YtmkgmjdbgjiehaaDoor
namespace Go.Proofs.YtmkgmjdbgjiehaaDoor.Ab
open Go.RowKit
set_option linter.unusedVariables false
section
variable {P : Program} {φ φ' : Phi} {I I' : Nat → Prop} {σ σ' : St} {w w' : World}
theorem below_sim (hs : Sim φ I σ w) (hb : Below w.heap.size w w') : Evo φ I σ w φ I σ w' ∧ Sim φ I σ w' := by
  have hI : ∀ b, I b → w'.heap[b]? = w.heap[b]? := fun b h => hb.block b (hs.imm b h)
  have hN : ∀ b, b < w.heap.size → cellsOf w' b = cellsOf w b := fun b h => by unfold cellsOf; rw [hb.block b h]
  refine ⟨⟨fun _ _ h => h, fun _ h => h, fun _ h => .inl h, fun _ h => .inl h, hb.size, hN, fun b h _ => hb.block b h, hb.os, hb.tape, hb.output, rfl, .same fun b h => hb.block b h⟩,
    ⟨hs.dom, fun l x h => Nat.lt_of_lt_of_le (hs.blk l x h) hb.size, fun l b h => ?_, hs.notI, hs.inj, fun b h => Nat.lt_of_lt_of_le (hs.imm b h) hb.size, fun b h => ⟨(hs.base b h).1, (hI b (hs.base b h).1).trans (hs.base b h).2⟩⟩⟩
  obtain ⟨x, h1, h2⟩ := hs.live l b h
  exact ⟨x, h1, h2.keep hs (fun _ _ h => h) hI hN (hb.block _ (hs.blk l x h1))⟩
theorem ccalls_lift {k : FuncId} {vs : List V} {v : V} (h : ∀ φ I w cs, Sim φ I σ w → RelA φ I w vs cs → Calls P k cs w fun e w' => ∃ c, e = .returned c ∧ Below w.heap.size w w' ∧ Rel φ I w v c) :
    CCalls P k vs σ fun o σ' => o = .ret v ∧ σ' = σ := fun φ I w cs hs ha =>
  (h φ I w cs hs ha).mono fun e w' ⟨c, he, hb, hr⟩ => by
    subst he
    obtain ⟨h1, h2⟩ := below_sim hs hb
    exact ⟨_, _, φ, I, ⟨rfl, rfl⟩, .ret (hr.evo hs h1), h1, h2⟩
theorem base_cell (hs : Sim φ I σ w) {a : Addr} {c : Value} (h : σ.W.cell? a = some c) : w.cell? a = some c := by
  have hlt : a.block < σ.W.heap.size := by
    unfold World.cell? at h
    rcases Nat.lt_or_ge a.block σ.W.heap.size with h' | h'
    · exact h'
    · rw [Array.getElem?_eq_none h'] at h; simp at h
  unfold World.cell? at h ⊢
  rw [(hs.base _ hlt).2]
  exact h
theorem base_var (hs : Sim φ I σ w) {name : String} {cs : Array Value} (h : σ.W.var? P name = some cs) : w.var? P name = some cs := by
  unfold World.var? at h ⊢
  obtain ⟨g, hg, h⟩ := Option.bind_eq_some_iff.1 h
  rw [hg, Option.bind_some]
  have hlt : g < σ.W.heap.size := by
    rcases Nat.lt_or_ge g σ.W.heap.size with h' | h'
    · exact h'
    · rw [Array.getElem?_eq_none h'] at h; simp at h
  rw [(hs.base g hlt).2]
  exact h
end
end Go.Proofs.YtmkgmjdbgjiehaaDoor.Ab
namespace Go.Proofs.YtmkgmjdbgjiehaaDoor
open Go.Proofs.YtmkgmjdbgjiehaaDoor.Ab
open Go.RowKit
open Go.Sort (grow)
set_option linter.unusedVariables false
set_option linter.unusedSimpArgs false
theorem strOf_inv {e : List V} {s : List UInt8} (h : strOf e = some s) : e = [.str s] := by
  match e, h with
  | [.str t], h => simp only [strOf, Option.some.injEq] at h; rw [h]
theorem strs_inv : ∀ {es : List (List V)} {l : List (List UInt8)}, es.mapM strOf = some l → es = l.map fun s => [V.str s]
  | [], l, h => by simp at h; subst h; rfl
  | e :: es, l, h => by
    rw [List.mapM_cons] at h
    cases h1 : strOf e with
    | none => rw [h1] at h; simp at h
    | some s =>
      cases h2 : es.mapM strOf with
      | none => rw [h1, h2] at h; simp at h
      | some t =>
        rw [h1, h2] at h
        simp at h
        subst h
        rw [strOf_inv h1, strs_inv h2]; rfl
theorem ba_of {s : ByteArray} {l : List UInt8} (h : s.data.toList = l) : s = ⟨l.toArray⟩ := by
  obtain ⟨d⟩ := s
  subst h
  simp
theorem rel_strs {φ : Phi} {I : Nat → Prop} {σ : St} {w : World} (hs : Sim φ I σ w) {v : V} {c : Value} (hr : Rel φ I w v c) {l : List (List UInt8)} (h : strL σ v = some l) :
    (l = [] ∧ ∃ a k, c = .slice a 0 k) ∨ ∃ b o cap, c = .slice (some ⟨b, o, none⟩) l.length cap ∧ l.length ≤ cap ∧ b < w.heap.size ∧ ∀ (j : Nat) s, l[j]? = some s → w.cell? ⟨b, o + j, none⟩ = some (.string ⟨s.toArray⟩) := by
  cases hr with
  | nils =>
    left
    simp only [strL, Option.bind_some, List.mapM_nil] at h
    exact ⟨by cases h; rfl, _, _, rfl⟩
  | slc hφ hlc hN ha =>
    rename_i k off len b base z cap a
    unfold strL at h
    simp only at h
    split at h
    · rename_i es hH
      split at h
      · rename_i hle
        rw [Option.bind_some] at h
        have hes := strs_inv h
        have hlen : l.length = len := by have := congrArg List.length hes; simp at this; omega
        by_cases h0 : len = 0
        · left
          subst h0
          exact ⟨List.length_eq_zero_iff.1 hlen, _, _, rfl⟩
        · right
          have hget : ∀ (j : Nat) s, l[j]? = some s → es[off + j]? = some [.str s] := fun j s hj => by
            have h1 : (l.map fun s => [V.str s])[j]? = some [.str s] := by rw [List.getElem?_map, hj]; rfl
            rw [← hes] at h1
            have hjl : j < len := by have := (List.getElem?_eq_some_iff.1 hj).1; omega
            rwa [List.getElem?_take_of_lt hjl, List.getElem?_drop] at h1
          have hcell : ∀ (j : Nat) s, l[j]? = some s → z = 1 ∧ w.cell? ⟨b, base + (off + j), none⟩ = some (.string ⟨s.toArray⟩) := fun j s hj => by
            obtain ⟨hz, c, hc, hrel, _⟩ := hs.cell hH (hget j s hj) (j := 0) rfl hφ
            refine ⟨hz, ?_⟩
            cases hrel with
            | str hh => rw [ba_of hh] at hc; simpa using hc
          have hz1 : z = 1 := by
            cases l with
            | nil => simp at hlen; exact absurd hlen.symm h0
            | cons s l => exact (hcell 0 s rfl).1
          refine ⟨b, base + off, cap, ?_, by omega, hs.blk _ _ hφ, fun j s hj => ?_⟩
          · rw [ha (by omega), hz1, hlen]; simp
          · rw [Nat.add_assoc]; exact (hcell j s hj).2
      · simp at h
    · simp at h
  | islc hl ha hz hc ho hp hr =>
    rename_i z es b o cap a cs
    have hz1 : z = 1 := by
      by_cases k : z = 1
      · exact k
      · exfalso; unfold strL at h; split at h
        · rename_i heq; cases heq
        · rename_i heq; cases heq
        · rename_i heq; cases heq; exact k rfl
        · simp at h
    subst hz1
    have hes := strs_inv (es := es) (l := l) h
    have hlen : es.length = l.length := by rw [hes]; simp
    by_cases h0 : es = []
    · subst h0
      exact .inl ⟨List.length_eq_zero_iff.1 hlen.symm, _, _, rfl⟩
    · obtain ⟨rfl, hI⟩ := ha h0
      refine .inr ⟨b, o, cap, by rw [hlen], by omega, hs.imm b hI, fun j s hj => ?_⟩
      have hjl : j < es.length := by have := (List.getElem?_eq_some_iff.1 hj).1; omega
      have h1 : es[j]? = some [.str s] := by rw [hes, List.getElem?_map, hj]; rfl
      have h2 := hc j 0 hjl (by decide)
      have h3 := hr j 0 _ _ h1 rfl
      generalize cs j 0 = x at h2 h3
      cases h3 with
      | str hh => rw [ba_of hh] at h2; simpa using h2
  | _ => simp [strL] at h
theorem args_two {c : Array Value} (h : c.size = 2) : ∃ x y, c = #[x, y] := by
  obtain ⟨l⟩ := c
  match l, h with
  | [x, y], _ => exact ⟨x, y, rfl⟩
theorem args_one {c : Array Value} (h : c.size = 1) : ∃ x, c = #[x] := by
  obtain ⟨l⟩ := c
  match l, h with
  | [x], _ => exact ⟨x, rfl⟩
theorem join_c {σ : St} {v : V} {l : List (List UInt8)} {sep : List UInt8} (h : strL σ v = some l) (h1 : l.length ≤ 140737488355328) (h2 : (Lib.join l sep).length ≤ 140737488355328) : CCalls Tryd.prog 20 [v, .str sep] σ (fun o σ' => o = .ret (.str (Lib.join l sep)) ∧ σ' = σ) := by
  refine ccalls_lift fun φ I w cs hs ha => ?_
  obtain ⟨c, d, rfl⟩ := args_two (by simpa using ha.1)
  have r0 := ha.2 0 _ rfl
  have r1 := ha.2 1 _ rfl
  simp only [Array.getD_eq_getD_getElem?] at r0 r1
  have r0' : Rel φ I w v c := r0
  have r1' : Rel φ I w (.str sep) d := r1
  cases r1' with
  | str hsep =>
    rename_i sp
    rcases rel_strs hs r0' h with ⟨rfl, a, k, rfl⟩ | ⟨b, o, cap, rfl, hcap, hb, hc⟩
    · refine (Tryd.strings_Join_none a k sp w).mono ?_
      rintro e w' ⟨rfl, rfl⟩
      exact ⟨_, rfl, .refl _ _, .str rfl⟩
    · have hm : (l.map fun s => (⟨s.toArray⟩ : ByteArray)).map (·.data.toList) = l := by rw [List.map_map]; simp [Function.comp_def]
      have := Tryd.strings_Join b o cap (l.map fun s => (⟨s.toArray⟩ : ByteArray)) sp w (fun j x hx => by
        rw [List.getElem?_map] at hx
        cases hj : l[j]? with
        | none => rw [hj] at hx; simp at hx
        | some s => rw [hj] at hx; simp at hx; subst hx; exact hc j s hj) hb (by simpa using h1) (by simpa using hcap) (by rw [hm, hsep]; exact h2)
      rw [List.length_map, hm, hsep] at this
      refine this.mono ?_
      rintro e w' ⟨rfl, hbl⟩
      exact ⟨_, rfl, hbl, .str rfl⟩
theorem grow_below (w : World) (k : Nat) (os : Array Obj) : RowKit.Below w.heap.size w (grow (w.drewN k) os) :=
  ⟨rfl, rfl, rfl, by simp [grow, World.drewN], fun b hb => by simp [grow, World.drewN, Array.getElem?_append, hb]⟩
theorem itoa_c (σ : St) (n : Nat) (hn : n < 2 ^ 63) (ht : Tab σ) : CCalls Tryd.prog 34 [.int .i64 n] σ (fun o σ' => o = .ret (.str (Lib.decDigits n)) ∧ σ' = σ) := by
  refine ccalls_lift fun φ I w cs hs ha => ?_
  obtain ⟨c, rfl⟩ := args_one (by simpa using ha.1)
  have r0 : Rel φ I w (.int .i64 n) c := ha.2 0 _ rfl
  cases r0
  refine (Tryd.strconv_Itoa n (by omega) (by omega) w (base_var hs ht)).mono ?_
  rintro e w' ⟨rfl, k, os, rfl⟩
  refine ⟨_, rfl, grow_below w k os, .str ?_⟩
  unfold Lib.itoa
  rw [if_neg (by omega)]
  simp
theorem Bt_ok {k : FuncId} {vs : List V} {σ : St} {v : V} (h : BtF k vs σ = some v) : CCalls Tryd.prog k vs σ fun o σ' => o = .ret v ∧ σ' = σ := by
  unfold BtF at h
  split at h
  · rename_i hk
    subst hk
    split at h
    · rename_i u sep
      obtain ⟨l, h1, h2⟩ := Option.bind_eq_some_iff.1 h
      split at h2
      · rename_i hl; cases h2; exact join_c h1 hl.1 hl.2
      · cases h2
    · cases h
  · split at h
    · rename_i hk
      subst hk
      split at h
      · rename_i n
        split at h
        · rename_i hl
          cases h
          have hn : n = ((n.toNat : Nat) : Int) := by omega
          have := itoa_c σ n.toNat (by omega) hl.2.2
          rw [← hn] at this
          exact this
        · cases h
      · cases h
    · cases h
theorem ET_ok : ET.Ok := ⟨T_ok, fun gf cap σ ky xs h => by
    simp only [ET] at h
    split at h
    · rename_i hg
      subst hg
      split at h
      · rename_i c
        obtain ⟨l, h1, h2, rfl, rfl⟩ := It26_inv h
        refine ⟨(T_ok 76 _ rfl).2, ?_⟩
        have inv : ∀ σ, ET.It 76 [c] σ = some (.islc 1 (l.map nE), lx l l.length) → boxL σ c = some l := fun σ this => by
          simp only [ET, if_true] at this
          obtain ⟨b', h3, _, h4, _⟩ := It26_inv this
          injection h4 with h5 h6; rw [map_nE_inj h6]; exact h3
        intro Y y J X σ' hJ hX hY h0
        exact iter76 c l h2 Y y J X σ' (fun i σ hj => inv σ (hJ i σ hj)) (fun σ hx => inv σ (hX σ hx)) hY h0
      · simp at h
    · simp at h, fun k vs σ v h => Bt_ok h, fun _ _ _ _ _ h => by simp [ET] at h⟩
end Go.Proofs.YtmkgmjdbgjiehaaDoor
namespace Go.Proofs.YtmkgmjdbgjiehaaDoor.Ab
open Go.RowKit
set_option linter.unusedVariables false
def σ0 (W : World) : St := ⟨fun _ => none, 0, W⟩
def φ0 : Phi := fun _ => none
def I0 (W : World) (b : Nat) : Prop := b < W.heap.size
theorem sim0 (W : World) : Sim φ0 (I0 W) (σ0 W) W :=
  ⟨fun l x h => by simp [φ0] at h, fun l x h => by simp [φ0] at h, fun l b h => by simp [σ0] at h, fun b ⟨l, x, h, _⟩ => by simp [σ0] at h, fun l l' x x' h => by simp [σ0] at h, fun b h => h, fun b h => ⟨h, rfl⟩⟩
theorem calls_top {P : Program} {k : FuncId} {vs : List V} {W : World} {args : Array Value} (hc : CCalls P k vs (σ0 W) (fun o _ => o = .ret (.bool true))) (hr : RelA φ0 (I0 W) W vs args) :
    Calls P k args W fun e w' => e = .returned (.bool true) ∧ Below W.heap.size W w' := by
  refine (hc _ _ _ _ (sim0 W) hr).mono ?_
  rintro e w' ⟨o, σ', φ', I', rfl, ho, he, hs⟩
  cases ho with
  | ret h =>
    refine ⟨by rw [h.bool_inv], he.os, he.tape, he.output, he.size, fun b hb => he.frame b hb ?_⟩
    rintro ⟨l, x, h, _⟩
    simp [σ0] at h
theorem rel_bytes {W : World} {a : Option Addr} {len cap : Nat} {zs : List Int}
    (h : (a = none ∧ len = 0 ∧ cap = 0 ∧ zs = []) ∨ ∃ x, a = some x ∧ len ≤ cap ∧ cap ≤ maxLen ∧ zs.length = cap ∧ (∀ i, i < zs.length → W.cell? (x.add i) = some (.int .u8 (zs.getD i 0))) ∧ ∀ n ∈ zs, (Lit.int .u8 n).wf = true) :
    ∃ v b, Rel φ0 (I0 W) W v (.slice a len cap) ∧ (∀ σ, Bs σ v b) ∧ v.row = none ∧ b.length = len := by
  rcases h with ⟨rfl, rfl, rfl, rfl⟩ | ⟨x, rfl, hl, hm, hz, hcell, hwf⟩
  · exact ⟨.nils, [], .nils, fun σ => rfl, rfl, rfl⟩
  · let b : List UInt8 := (zs.take len).map fun n => UInt8.ofNat n.toNat
    have hbl : b.length = len := by simp [b]; omega
    have hget : ∀ i, i < len → ∃ n, zs[i]? = some n ∧ 0 ≤ n ∧ n < 256 ∧ b[i]? = some (UInt8.ofNat n.toNat) := fun i hi => by
      have hi' : i < zs.length := by omega
      refine ⟨zs[i], List.getElem?_eq_getElem hi', ?_⟩
      have hw := hwf zs[i] (List.getElem_mem hi')
      simp [Lit.wf, IntKind.min, IntKind.max, IntKind.signed, IntKind.bits] at hw
      refine ⟨by omega, by omega, ?_⟩
      simp [b, hi, hi']
    refine ⟨.islc 1 (b.map byteE), b, ?_, fun σ => by simp [Bs, Rd, cont], rfl, hbl⟩
    have key : ∀ i, i < len → x.spot = none ∧ x.block < W.heap.size ∧ W.cell? ⟨x.block, x.off + i, none⟩ = some (.int .u8 (zs.getD i 0)) := fun i hi => by
      have h0 := hcell 0 (by omega)
      have hi' := hcell i (by omega)
      simp only [Addr.add, if_pos] at h0
      have hx : x.spot = none ∧ x.block < W.heap.size := by
        unfold World.cell? at h0
        split at h0
        · rename_i hh
          split at h0
          · simp at h0
          · rename_i hs
            refine ⟨by simpa using hs, ?_⟩
            rcases Nat.lt_or_ge x.block W.heap.size with h | h
            · exact h
            · rw [Array.getElem?_eq_none h] at hh; simp at hh
        · simp at h0
      refine ⟨hx.1, hx.2, ?_⟩
      rw [← hi']
      congr 1
      unfold Addr.add
      split
      · rename_i h; subst h
        cases x; simp_all
      · cases x; simp_all
    have hbm : (b.map byteE).length = len := by simp [hbl]
    have := Rel.islc (φ := φ0) (I := I0 W) (w := W) (z := 1) (es := b.map byteE) (b := x.block) (o := x.off) (cap := cap) (a := x) (cs := fun i _ => .int .u8 (zs.getD i 0))
      (by rw [hbm]; exact hl) (fun hne => ?_) (fun e he => ?_) (fun i j hi hj => ?_) (fun i j hi hj => rfl) ?_ (fun i j e v hi hj => ?_)
    · rw [hbm] at this; exact this
    · have h0 : 0 < len := by rw [← hbm]; exact List.length_pos_iff.2 hne
      obtain ⟨h1, h2, _⟩ := key 0 h0
      exact ⟨by cases x; simp_all, h2⟩
    · obtain ⟨c, _, rfl⟩ := List.mem_map.1 he
      rfl
    · rw [hbm] at hi
      obtain rfl : j = 0 := by omega
      rw [Nat.mul_one, Nat.add_zero]
      exact (key i hi).2.2
    · simp [byteE, V.pure]
    · have hil : i < len := by rw [← hbm]; exact (List.getElem?_eq_some_iff.1 hi).1
      obtain ⟨n, h1, h2, h3, h4⟩ := hget i hil
      rw [List.getElem?_map, h4] at hi
      simp at hi
      subst hi
      have hj0 : j = 0 := by
        have := (List.getElem?_eq_some_iff.1 hj).1
        simp [byteE] at this; exact this
      subst hj0
      simp [byteE] at hj
      subst hj
      have hzs : zs.getD i 0 = n := by simp [h1]
      rw [hzs]
      have hmx : max n 0 % 256 = n := by omega
      simp [hmx]
      exact .int _ _
end Go.Proofs.YtmkgmjdbgjiehaaDoor.Ab
