/-
The walk over the program's texts, told with what its values say: a part of it. No further condition.
-/
import Derived.Test.YtgmjeklneeljdaaAbLxS
namespace Go.Proofs.Ytgmjeklneeljdaa
open Go.Proofs.Ytgmjeklneeljdaa.Ab
set_option linter.unusedVariables false
set_option linter.unusedSimpArgs false
attribute [local simp] Gr.refl Gr.new Gr.set Gr.kill Nat.add_assoc r_cks chk wantG
def OutQ (σ : St) (A : V) (al : List TK) (f' : Fr) (σ' : St) : Prop := σ' = σ ∧ f'.ds = [] ∧ f'.env 3 = A ∧ ∃ m, f'.env 6 = .int .i64 (m : Nat) ∧ al.length = m + 1
/-- One item: its tokens are the next ones. -/
theorem one_item {σ : St} {v A u : V} {b : List UInt8} {al la : List TK} {sp : List (Nat × Nat)} {i n fr to : Nat} (hv : Bs σ v b) (ho : v.old σ) (hb : b.length < 2 ^ 30) (hA : Rd σ 4 A (al.map tkE)) (hal : al.length < 2 ^ 40) (hu : Rd σ 2 u (sp.map spE)) (hi : sp[i]? = some (fr, to))
    (hft : fr ≤ to) (htb : to ≤ b.length) (hx : toksF ((b.take to).drop fr).length (((b.take to).drop fr).length + 1) ((b.take to).drop fr) = (la ++ [(⟨0, [], ((b.take to).drop fr).length⟩ : TK)], 0, 0))
    (hq : ∀ k q, la[k]? = some q → al[n + k]? = some (movT fr q) ∧ q.fr < 2 ^ 40) {C : Option (CO × St) → Prop} {B : D} (hB : B = b4_1) {st : List SE} (hC : ∀ f : Fr, f.ds = [] → f.env 0 = v → f.env 3 = A → f.env 6 = .int .i64 (n + la.length : Nat) → f.env 7 = u → f.env 8 = .int .i64 (i + 1 : Nat) → C (run ET false [.t 2] (.d (.loop [0, 3, 6, 7, 8] B) :: .blk 0 :: st) f σ)) (hsp : sp.length < 2 ^ 40)
    {f : Fr} (hd : f.ds = []) (e0 : f.env 0 = v) (e3 : f.env 3 = A) (e6 : f.env 6 = .int .i64 n) (e7 : f.env 7 = u) (e8 : f.env 8 = .int .i64 i) :
    C (run ET false [.t 2] (.d (.loop [0, 3, 6, 7, 8] B) :: .blk 0 :: st) f σ) := by
  have hil : i < sp.length := (List.getElem?_eq_some_iff.1 hi).1
  have hul : i < (sp.map spE).length := by simpa using hil
  have hlu : lenV u = some (.int .i64 sp.length) := by simpa using hu.len
  have c1 : iaV σ 2 u (.int .i64 i) = some (elA u i) := Rd.at hu hul
  have c2 : faV 0 (elA u i) = some (celA u i 0) := Rd.fa hu hul
  have c3 : ldV σ (celA u i 0) = some (.int .i64 fr) := Rd.cel hu (i := i) (j := 0) (e := spE (fr, to)) (by rw [List.getElem?_map, hi]; rfl)
  have c4 : faV 1 (elA u i) = some (celA u i 1) := Rd.fa hu hul
  have c5 : ldV σ (celA u i 1) = some (.int .i64 to) := Rd.cel hu (i := i) (j := 1) (e := spE (fr, to)) (by rw [List.getElem?_map, hi]; rfl)
  have hcut : ∀ env (lo hi : Opd), lo.ev env = .int .i64 fr → hi.ev env = .int .i64 to → lslV env σ 1 v (some lo) (some hi) = some (cutV v fr to) := fun env lo hi h1 h2 => hv.lslBoth h1 h2 hft htb
  have htk := tokens_ev (E := ET) rfl (hv.cut hft htb) (V.old_cut ho fr to) (by simp; omega)
  unfold tokensV at htk
  rw [hx] at htk
  simp only [if_true] at htk
  obtain ⟨tv, htv⟩ : ∃ tv, tv = V.islc 4 ((la ++ [(⟨0, [], ((b.take to).drop fr).length⟩ : TK)]).map tkE) := ⟨_, rfl⟩
  rw [← htv] at htk
  have ht : Rd σ 4 tv ((la ++ [(⟨0, [], ((b.take to).drop fr).length⟩ : TK)]).map tkE) := by rw [htv]; simp [Rd, cont]
  have hw : IntKind.i64.wrap ((i : Int) + 1) = ((i + 1 : Nat) : Int) := by rw [IntWalk.i64_in _ (by omega)]; omega
  obtain ⟨j, hj⟩ : ∃ j, j = i + 1 := ⟨_, rfl⟩
  rw [← hj] at hw hC
  have v1 : ¬ b.length < to := by omega
  have v2 : ¬ to < fr := by omega
  have v3 : ¬ (fr : Int) < 0 := by omega
  have inn := fun f => inner_loop (v := v) hA hu ht hi hal (by omega) hq (dd := false) (rs := [.t 2]) (st := .blk 1 :: .d (.kb [0, 3, 6, 7, 8] (.reg [⟨some 35, none, .mv (.t 8)⟩, ⟨some 36, none, .bin .add (.t 35) (.c (.int .i64 1))⟩, ⟨some 8, none, .mv (.t 36)⟩])) :: .lp [0, 3, 6, 7, 8] B :: .blk 0 :: st) (B := b4_0) rfl la 0 f rfl (by omega)
  rw [r_loopU hB]
  simp [b4_1, hd, e0, e3, e6, e7, e8, hlu, hil, c1, c2, c3, c4, c5, v1, v2, v3, hv.len, hcut, htk]
  refine Lands.to (C := C) (inn _ ?_ ?_ ?_ ?_ ?_ ?_ ?_ ?_) ?_
  · simp
  · simp
  · simp
  · simp
  · simp
  · simp
  · simp
  · simp
  · rintro f' σ' ⟨rfl, q0, q1, q2, q3, q4, q5⟩
    simp [q0, q1, q2, q3, q4, q5, hw]
    refine hC _ ?_ ?_ ?_ ?_ ?_ ?_ <;> simp
theorem toks_fr {L : Nat} : ∀ (n : Nat) (s : List UInt8), ∀ q ∈ (toksF L n s).1, q.fr ≤ L
  | 0, s, q, h => by simp [toksF] at h
  | n + 1, s, q, h => by
    unfold toksF at h
    split at h
    · simp at h; rw [h]; exact Nat.le_refl _
    · split at h
      · split at h
        · rcases List.mem_cons.1 h with rfl | h
          · simp
          · exact toks_fr n _ q h
        · simp at h
      · simp at h
theorem outer_loop {σ : St} {v A u : V} {b : List UInt8} {al : List TK} (hv : Bs σ v b) (ho : v.old σ) (hb : b.length < 2 ^ 30) (hA : Rd σ 4 A (al.map tkE)) (hal : al.length < 2 ^ 40) (hu : Rd σ 2 u ((itF b).map spE)) {B : D} (hB : B = b4_1) {st : List SE} :
    ∀ (N : Nat) (s : List UInt8) (fr n i nf : Nat) (f : Fr), s.length < N → b.drop fr = s → fr ≤ b.length → (itF b).drop i = itemsM b.length false fr false s → i ≤ (itF b).length → s.length < nf → (toksF b.length nf s).2.2 = 0 → al.drop n = (toksF b.length nf s).1 →
      f.ds = [] → f.env 0 = v → f.env 3 = A → f.env 6 = .int .i64 n → f.env 7 = u → f.env 8 = .int .i64 i →
      Lands ET false [.t 2] st (OutQ σ A al) (run ET false [.t 2] (.d (.loop [0, 3, 6, 7, 8] B) :: .blk 0 :: st) f σ)
  | 0, s, fr, n, i, nf, f, hN, _, _, _, _, _, _, _, _, _, _, _, _, _ => by omega
  | N + 1, s, fr, n, i, nf, f, hN, hs, hfb, hit, hil, hnf, h0, hal2, hd, e0, e3, e6, e7, e8 => by
    have hsl : s.length = b.length - fr := by rw [← hs]; simp
    have hlu : lenV u = some (.int .i64 (itF b).length) := by simpa using hu.len
    have hsem := items_sem b.length fr s false false
    have hitl := itF_len b
    have stop : ∀ (f : Fr) (i : Nat), (itF b).drop i = [] → i ≤ (itF b).length → f.ds = [] → f.env 0 = v → f.env 3 = A → (∃ m, f.env 6 = .int .i64 (m : Nat) ∧ al.length = m + 1) → f.env 7 = u → f.env 8 = .int .i64 i →
        Lands ET false [.t 2] st (OutQ σ A al) (run ET false [.t 2] (.d (.loop [0, 3, 6, 7, 8] B) :: .blk 0 :: st) f σ) := fun f i h1 h2 hd e0 e3 e6 e7 e8 => by
      have hlen := congrArg List.length h1
      simp at hlen
      have hi : ¬ i < (itF b).length := by omega
      obtain ⟨m, e6, hm⟩ := e6
      rw [r_loopU hB]
      simp [b4_1, hd, e0, e3, e6, e7, e8, hlu, hi]
      exact .here ⟨rfl, by simp, by simp, m, by simp, hm⟩
    cases hR : semF false s with
    | some R =>
      rw [hR] at hsem
      simp only at hsem
      obtain ⟨w, hw⟩ := semF_split s false R hR
      have hwl : s.length = w.length + 1 + R.length := by rw [hw]; simp; omega
      obtain ⟨to, hto⟩ : ∃ to, to = b.length - R.length := ⟨_, rfl⟩
      rw [← hto] at hsem
      have hx : (b.take to).drop fr = w ++ [59] := by
        rw [List.drop_take, hs, hw, show to - fr = (w ++ [59]).length by simp; omega, show w ++ 59 :: R = (w ++ [59]) ++ R by simp, List.take_left]
      have hRd : b.drop to = R := by
        have : b.drop to = s.drop (to - fr) := by rw [← hs, List.drop_drop]; congr 1; omega
        rw [this, hw, show to - fr = (w ++ [59]).length by simp; omega, show w ++ 59 :: R = (w ++ [59]) ++ R by simp, List.drop_left]
      obtain ⟨la, k1, n', k2, k3, k4⟩ := toks_item nf w R b.length (w.length + 1) fr (by rw [← hw]; exact hR) (by rw [← hw]; omega) (by rw [← hw]; exact h0) (by omega) (by omega)
      rw [hw, k4] at hal2
      have hat : (itF b)[i]? = some (fr, to) := by
        have := congrArg (·[0]?) hit
        rw [hsem] at this
        simpa using this
      have hnx : (itF b).drop (i + 1) = itemsM b.length false to false R := by rw [← List.drop_drop, hit, hsem]; rfl
      have hxl : (w ++ [59]).length = w.length + 1 := by simp
      have k1' := k1 (w.length + 2) (by omega)
      have hlafr : ∀ q ∈ la, q.fr ≤ w.length + 1 := fun q hq => toks_fr (L := w.length + 1) (w.length + 2) (w ++ [59]) q (by rw [k1']; simp [hq])
      have hlan : la.length < 2 ^ 40 := by
        have := congrArg List.length hal2
        simp at this; omega
      refine one_item (la := la) (C := Lands ET false [.t 2] st (OutQ σ A al)) hv ho hb hA hal hu hat (by omega) (by omega) (by rw [hx, hxl]; exact k1') (fun k q hk => ⟨?_, ?_⟩) hB (fun f q0 q1 q2 q3 q4 q5 => ?_) (by omega) hd e0 e3 e6 e7 e8
      · have := congrArg (·[k]?) hal2
        have hkl : k < la.length := (List.getElem?_eq_some_iff.1 hk).1
        simp only [List.getElem?_drop] at this
        rw [this, List.getElem?_append_left (by simpa using hkl), List.getElem?_map, hk]; rfl
      · have := hlafr q (List.mem_of_getElem? hk); omega
      · refine outer_loop hv ho hb hA hal hu hB N R to (n + la.length) (i + 1) n' f (by omega) hRd (by omega) hnx (by have := (List.getElem?_eq_some_iff.1 hat).1; omega) k2 k3 ?_ q0 q1 q2 q3 q4 q5
        rw [← List.drop_drop, hal2]
        have : la.length = (la.map (movT fr)).length := by simp
        rw [this, List.drop_left]
    | none =>
      rw [hR] at hsem
      simp only at hsem
      by_cases hsk : skipF false s = []
      · have hsem' : itemsM b.length false fr false s = [] := by rw [hsem]; simp [hsk]
        rw [hsem'] at hit
        refine stop f i hit hil hd e0 e3 ⟨n, e6, ?_⟩ e7 e8
        obtain ⟨nf, rfl⟩ : ∃ k, nf = k + 1 := ⟨nf - 1, by omega⟩
        rw [toksF.eq_2, hsk] at hal2
        have := congrArg List.length hal2
        simp at this; omega
      · have hsem' : itemsM b.length false fr false s = [(fr, b.length)] := by rw [hsem]; simp [hsk]
        rw [hsem'] at hit
        have hat : (itF b)[i]? = some (fr, b.length) := by
          have := congrArg (·[0]?) hit
          simpa using this
        have hnx : (itF b).drop (i + 1) = [] := by rw [← List.drop_drop, hit]; rfl
        have hx : (b.take b.length).drop fr = s := by rw [List.take_length, hs]
        have hL : b.length = s.length + fr := by omega
        have h0' := h0
        rw [toks_fuel _ nf (s.length + 1) s hnf (by omega)] at h0' hal2
        rw [hL] at h0' hal2
        obtain ⟨la, k1, k2⟩ := toks_move s.length fr (s.length + 1) s (Nat.le_refl _) (by omega) h0'
        rw [k2] at hal2
        have hlafr : ∀ q ∈ la, q.fr ≤ s.length := fun q hq => toks_fr (L := s.length) (s.length + 1) s q (by rw [k1]; simp [hq])
        have hall := congrArg List.length hal2
        simp at hall
        refine one_item (la := la) (C := Lands ET false [.t 2] st (OutQ σ A al)) hv ho hb hA hal hu hat (by omega) (by omega) (by rw [hx]; exact k1) (fun k q hk => ⟨?_, ?_⟩) hB (fun f q0 q1 q2 q3 q4 q5 => ?_) (by omega) hd e0 e3 e6 e7 e8
        · have := congrArg (·[k]?) hal2
          have hkl : k < la.length := (List.getElem?_eq_some_iff.1 hk).1
          simp only [List.getElem?_drop] at this
          rw [this, List.getElem?_append_left (by simpa using hkl), List.getElem?_map, hk]; rfl
        · have := hlafr q (List.mem_of_getElem? hk); omega
        · exact stop f (i + 1) hnx (by have := (List.getElem?_eq_some_iff.1 hat).1; omega) q0 q1 q2 ⟨n + la.length, q3, by omega⟩ q4 q5
theorem toks_len {L : Nat} : ∀ (n : Nat) (s : List UInt8), (toksF L n s).1.length ≤ n
  | 0, s => by simp [toksF]
  | n + 1, s => by
    unfold toksF
    split
    · simp
    · split
      · split
        · simp only [List.length_cons]
          exact Nat.succ_le_succ (toks_len n _)
        · simp
      · simp
set_option maxRecDepth 100000 in
theorem itemtoks_ok {σ : St} {v : V} {b : List UInt8} (hv : Bs σ v b) (ho : v.old σ) (hsc : v.scal = true) : ∃ σ', ev ET 4 [v] σ = some (.ret (.bool true), σ') := by
  suffices h : ∃ τ, run ET false f4.res [.d f4.body] ⟨envOf [v], []⟩ σ = some (.ret (.bool true), τ) by
    obtain ⟨τ, h⟩ := h
    exact ev_any rfl (by simp [f4]) rfl h
  have hpa : ∀ σ, ev ET 5 [] σ = some (.ret (.bool true), σ) := fun σ => parted_ev rfl
  have hlv : lenV v = some (.int .i64 b.length) := hv.len
  by_cases hb : 1500 < b.length
  · have hb' : (1500 : Int) < b.length := by omega
    exact ⟨_, by simp [f4, d4, hpa, hlv, hb']; rfl⟩
  have hb' : ¬ (1500 : Int) < b.length := by omega
  have htk := tokens_ev (E := ET) rfl hv ho (by omega)
  unfold tokensV at htk
  by_cases h0 : (toksF b.length (b.length + 1) b).2.2 = 0
  · rw [if_pos h0] at htk
    obtain ⟨al, hal⟩ : ∃ al, al = (toksF b.length (b.length + 1) b).1 := ⟨_, rfl⟩
    have hall := toks_len (L := b.length) (b.length + 1) b
    rw [← hal] at htk hall
    obtain ⟨A, hA⟩ : ∃ A, A = V.islc 4 (al.map tkE) := ⟨_, rfl⟩
    rw [← hA] at htk
    have hrd : Rd σ 4 A (al.map tkE) := by rw [hA]; simp [Rd, cont]
    have hlA : lenV A = some (.int .i64 al.length) := by simpa using hrd.len
    obtain ⟨u, hsp, hu⟩ := spans_ev hv ho hsc (by omega)
    simp [f4, d4, hpa, hlv, hb', htk, hsp]
    refine Lands.to (C := fun r => ∃ τ, r = some (CO.ret (.bool true), τ)) (outer_loop hv ho (by omega) hrd (by omega) hu.rd rfl (b.length + 1) b 0 0 0 (b.length + 1) _ (by omega) rfl (by omega) rfl (by omega) (by omega) h0 (by rw [hal]; rfl) ?_ ?_ ?_ ?_ ?_ ?_) ?_
    · simp
    · simp
    · simp
    · simp
    · simp
    · simp
    · rintro f' σ' ⟨rfl, q0, q1, m, q2, q3⟩
      have hw : IntKind.i64.wrap ((al.length : Int) - 1) = (m : Int) := by rw [IntWalk.i64_in _ (by omega)]; omega
      simp [q0, q1, q2, hlA, hw]
  · rw [if_neg h0] at htk
    obtain ⟨er, her⟩ : ∃ er, er = (toksF b.length (b.length + 1) b).2.2 := ⟨_, rfl⟩
    rw [← her] at h0 htk
    have h0' : ¬ (er : Int) = 0 := by omega
    exact ⟨_, by simp [f4, d4, hpa, hlv, hb', htk, h0, h0']; rfl⟩
theorem itemtoks_core (W : World) (us : List V) (hu : TypedA [.one (.slc (.int .u8 .nil) .nil)] us) : CCalls Try.prog 4 us (Go.Proofs.Ytgmjeklneeljdaa.Ab.σ0 W) (fun o _ => o = .ret (.bool true)) := by
  obtain ⟨v, _, rfl, hv, rfl⟩ := hu
  obtain ⟨b, hb, hr, _⟩ := typed_bytes hv
  obtain ⟨σ', h⟩ := itemtoks_ok (σ := Go.Proofs.Ytgmjeklneeljdaa.Ab.σ0 W) (hb _) (bytes_old hr _) (Rd.scal (hb (Go.Proofs.Ytgmjeklneeljdaa.Ab.σ0 W)))
  exact (ev_calls ET_ok h).mono fun o _ h => h.1
end Go.Proofs.Ytgmjeklneeljdaa
