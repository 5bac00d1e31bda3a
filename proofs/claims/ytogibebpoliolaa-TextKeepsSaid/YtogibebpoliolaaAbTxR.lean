/-
The walk over the program's texts, told with what its values say: a part of it. No further condition.
-/
import Derived.Test.YtogibebpoliolaaAbTxN
namespace Go.Proofs.Ytogibebpoliolaa
open Go.Proofs.Ytogibebpoliolaa.Ab
set_option linter.unusedVariables false
set_option linter.unusedSimpArgs false
attribute [local simp] Gr.refl Gr.new Gr.set Gr.kill Nat.add_assoc r_cks chk_x chk_n
def encN (r : Int) : Option (List Nat) :=
  if r < 0 ∨ 1114111 < r ∨ (55296 ≤ r ∧ r ≤ 57343) then none
  else if r.toNat < 128 then some [r.toNat]
  else if r.toNat < 2048 then some [192 + r.toNat / 64, 128 + r.toNat % 64]
  else if r.toNat < 65536 then some [224 + r.toNat / 4096, 128 + r.toNat / 64 % 64, 128 + r.toNat % 64]
  else some [240 + r.toNat / 262144, 128 + r.toNat / 4096 % 64, 128 + r.toNat / 64 % 64, 128 + r.toNat % 64]
def bN (l : List Nat) : List (List V) := l.map fun (n : Nat) => [.int .u8 (n : Int)]
def encV : Option (List Nat) → V
  | none => .tup [.nils, .int .i64 10]
  | some l => .tup [.islc 1 (bN l), .int .i64 0]
theorem u8n' {x : Nat} (h : x < 256) : IntKind.u8.wrap (x : Int) = x := by simp [IntKind.wrap, IntKind.signed, IntKind.bits]; omega
theorem renc_ok {σ : St} {m : Nat} {l : List Nat} (h : run ET false f45.res [.d f45.body] ⟨envOf [.int .i64 (m : Int)], []⟩ σ = some (.ret (.tup [.slc σ.n 0 l.length, .int .i64 0]), σ.new (.row 1 (bN l)))) : ev ET 45 [.int .i64 (m : Int)] σ = some (.ret (encV (some l)), σ) := by
  refine ev_pure (fd := f45) rfl (by simp [f45]) rfl h ((Gr.refl σ).new _).H rfl ?_
  have := frz_slc (H := (σ.new (.row 1 (bN l))).H) (n := fun l => decide (l < σ.n)) (l := σ.n) (off := 0) (len := (bN l).length) (z := 1) (es := bN l) 3 (by simp) (by simp) (by omega) (fun e he u hu => by simp [bN] at he; obtain ⟨a, _, rfl⟩ := he; simp at hu; subst hu; rfl)
  simp [encV]
  simp at this
  have hl : (bN l).length = l.length := by simp [bN]
  rw [hl] at this; exact this
set_option maxHeartbeats 1000000 in
theorem renc_ev {σ : St} (r : Int) : ev ET 45 [.int .i64 r] σ = some (.ret (encV (encN r)), σ) := by
  by_cases hbad : r < 0 ∨ 1114111 < r ∨ (55296 ≤ r ∧ r ≤ 57343)
  · have e1 : encN r = none := by unfold encN; rw [if_pos hbad]
    rw [e1]
    refine ev_same (fd := f45) (o := .ret (.tup [.nils, .int .i64 10])) rfl (by simp [f45]) rfl ?_ (by simp [encV])
    by_cases h1 : r < 0
    · simp [f45, d45, h1]
    by_cases h2 : 1114111 < r
    · simp [f45, d45, h1, h2]
    · have h3 : 55296 ≤ r := by omega
      have h4 : r ≤ 57343 := by omega
      simp [f45, d45, h1, h2, h3, h4]
  obtain ⟨m, rfl⟩ : ∃ m : Nat, r = m := ⟨r.toNat, by omega⟩
  have h1 : ¬ (m : Int) < 0 := by omega
  have h2 : ¬ (1114111 : Int) < m := by omega
  have hm : m ≤ 1114111 := by omega
  have e0 : encN m = if m < 128 then some [m] else if m < 2048 then some [192 + m / 64, 128 + m % 64] else if m < 65536 then some [224 + m / 4096, 128 + m / 64 % 64, 128 + m % 64] else some [240 + m / 262144, 128 + m / 4096 % 64, 128 + m / 64 % 64, 128 + m % 64] := by
    unfold encN; rw [if_neg hbad]; simp
  rw [e0]
  obtain ⟨a1, ha1⟩ : ∃ a, a = m / 64 := ⟨_, rfl⟩
  obtain ⟨a2, ha2⟩ : ∃ a, a = m / 4096 := ⟨_, rfl⟩
  obtain ⟨a3, ha3⟩ : ∃ a, a = m / 262144 := ⟨_, rfl⟩
  obtain ⟨b1, hb1⟩ : ∃ a, a = m % 64 := ⟨_, rfl⟩
  obtain ⟨b2, hb2⟩ : ∃ a, a = a1 % 64 := ⟨_, rfl⟩
  obtain ⟨b3, hb3⟩ : ∃ a, a = a2 % 64 := ⟨_, rfl⟩
  have t1 : Int.tdiv (m : Int) 64 = (a1 : Int) := by rw [Int.tdiv_eq_ediv_of_nonneg (by omega)]; omega
  have t2 : Int.tdiv (m : Int) 4096 = (a2 : Int) := by rw [Int.tdiv_eq_ediv_of_nonneg (by omega)]; omega
  have t3 : Int.tdiv (m : Int) 262144 = (a3 : Int) := by rw [Int.tdiv_eq_ediv_of_nonneg (by omega)]; omega
  have t4 : Int.tmod (m : Int) 64 = (b1 : Int) := by rw [Int.tmod_eq_emod_of_nonneg (by omega)]; omega
  have t5 : Int.tmod (a1 : Int) 64 = (b2 : Int) := by rw [Int.tmod_eq_emod_of_nonneg (by omega)]; omega
  have t6 : Int.tmod (a2 : Int) 64 = (b3 : Int) := by rw [Int.tmod_eq_emod_of_nonneg (by omega)]; omega
  have w1 : IntKind.i64.wrap (a1 : Int) = a1 := IntWalk.i64_in _ (by omega)
  have w2 : IntKind.i64.wrap (a2 : Int) = a2 := IntWalk.i64_in _ (by omega)
  have w3 : IntKind.i64.wrap (a3 : Int) = a3 := IntWalk.i64_in _ (by omega)
  obtain ⟨c1, hc1⟩ : ∃ a, a = 192 + a1 := ⟨_, rfl⟩
  obtain ⟨c2, hc2⟩ : ∃ a, a = 224 + a2 := ⟨_, rfl⟩
  obtain ⟨c3, hc3⟩ : ∃ a, a = 240 + a3 := ⟨_, rfl⟩
  obtain ⟨d1, hd1⟩ : ∃ a, a = 128 + b1 := ⟨_, rfl⟩
  obtain ⟨d2, hd2⟩ : ∃ a, a = 128 + b2 := ⟨_, rfl⟩
  obtain ⟨d3, hd3⟩ : ∃ a, a = 128 + b3 := ⟨_, rfl⟩
  have x1 : IntKind.i64.wrap (192 + (a1 : Int)) = c1 := by rw [IntWalk.i64_in _ (by omega)]; omega
  have x2 : IntKind.i64.wrap (224 + (a2 : Int)) = c2 := by rw [IntWalk.i64_in _ (by omega)]; omega
  have x3 : IntKind.i64.wrap (240 + (a3 : Int)) = c3 := by rw [IntWalk.i64_in _ (by omega)]; omega
  have y1 : IntKind.i64.wrap (128 + (b1 : Int)) = d1 := by rw [IntWalk.i64_in _ (by omega)]; omega
  have y2 : IntKind.i64.wrap (128 + (b2 : Int)) = d2 := by rw [IntWalk.i64_in _ (by omega)]; omega
  have y3 : IntKind.i64.wrap (128 + (b3 : Int)) = d3 := by rw [IntWalk.i64_in _ (by omega)]; omega
  have z1 : IntKind.u8.wrap (d1 : Int) = d1 := u8n' (by omega)
  have z2 : IntKind.u8.wrap (d2 : Int) = d2 := u8n' (by omega)
  have z3 : IntKind.u8.wrap (d3 : Int) = d3 := u8n' (by omega)
  rw [← ha1, ← ha2, ← ha3, ← hb1, ← hb2, ← hb3, ← hc1, ← hc2, ← hc3, ← hd1, ← hd2, ← hd3]
  by_cases k1 : m < 128
  · have k1' : (m : Int) < 128 := by omega
    have k5 : ¬ (55296 : Int) ≤ m := by omega
    have u1 : IntKind.u8.wrap (m : Int) = m := u8n' (by omega)
    rw [if_pos k1]
    refine renc_ok ?_
    simp [f45, d45, h1, h2, k1', k5, u1, bN]
  have k1' : ¬ (m : Int) < 128 := by omega
  rw [if_neg k1]
  by_cases k2 : m < 2048
  · have k2' : (m : Int) < 2048 := by omega
    have k5 : ¬ (55296 : Int) ≤ m := by omega
    have u1 : IntKind.u8.wrap (c1 : Int) = c1 := u8n' (by omega)
    rw [if_pos k2]
    refine renc_ok ?_
    simp [f45, d45, h1, h2, k1', k2', k5, t1, t4, w1, x1, y1, z1, u1, bN]
  have k2' : ¬ (m : Int) < 2048 := by omega
  rw [if_neg k2]
  by_cases k3 : m < 65536
  · have k3' : (m : Int) < 65536 := by omega
    have u1 : IntKind.u8.wrap (c2 : Int) = c2 := u8n' (by omega)
    rw [if_pos k3]
    refine renc_ok ?_
    by_cases k5 : (55296 : Int) ≤ m
    · have k6 : ¬ (m : Int) ≤ 57343 := by omega
      simp [f45, d45, h1, h2, k1', k2', k3', k5, k6, t1, t2, t4, t5, w1, w2, x2, y1, y2, z1, z2, u1, bN]
    · simp [f45, d45, h1, h2, k1', k2', k3', k5, t1, t2, t4, t5, w1, w2, x2, y1, y2, z1, z2, u1, bN]
  have k3' : ¬ (m : Int) < 65536 := by omega
  rw [if_neg k3]
  have k5 : (55296 : Int) ≤ m := by omega
  have k6 : ¬ (m : Int) ≤ 57343 := by omega
  have u1 : IntKind.u8.wrap (c3 : Int) = c3 := u8n' (by omega)
  refine renc_ok ?_
  simp [f45, d45, h1, h2, k1', k2', k3', k5, k6, t1, t2, t3, t4, t5, t6, w1, w2, w3, x3, y1, y2, y3, z1, z2, z3, u1, bN]
end Go.Proofs.Ytogibebpoliolaa
namespace Go.Proofs.Ytogibebpoliolaa
open Go.Proofs.Ytogibebpoliolaa.Ab
set_option linter.unusedVariables false
set_option linter.unusedSimpArgs false
attribute [local simp] r_cks chk_x chk_n
/-- The frame of One's inner loop. -/
def InF (v : V) (a n : Nat) (r : Int) (k : Nat) (f : Fr) : Prop := f.ds = [] ∧ f.env 0 = v ∧ f.env 1 = .int .i64 a ∧ f.env 6 = .int .i64 n ∧ f.env 7 = .int .i64 r ∧ f.env 8 = .int .i64 k
theorem in_step {σ : St} {v : V} {b : List UInt8} (hv : Bs σ v b) (hb : b.length < 2 ^ 40) {dd : Bool} {rs : List RC} {s : List SE} {a n k : Nat} {r : Int} {B : D} (hB : B = b42_0) (hk : k < n) (hak : a + k < b.length) (hr : -1000000000000 ≤ r ∧ r ≤ 1000000000000) {f : Fr} (hf : InF v a n r k f) :
    ∃ f', run ET dd rs (.d (.loop [0, 1, 6, 7, 8] B) :: .blk 2 :: s) f σ = run ET dd rs (.d (.loop [0, 1, 6, 7, 8] B) :: .blk 2 :: s) f' σ ∧ InF v a n (r * 64 + nx b (a + k) - 128) (k + 1) f' := by
  obtain ⟨h1, h2, h3, h4, h5, h6⟩ := hf
  obtain ⟨c, hc⟩ : ∃ c, c = nx b (a + k) := ⟨_, rfl⟩
  have hcl := nx_lt b (a + k)
  rw [nx_at hak] at hc
  have hla := b[a + k].toNat_lt
  obtain ⟨i, hi⟩ : ∃ i, i = a + k := ⟨_, rfl⟩
  obtain ⟨x, hx⟩ : ∃ x, x = r * 64 := ⟨_, rfl⟩
  obtain ⟨y, hy⟩ : ∃ y, y = x + c := ⟨_, rfl⟩
  obtain ⟨z, hz⟩ : ∃ z, z = y - 128 := ⟨_, rfl⟩
  obtain ⟨k', hk'⟩ : ∃ j, j = k + 1 := ⟨_, rfl⟩
  have w1 : IntKind.i64.wrap (r * 64) = x := by rw [IntWalk.i64_in _ (by omega)]; omega
  have w2 : IntKind.i64.wrap ((a : Int) + k) = i := by rw [IntWalk.i64_in _ (by omega)]; omega
  have w3 : IntKind.i64.wrap (c : Int) = c := IntWalk.i64_in _ (by omega)
  have w4 : IntKind.i64.wrap (x + c) = y := by rw [IntWalk.i64_in _ (by omega)]; omega
  have w5 : IntKind.i64.wrap (y - 128) = z := by rw [IntWalk.i64_in _ (by omega)]; omega
  have w6 : IntKind.i64.wrap ((k : Int) + 1) = (k' : Int) := by rw [IntWalk.i64_in _ (by omega)]; omega
  have hat : iaV σ 1 v (.int .i64 i) = some (elA v i) := hv.at (by omega)
  have hld : ldV σ (elA v i) = some (.int .u8 c) := by rw [hi, hc]; exact hv.ld (by simp)
  have hz' : r * 64 + nx b (a + k) - 128 = z := by rw [nx_at hak, ← hc]; omega
  rw [hz', ← hk']
  rw [r_loopU hB]
  simp [b42_0, h1, h2, h3, h4, h5, h6, hk, w1, w2, w3, w4, w5, w6, hat, hld]
  exact ⟨_, rfl, rfl, by simp, by simp, by simp, by simp, by simp⟩
theorem in_done {σ : St} {v : V} {dd : Bool} {rs : List RC} {s : List SE} {a n k : Nat} {r : Int} {B : D} (hB : B = b42_0) (hk : ¬ k < n) {f : Fr} (hf : InF v a n r k f) :
    ∃ f', run ET dd rs (.d (.loop [0, 1, 6, 7, 8] B) :: .blk 2 :: s) f σ = run ET dd rs s f' σ ∧ InF v a n r k f' := by
  obtain ⟨h1, h2, h3, h4, h5, h6⟩ := hf
  refine ⟨⟨lk [0, 1, 6, 7, 8, 42] [v, .int .i64 a, .int .i64 n, .int .i64 r, .int .i64 k, .bool false], []⟩, ?_, rfl, by simp, by simp, by simp, by simp, by simp⟩
  rw [r_loopU hB]
  simp [b42_0, h1, h2, h3, h4, h5, h6, hk]
def gsV (b : List UInt8) (a : Nat) : Nat → Int
  | 1 => nx b a
  | 2 => ((nx b a : Int) - 192) * 64 + nx b (a + 1) - 128
  | 3 => (((nx b a : Int) - 224) * 64 + nx b (a + 1) - 128) * 64 + nx b (a + 2) - 128
  | 4 => ((((nx b a : Int) - 240) * 64 + nx b (a + 1) - 128) * 64 + nx b (a + 2) - 128) * 64 + nx b (a + 3) - 128
  | _ => 0
def gs0 (b : List UInt8) (a n : Nat) : Int := if n = 2 then (nx b a : Int) - 192 else if n = 3 then (nx b a : Int) - 224 else if n = 4 then (nx b a : Int) - 240 else nx b a
theorem in_all {σ : St} {v : V} {b : List UInt8} (hv : Bs σ v b) (hb : b.length < 2 ^ 40) {dd : Bool} {rs : List RC} {s : List SE} {a n : Nat} {B : D} (hB : B = b42_0) (hn : n = 1 ∨ n = 2 ∨ n = 3 ∨ n = 4) (h : a + n ≤ b.length) {f : Fr} (hf : InF v a n (gs0 b a n) 1 f) :
    Lands ET dd rs s (fun f' σ' => σ' = σ ∧ f'.ds = [] ∧ f'.env 0 = v ∧ f'.env 1 = .int .i64 a ∧ f'.env 6 = .int .i64 n ∧ f'.env 7 = .int .i64 (gsV b a n)) (run ET dd rs (.d (.loop [0, 1, 6, 7, 8] B) :: .blk 2 :: s) f σ) := by
  have c0 := nx_lt b a
  have c1 := nx_lt b (a + 1)
  have c2 := nx_lt b (a + 2)
  have c2' := nx_lt b (a + (1 + 1))
  rcases hn with rfl | rfl | rfl | rfl
  · obtain ⟨f1, e1, h1⟩ := in_done (σ := σ) (dd := dd) (rs := rs) (s := s) hB (by omega) hf
    exact ⟨f1, σ, e1, rfl, h1.1, h1.2.1, h1.2.2.1, h1.2.2.2.1, by rw [h1.2.2.2.2.1]; simp [gs0, gsV]⟩
  · simp [gs0] at hf
    obtain ⟨f1, e1, h1⟩ := in_step (dd := dd) (rs := rs) (s := s) hv hb hB (by omega) (by omega) (by omega) hf
    obtain ⟨f2, e2, h2⟩ := in_done (σ := σ) (dd := dd) (rs := rs) (s := s) hB (by omega) h1
    exact ⟨f2, σ, e1.trans e2, rfl, h2.1, h2.2.1, h2.2.2.1, h2.2.2.2.1, by rw [h2.2.2.2.2.1]; simp [gsV]⟩
  · simp [gs0] at hf
    obtain ⟨f1, e1, h1⟩ := in_step (dd := dd) (rs := rs) (s := s) hv hb hB (by omega) (by omega) (by omega) hf
    obtain ⟨f2, e2, h2⟩ := in_step (dd := dd) (rs := rs) (s := s) hv hb hB (by omega) (by omega) (by omega) h1
    obtain ⟨f3, e3, h3⟩ := in_done (σ := σ) (dd := dd) (rs := rs) (s := s) hB (by omega) h2
    exact ⟨f3, σ, e1.trans (e2.trans e3), rfl, h3.1, h3.2.1, h3.2.2.1, h3.2.2.2.1, by rw [h3.2.2.2.2.1]; simp [gsV]⟩
  · simp [gs0] at hf
    obtain ⟨f1, e1, h1⟩ := in_step (dd := dd) (rs := rs) (s := s) hv hb hB (by omega) (by omega) (by omega) hf
    obtain ⟨f2, e2, h2⟩ := in_step (dd := dd) (rs := rs) (s := s) hv hb hB (by omega) (by omega) (by omega) h1
    obtain ⟨f3, e3, h3⟩ := in_step (dd := dd) (rs := rs) (s := s) hv hb hB (by omega) (by omega) (by omega) h2
    obtain ⟨f4, e4, h4⟩ := in_done (σ := σ) (dd := dd) (rs := rs) (s := s) hB (by omega) h3
    exact ⟨f4, σ, e1.trans (e2.trans (e3.trans e4)), rfl, h4.1, h4.2.1, h4.2.2.1, h4.2.2.2.1, by rw [h4.2.2.2.2.1]; simp [gsV]⟩
theorem encN_lt {r : Int} {l : List Nat} (h : encN r = some l) : ∀ x ∈ l, x < 256 := by
  unfold encN at h
  split at h
  · simp at h
  split at h
  · simp at h; subst h; simp; omega
  split at h
  · simp at h; subst h; simp; omega
  split at h
  · simp at h; subst h; simp; omega
  · simp at h; subst h; simp; omega
theorem bN_eq {l : List Nat} (h : ∀ x ∈ l, x < 256) : bN l = (l.map UInt8.ofNat).map byteE := by
  simp only [bN, List.map_map]
  refine List.map_congr_left fun x hx => ?_
  have := h x hx
  simp [byteE]
  omega
def slN (b : List UInt8) (a n : Nat) : List Nat := ((b.take (a + n)).drop a).map UInt8.toNat
theorem slN_eq {b : List UInt8} {a n : Nat} {l : List Nat} (h : ∀ x ∈ l, x < 256) : l.map UInt8.ofNat = (b.take (a + n)).drop a ↔ l = slN b a n := by
  unfold slN
  generalize (b.take (a + n)).drop a = t
  constructor
  · rintro rfl
    rw [List.map_map]
    conv => lhs; rw [← List.map_id l]
    refine List.map_congr_left fun x hx => ?_
    have := h x hx
    simp; omega
  · rintro rfl
    rw [List.map_map]
    conv => rhs; rw [← List.map_id t]
    exact List.map_congr_left fun x _ => by simp
def OutF (v : V) (a n : Nat) (f : Fr) : Prop := f.ds = [] ∧ f.env 0 = v ∧ f.env 1 = .int .i64 a ∧ f.env 6 = .int .i64 n
set_option maxHeartbeats 1000000 in
theorem out_step {σ : St} {v : V} {b : List UInt8} (hv : Bs σ v b) (hb : b.length < 2 ^ 40) {x : D} {a n : Nat} {B : D} (hB : B = b42_1) (hn : n = 1 ∨ n = 2 ∨ n = 3 ∨ n = 4) (h : a + n ≤ b.length) {f : Fr} (hf : OutF v a n f) :
    if encN (gsV b a n) = some (slN b a n) then run ET false [.t 4, .t 5] (.d (.loop [0, 1, 6] B) :: .blk 0 :: [.d x]) f σ = some (.ret (.tup [.int .i64 (gsV b a n), .int .i64 n]), σ)
    else ∃ f', run ET false [.t 4, .t 5] (.d (.loop [0, 1, 6] B) :: .blk 0 :: [.d x]) f σ = run ET false [.t 4, .t 5] (.d (.loop [0, 1, 6] B) :: .blk 0 :: [.d x]) f' σ ∧ OutF v a (n + 1) f' := by
  obtain ⟨h1, h2, h3, h4⟩ := hf
  obtain ⟨c, hc⟩ : ∃ c, c = nx b a := ⟨_, rfl⟩
  have hcl := nx_lt b a
  have hab : a < b.length := by omega
  rw [nx_at hab] at hc
  have w0 : IntKind.i64.wrap (c : Int) = c := IntWalk.i64_in _ (by have := b[a].toNat_lt; omega)
  obtain ⟨e, he⟩ : ∃ e, e = a + n := ⟨_, rfl⟩
  have w1 : IntKind.i64.wrap ((a : Int) + n) = e := by rw [IntWalk.i64_in _ (by omega)]; omega
  have hat : iaV σ 1 v (.int .i64 a) = some (elA v a) := hv.at hab
  have hld : ldV σ (elA v a) = some (.int .u8 c) := by rw [hc]; exact hv.ld (by simp)
  have hn4 : (n : Int) ≤ 4 := by omega
  have hel : (e : Int) ≤ b.length := by omega
  have hlen := hv.len
  have hcut : lslV = lslV := rfl
  have hs : ∀ env (lo hi : Opd), lo.ev env = .int .i64 a → hi.ev env = .int .i64 e → lslV env σ 1 v (some lo) (some hi) = some (cutV v a e) := fun env lo hi h5 h6 => hv.lslBoth h5 h6 (by omega) (by omega)
  have hstr : b2sV σ (cutV v a e) = some (.str ((b.take e).drop a)) := (hv.cut (by omega) (by omega)).str
  have hnx : (c : Int) = nx b a := by rw [nx_at hab, hc]
  have hen := renc_ev (σ := σ) (gsV b a n)
  obtain ⟨n', hn'⟩ : ∃ n', n' = n + 1 := ⟨_, rfl⟩
  have w2 : IntKind.i64.wrap ((n : Int) + 1) = (n' : Int) := by rw [IntWalk.i64_in _ (by omega)]; omega
  have u1 : IntKind.i64.wrap ((c : Int) - 192) = c - 192 := IntWalk.i64_in _ (by omega)
  have u2 : IntKind.i64.wrap ((c : Int) - 224) = c - 224 := IntWalk.i64_in _ (by omega)
  have u3 : IntKind.i64.wrap ((c : Int) - 240) = c - 240 := IntWalk.i64_in _ (by omega)
  rw [r_loopU hB]
  rw [← hn']
  rcases hn with rfl | rfl | rfl | rfl
  · have w1' : IntKind.i64.wrap ((a : Int) + 1) = e := w1
    have w2' : IntKind.i64.wrap (2 : Int) = (n' : Int) := w2
    have h4' : f.env 6 = .int .i64 1 := h4
    by_cases hok : encN (gsV b a 1) = some (slN b a 1)
    · rw [if_pos hok]
      have hlt := encN_lt hok
      have hen1 : b2sV σ (.islc 1 (bN (slN b a 1))) = some (.str ((b.take e).drop a)) := by
        rw [bN_eq hlt, (slN_eq hlt).2 rfl, ← he]
        exact (Tl.islc 1 _).rd (σ := σ) |> fun h => Bs.str h
      rw [hok] at hen
      simp [encV] at hen
      simp [b42_1, h1, h2, h3, h4', hlen, w0, w1', w2', hat, hld, hel, u1, u2, u3]
      refine Lands.to (C := fun r => r = some (CO.ret (.tup [.int .i64 (gsV b a 1), .int .i64 1]), σ)) (in_all hv hb rfl (by simp) h ⟨by simp, by simp [h2], by simp [h3], by simp, by simp [gs0, hnx], by simp⟩) ?_
      rintro f' σ' ⟨hσ, g1, g2, g3, g4, g5⟩
      rw [hσ]
      simp [g1, g2, g3, g4, g5, hen, hen1, w1', hs, hstr]
    · rw [if_neg hok]
      simp [b42_1, h1, h2, h3, h4', hlen, w0, w1', w2', hat, hld, hel, u1, u2, u3]
      refine Lands.to (C := fun r => ∃ f', r = run ET false [.t 4, .t 5] (.d (.loop [0, 1, 6] B) :: .blk 0 :: [.d x]) f' σ ∧ OutF v a n' f') (in_all hv hb rfl (by simp) h ⟨by simp, by simp [h2], by simp [h3], by simp, by simp [gs0, hnx], by simp⟩) ?_
      rintro f' σ' ⟨hσ, g1, g2, g3, g4, g5⟩
      rw [hσ]
      cases hq : encN (gsV b a 1) with
      | none =>
        rw [hq] at hen
        simp [encV] at hen
        simp [g1, g2, g3, g4, g5, hen, w2']
        exact ⟨_, rfl, rfl, by simp, by simp, by simp⟩
      | some l =>
        have hlt := encN_lt hq
        have hen1 : b2sV σ (.islc 1 (bN l)) = some (.str (l.map UInt8.ofNat)) := by
          rw [bN_eq hlt]
          exact (Tl.islc 1 _).rd (σ := σ) |> fun h => Bs.str h
        have hne : ¬ l.map UInt8.ofNat = (b.take e).drop a := fun h5 => by
          rw [he] at h5
          exact hok (by rw [hq, (slN_eq hlt).1 h5])
        rw [hq] at hen
        simp [encV] at hen
        simp [g1, g2, g3, g4, g5, hen, hen1, w1', w2', hs, hstr, hne]
        exact ⟨_, rfl, rfl, by simp, by simp, by simp⟩
  · have w1' : IntKind.i64.wrap ((a : Int) + 2) = e := w1
    have w2' : IntKind.i64.wrap (3 : Int) = (n' : Int) := w2
    have h4' : f.env 6 = .int .i64 2 := h4
    by_cases hok : encN (gsV b a 2) = some (slN b a 2)
    · rw [if_pos hok]
      have hlt := encN_lt hok
      have hen1 : b2sV σ (.islc 1 (bN (slN b a 2))) = some (.str ((b.take e).drop a)) := by
        rw [bN_eq hlt, (slN_eq hlt).2 rfl, ← he]
        exact (Tl.islc 1 _).rd (σ := σ) |> fun h => Bs.str h
      rw [hok] at hen
      simp [encV] at hen
      simp [b42_1, h1, h2, h3, h4', hlen, w0, w1', w2', hat, hld, hel, u1, u2, u3]
      refine Lands.to (C := fun r => r = some (CO.ret (.tup [.int .i64 (gsV b a 2), .int .i64 2]), σ)) (in_all hv hb rfl (by simp) h ⟨by simp, by simp [h2], by simp [h3], by simp, by simp [gs0, hnx], by simp⟩) ?_
      rintro f' σ' ⟨hσ, g1, g2, g3, g4, g5⟩
      rw [hσ]
      simp [g1, g2, g3, g4, g5, hen, hen1, w1', hs, hstr]
    · rw [if_neg hok]
      simp [b42_1, h1, h2, h3, h4', hlen, w0, w1', w2', hat, hld, hel, u1, u2, u3]
      refine Lands.to (C := fun r => ∃ f', r = run ET false [.t 4, .t 5] (.d (.loop [0, 1, 6] B) :: .blk 0 :: [.d x]) f' σ ∧ OutF v a n' f') (in_all hv hb rfl (by simp) h ⟨by simp, by simp [h2], by simp [h3], by simp, by simp [gs0, hnx], by simp⟩) ?_
      rintro f' σ' ⟨hσ, g1, g2, g3, g4, g5⟩
      rw [hσ]
      cases hq : encN (gsV b a 2) with
      | none =>
        rw [hq] at hen
        simp [encV] at hen
        simp [g1, g2, g3, g4, g5, hen, w2']
        exact ⟨_, rfl, rfl, by simp, by simp, by simp⟩
      | some l =>
        have hlt := encN_lt hq
        have hen1 : b2sV σ (.islc 1 (bN l)) = some (.str (l.map UInt8.ofNat)) := by
          rw [bN_eq hlt]
          exact (Tl.islc 1 _).rd (σ := σ) |> fun h => Bs.str h
        have hne : ¬ l.map UInt8.ofNat = (b.take e).drop a := fun h5 => by
          rw [he] at h5
          exact hok (by rw [hq, (slN_eq hlt).1 h5])
        rw [hq] at hen
        simp [encV] at hen
        simp [g1, g2, g3, g4, g5, hen, hen1, w1', w2', hs, hstr, hne]
        exact ⟨_, rfl, rfl, by simp, by simp, by simp⟩
  · have w1' : IntKind.i64.wrap ((a : Int) + 3) = e := w1
    have w2' : IntKind.i64.wrap (4 : Int) = (n' : Int) := w2
    have h4' : f.env 6 = .int .i64 3 := h4
    by_cases hok : encN (gsV b a 3) = some (slN b a 3)
    · rw [if_pos hok]
      have hlt := encN_lt hok
      have hen1 : b2sV σ (.islc 1 (bN (slN b a 3))) = some (.str ((b.take e).drop a)) := by
        rw [bN_eq hlt, (slN_eq hlt).2 rfl, ← he]
        exact (Tl.islc 1 _).rd (σ := σ) |> fun h => Bs.str h
      rw [hok] at hen
      simp [encV] at hen
      simp [b42_1, h1, h2, h3, h4', hlen, w0, w1', w2', hat, hld, hel, u1, u2, u3]
      refine Lands.to (C := fun r => r = some (CO.ret (.tup [.int .i64 (gsV b a 3), .int .i64 3]), σ)) (in_all hv hb rfl (by simp) h ⟨by simp, by simp [h2], by simp [h3], by simp, by simp [gs0, hnx], by simp⟩) ?_
      rintro f' σ' ⟨hσ, g1, g2, g3, g4, g5⟩
      rw [hσ]
      simp [g1, g2, g3, g4, g5, hen, hen1, w1', hs, hstr]
    · rw [if_neg hok]
      simp [b42_1, h1, h2, h3, h4', hlen, w0, w1', w2', hat, hld, hel, u1, u2, u3]
      refine Lands.to (C := fun r => ∃ f', r = run ET false [.t 4, .t 5] (.d (.loop [0, 1, 6] B) :: .blk 0 :: [.d x]) f' σ ∧ OutF v a n' f') (in_all hv hb rfl (by simp) h ⟨by simp, by simp [h2], by simp [h3], by simp, by simp [gs0, hnx], by simp⟩) ?_
      rintro f' σ' ⟨hσ, g1, g2, g3, g4, g5⟩
      rw [hσ]
      cases hq : encN (gsV b a 3) with
      | none =>
        rw [hq] at hen
        simp [encV] at hen
        simp [g1, g2, g3, g4, g5, hen, w2']
        exact ⟨_, rfl, rfl, by simp, by simp, by simp⟩
      | some l =>
        have hlt := encN_lt hq
        have hen1 : b2sV σ (.islc 1 (bN l)) = some (.str (l.map UInt8.ofNat)) := by
          rw [bN_eq hlt]
          exact (Tl.islc 1 _).rd (σ := σ) |> fun h => Bs.str h
        have hne : ¬ l.map UInt8.ofNat = (b.take e).drop a := fun h5 => by
          rw [he] at h5
          exact hok (by rw [hq, (slN_eq hlt).1 h5])
        rw [hq] at hen
        simp [encV] at hen
        simp [g1, g2, g3, g4, g5, hen, hen1, w1', w2', hs, hstr, hne]
        exact ⟨_, rfl, rfl, by simp, by simp, by simp⟩
  · have w1' : IntKind.i64.wrap ((a : Int) + 4) = e := w1
    have w2' : IntKind.i64.wrap (5 : Int) = (n' : Int) := w2
    have h4' : f.env 6 = .int .i64 4 := h4
    by_cases hok : encN (gsV b a 4) = some (slN b a 4)
    · rw [if_pos hok]
      have hlt := encN_lt hok
      have hen1 : b2sV σ (.islc 1 (bN (slN b a 4))) = some (.str ((b.take e).drop a)) := by
        rw [bN_eq hlt, (slN_eq hlt).2 rfl, ← he]
        exact (Tl.islc 1 _).rd (σ := σ) |> fun h => Bs.str h
      rw [hok] at hen
      simp [encV] at hen
      simp [b42_1, h1, h2, h3, h4', hlen, w0, w1', w2', hat, hld, hel, u1, u2, u3]
      refine Lands.to (C := fun r => r = some (CO.ret (.tup [.int .i64 (gsV b a 4), .int .i64 4]), σ)) (in_all hv hb rfl (by simp) h ⟨by simp, by simp [h2], by simp [h3], by simp, by simp [gs0, hnx], by simp⟩) ?_
      rintro f' σ' ⟨hσ, g1, g2, g3, g4, g5⟩
      rw [hσ]
      simp [g1, g2, g3, g4, g5, hen, hen1, w1', hs, hstr]
    · rw [if_neg hok]
      simp [b42_1, h1, h2, h3, h4', hlen, w0, w1', w2', hat, hld, hel, u1, u2, u3]
      refine Lands.to (C := fun r => ∃ f', r = run ET false [.t 4, .t 5] (.d (.loop [0, 1, 6] B) :: .blk 0 :: [.d x]) f' σ ∧ OutF v a n' f') (in_all hv hb rfl (by simp) h ⟨by simp, by simp [h2], by simp [h3], by simp, by simp [gs0, hnx], by simp⟩) ?_
      rintro f' σ' ⟨hσ, g1, g2, g3, g4, g5⟩
      rw [hσ]
      cases hq : encN (gsV b a 4) with
      | none =>
        rw [hq] at hen
        simp [encV] at hen
        simp [g1, g2, g3, g4, g5, hen, w2']
        exact ⟨_, rfl, rfl, by simp, by simp, by simp⟩
      | some l =>
        have hlt := encN_lt hq
        have hen1 : b2sV σ (.islc 1 (bN l)) = some (.str (l.map UInt8.ofNat)) := by
          rw [bN_eq hlt]
          exact (Tl.islc 1 _).rd (σ := σ) |> fun h => Bs.str h
        have hne : ¬ l.map UInt8.ofNat = (b.take e).drop a := fun h5 => by
          rw [he] at h5
          exact hok (by rw [hq, (slN_eq hlt).1 h5])
        rw [hq] at hen
        simp [encV] at hen
        simp [g1, g2, g3, g4, g5, hen, hen1, w1', w2', hs, hstr, hne]
        exact ⟨_, rfl, rfl, by simp, by simp, by simp⟩
end Go.Proofs.Ytogibebpoliolaa
namespace Go.Proofs.Ytogibebpoliolaa
open Go.Proofs.Ytogibebpoliolaa.Ab
set_option linter.unusedVariables false
set_option linter.unusedSimpArgs false
theorem slN_len {b : List UInt8} {a n : Nat} (h : a + n ≤ b.length) : (slN b a n).length = n := by simp [slN]; omega
theorem slN_get {b : List UInt8} {a n j : Nat} (h : a + n ≤ b.length) (hj : j < n) : (slN b a n)[j]? = some (nx b (a + j)) := by
  have : a + j < b.length := by omega
  simp [slN, List.getElem?_drop, List.getElem?_take, hj, nx_at this]
  exact ⟨b[a + j], by simp, rfl⟩
theorem sl1 {b : List UInt8} {a : Nat} (h : a + 1 ≤ b.length) : slN b a 1 = [nx b a] := by
  apply List.ext_getElem?
  intro i
  match i with
  | 0 => rw [slN_get h (by omega)]; rfl
  | i + 1 => rw [List.getElem?_eq_none (by rw [slN_len h]; omega)]; rfl
theorem sl2 {b : List UInt8} {a : Nat} (h : a + 2 ≤ b.length) : slN b a 2 = [nx b a, nx b (a + 1)] := by
  apply List.ext_getElem?
  intro i
  match i with
  | 0 => rw [slN_get h (by omega)]; rfl
  | 1 => rw [slN_get h (by omega)]; rfl
  | i + 2 => rw [List.getElem?_eq_none (by rw [slN_len h]; omega)]; rfl
theorem sl3 {b : List UInt8} {a : Nat} (h : a + 3 ≤ b.length) : slN b a 3 = [nx b a, nx b (a + 1), nx b (a + 2)] := by
  apply List.ext_getElem?
  intro i
  match i with
  | 0 => rw [slN_get h (by omega)]; rfl
  | 1 => rw [slN_get h (by omega)]; rfl
  | 2 => rw [slN_get h (by omega)]; rfl
  | i + 3 => rw [List.getElem?_eq_none (by rw [slN_len h]; omega)]; rfl
theorem sl4 {b : List UInt8} {a : Nat} (h : a + 4 ≤ b.length) : slN b a 4 = [nx b a, nx b (a + 1), nx b (a + 2), nx b (a + 3)] := by
  apply List.ext_getElem?
  intro i
  match i with
  | 0 => rw [slN_get h (by omega)]; rfl
  | 1 => rw [slN_get h (by omega)]; rfl
  | 2 => rw [slN_get h (by omega)]; rfl
  | 3 => rw [slN_get h (by omega)]; rfl
  | i + 4 => rw [List.getElem?_eq_none (by rw [slN_len h]; omega)]; rfl
theorem enc1 {r : Int} {x : Nat} : encN r = some [x] ↔ (0 ≤ r ∧ r < 128 ∧ r = x) := by
  unfold encN
  split
  · simp; omega
  · split
    · simp; omega
    · split
      · simp; omega
      · split <;> (simp; try omega)
theorem enc2 {r : Int} {x y : Nat} : encN r = some [x, y] ↔ (128 ≤ r ∧ r < 2048 ∧ 192 + r.toNat / 64 = x ∧ 128 + r.toNat % 64 = y) := by
  unfold encN
  split
  · simp; omega
  · split
    · simp; omega
    · split
      · simp; omega
      · split <;> (simp; try omega)
theorem enc3 {r : Int} {x y z : Nat} : encN r = some [x, y, z] ↔ (2048 ≤ r ∧ r < 65536 ∧ ¬ (55296 ≤ r ∧ r ≤ 57343) ∧ 224 + r.toNat / 4096 = x ∧ 128 + r.toNat / 64 % 64 = y ∧ 128 + r.toNat % 64 = z) := by
  unfold encN
  split
  · simp; omega
  · split
    · simp; omega
    · split
      · simp; omega
      · split <;> (simp; try omega)
theorem enc4 {r : Int} {x y z w : Nat} : encN r = some [x, y, z, w] ↔ (65536 ≤ r ∧ r ≤ 1114111 ∧ 240 + r.toNat / 262144 = x ∧ 128 + r.toNat / 4096 % 64 = y ∧ 128 + r.toNat / 64 % 64 = z ∧ 128 + r.toNat % 64 = w) := by
  unfold encN
  split
  · simp; omega
  · split
    · simp; omega
    · split
      · simp; omega
      · split <;> (simp; try omega)
theorem fit1 {b : List UInt8} {a : Nat} (h : a + 1 ≤ b.length) : encN (gsV b a 1) = some (slN b a 1) ↔ nx b a < 128 := by
  rw [sl1 h, enc1]; simp [gsV]; omega
theorem fit2 {b : List UInt8} {a : Nat} (h : a + 2 ≤ b.length) : encN (gsV b a 2) = some (slN b a 2) ↔ (194 ≤ nx b a ∧ nx b a ≤ 223 ∧ go b (a + 1)) := by
  rw [sl2 h, enc2]
  have h1 := nx_lt b a
  have h2 := nx_lt b (a + 1)
  simp only [gsV, go]
  generalize nx b a = x at *
  generalize nx b (a + 1) = y at *
  constructor
  · rintro ⟨k1, k2, k3, k4⟩
    obtain ⟨m, hm⟩ : ∃ m : Nat, ((x : Int) - 192) * 64 + y - 128 = m := ⟨(((x : Int) - 192) * 64 + y - 128).toNat, by omega⟩
    rw [hm] at k1 k2 k3 k4
    simp at k3 k4
    omega
  · rintro ⟨k1, k2, k3, k4⟩
    obtain ⟨m, hm⟩ : ∃ m : Nat, ((x : Int) - 192) * 64 + y - 128 = m := ⟨(((x : Int) - 192) * 64 + y - 128).toNat, by omega⟩
    rw [hm]; simp
    omega
theorem fit3 {b : List UInt8} {a : Nat} (h : a + 3 ≤ b.length) : encN (gsV b a 3) = some (slN b a 3) ↔ (224 ≤ nx b a ∧ nx b a ≤ 239 ∧ go b (a + 1) ∧ go b (a + 2) ∧ 2048 ≤ lt3 (nx b a) (nx b (a + 1)) (nx b (a + 2)) ∧ (lt3 (nx b a) (nx b (a + 1)) (nx b (a + 2)) < 55296 ∨ 57343 < lt3 (nx b a) (nx b (a + 1)) (nx b (a + 2)))) := by
  rw [sl3 h, enc3]
  have h1 := nx_lt b a
  have h2 := nx_lt b (a + 1)
  have h3 := nx_lt b (a + 2)
  simp only [gsV, go, lt3]
  generalize nx b a = x at *
  generalize nx b (a + 1) = y at *
  generalize nx b (a + 2) = z at *
  constructor
  · rintro ⟨k1, k2, k3, k4, k5, k6⟩
    obtain ⟨m, hm⟩ : ∃ m : Nat, (((x : Int) - 224) * 64 + y - 128) * 64 + z - 128 = m := ⟨((((x : Int) - 224) * 64 + y - 128) * 64 + z - 128).toNat, by omega⟩
    rw [hm] at k1 k2 k3 k4 k5 k6
    simp at k4 k5 k6
    omega
  · rintro ⟨k1, k2, k3, k4, k5, k6⟩
    obtain ⟨m, hm⟩ : ∃ m : Nat, (((x : Int) - 224) * 64 + y - 128) * 64 + z - 128 = m := ⟨((((x : Int) - 224) * 64 + y - 128) * 64 + z - 128).toNat, by omega⟩
    rw [hm]; simp
    omega
theorem fit4 {b : List UInt8} {a : Nat} (h : a + 4 ≤ b.length) : encN (gsV b a 4) = some (slN b a 4) ↔ (240 ≤ nx b a ∧ nx b a ≤ 244 ∧ go b (a + 1) ∧ go b (a + 2) ∧ go b (a + 3) ∧ 65536 ≤ lt4 (nx b a) (nx b (a + 1)) (nx b (a + 2)) (nx b (a + 3)) ∧ lt4 (nx b a) (nx b (a + 1)) (nx b (a + 2)) (nx b (a + 3)) ≤ 1114111) := by
  rw [sl4 h, enc4]
  have h1 := nx_lt b a
  have h2 := nx_lt b (a + 1)
  have h3 := nx_lt b (a + 2)
  have h4 := nx_lt b (a + 3)
  simp only [gsV, go, lt4]
  generalize nx b a = x at *
  generalize nx b (a + 1) = y at *
  generalize nx b (a + 2) = z at *
  generalize nx b (a + 3) = w at *
  constructor
  · rintro ⟨k1, k2, k3, k4, k5, k6⟩
    obtain ⟨m, hm⟩ : ∃ m : Nat, ((((x : Int) - 240) * 64 + y - 128) * 64 + z - 128) * 64 + w - 128 = m := ⟨(((((x : Int) - 240) * 64 + y - 128) * 64 + z - 128) * 64 + w - 128).toNat, by omega⟩
    rw [hm] at k1 k2 k3 k4 k5 k6
    simp at k3 k4 k5 k6
    omega
  · rintro ⟨k1, k2, k3, k4, k5, k6⟩
    obtain ⟨m, hm⟩ : ∃ m : Nat, ((((x : Int) - 240) * 64 + y - 128) * 64 + z - 128) * 64 + w - 128 = m := ⟨(((((x : Int) - 240) * 64 + y - 128) * 64 + z - 128) * 64 + w - 128).toNat, by omega⟩
    rw [hm]; simp
    omega
theorem val2 {x y : Nat} (h1 : 194 ≤ x ∧ x ≤ 223) (h2 : 128 ≤ y ∧ y < 192) : ((x : Int) - 192) * 64 + y - 128 = (lt2 x y : Nat) := by unfold lt2; omega
theorem val3 {x y z : Nat} (h1 : 224 ≤ x ∧ x ≤ 239) (h2 : 128 ≤ y ∧ y < 192) (h3 : 128 ≤ z ∧ z < 192) : (((x : Int) - 224) * 64 + y - 128) * 64 + z - 128 = (lt3 x y z : Nat) := by unfold lt3; omega
theorem val4 {x y z w : Nat} (h1 : 240 ≤ x ∧ x ≤ 244) (h2 : 128 ≤ y ∧ y < 192) (h3 : 128 ≤ z ∧ z < 192) (h4 : 128 ≤ w ∧ w < 192) : ((((x : Int) - 240) * 64 + y - 128) * 64 + z - 128) * 64 + w - 128 = (lt4 x y z w : Nat) := by unfold lt4; omega
def oneV : Option (Nat × Nat) → V
  | some (r, n) => .tup [.int .i64 r, .int .i64 n]
  | none => .tup [.int .i64 (-1), .int .i64 0]
def oneX : D := .kb [] (.seq (.reg [⟨some 4, none, .mv (.c (.int .i64 (-1)))⟩, ⟨some 5, none, .mv (.c (.int .i64 0))⟩]) .ret)
theorem out_exit {σ : St} {v : V} {b : List UInt8} (hv : Bs σ v b) (hb : b.length < 2 ^ 40) {a n : Nat} {B : D} (hB : B = b42_1) (hn : n ≤ 5) (ha : a ≤ b.length) (h : ¬ (n ≤ 4 ∧ a + n ≤ b.length)) {f : Fr} (hf : OutF v a n f) :
    run ET false [.t 4, .t 5] (.d (.loop [0, 1, 6] B) :: .blk 0 :: [.d oneX]) f σ = some (.ret (oneV none), σ) := by
  obtain ⟨h1, h2, h3, h4⟩ := hf
  have hlen := hv.len
  rw [r_loopU hB]
  by_cases h5 : n ≤ 4
  · obtain ⟨e, he⟩ : ∃ e, e = a + n := ⟨_, rfl⟩
    have w1 : IntKind.i64.wrap ((a : Int) + n) = e := by rw [IntWalk.i64_in _ (by omega)]; omega
    have h5' : (n : Int) ≤ 4 := by omega
    have h6 : ¬ e ≤ b.length := by omega
    simp [b42_1, h1, h2, h3, h4, hlen, w1, h5', h6, oneX, oneV]
  · have h5' : ¬ (n : Int) ≤ 4 := by omega
    simp [b42_1, h1, h2, h3, h4, hlen, h5', oneX, oneV]
theorem out2 {σ : St} {v : V} {b : List UInt8} (hv : Bs σ v b) (hb : b.length < 2 ^ 40) {a n : Nat} {Q : Prop} (hn : n = 1 ∨ n = 2 ∨ n = 3 ∨ n = 4) (h : a + n ≤ b.length) {f : Fr} (hf : OutF v a n f) (hQ : encN (gsV b a n) = some (slN b a n) ↔ Q) :
    (Q → run ET false [.t 4, .t 5] (.d (.loop [0, 1, 6] b42_1) :: .blk 0 :: [.d oneX]) f σ = some (.ret (.tup [.int .i64 (gsV b a n), .int .i64 n]), σ)) ∧
    (¬ Q → ∃ f', run ET false [.t 4, .t 5] (.d (.loop [0, 1, 6] b42_1) :: .blk 0 :: [.d oneX]) f σ = run ET false [.t 4, .t 5] (.d (.loop [0, 1, 6] b42_1) :: .blk 0 :: [.d oneX]) f' σ ∧ OutF v a (n + 1) f') := by
  have := out_step hv hb (x := oneX) (B := b42_1) rfl hn h hf
  constructor
  · intro q; rwa [if_pos (hQ.2 q)] at this
  · intro q; rwa [if_neg (fun e => q (hQ.1 e))] at this
theorem one_ev {σ : St} {v : V} {b : List UInt8} (hv : Bs σ v b) (hb : b.length < 2 ^ 40) {a : Nat} (ha : a < b.length) : ev ET 42 [v, .int .i64 a] σ = some (.ret (oneV (lt1 b a)), σ) := by
  refine ev_same (fd := f42) (o := .ret (oneV (lt1 b a))) rfl (by simp [f42]) rfl ?_ (by cases lt1 b a <;> simp [oneV])
  have hrun : run ET false f42.res [.d f42.body] ⟨envOf [v, .int .i64 a], []⟩ σ = run ET false [.t 4, .t 5] (.d (.loop [0, 1, 6] b42_1) :: .blk 0 :: [.d oneX]) ⟨lk [0, 1, 6] [v, .int .i64 a, .int .i64 1], []⟩ σ := by
    rw [r_loop]
    simp [f42, d42, oneX]
    rw [r_loop]
    simp
  rw [hrun]
  have s1 := out2 (a := a) hv hb (n := 1) (by simp) (by omega) (f := ⟨lk [0, 1, 6] [v, .int .i64 a, .int .i64 1], []⟩) ⟨rfl, by simp, by simp, by simp⟩ (fit1 (by omega))
  unfold lt1
  by_cases c1 : nx b a < 128
  · rw [if_pos c1]
    rw [s1.1 c1]; simp [gsV, oneV]
  rw [if_neg c1]
  obtain ⟨f1, e1, k1⟩ := s1.2 c1
  rw [e1]
  by_cases l2 : a + 2 ≤ b.length
  · have s2 := out2 hv hb (n := 2) (by simp) l2 k1 (fit2 l2)
    by_cases c2 : 194 ≤ nx b a ∧ nx b a ≤ 223 ∧ go b (a + 1)
    · rw [if_pos c2]
      rw [s2.1 c2]; simp only [gsV, oneV]; rw [val2 ⟨c2.1, c2.2.1⟩ c2.2.2]
    rw [if_neg c2]
    obtain ⟨f2, e2, k2⟩ := s2.2 c2
    rw [e2]
    by_cases l3 : a + 3 ≤ b.length
    · have s3 := out2 hv hb (n := 3) (by simp) l3 k2 (fit3 l3)
      by_cases c3 : 224 ≤ nx b a ∧ nx b a ≤ 239 ∧ go b (a + 1) ∧ go b (a + 2)
      · rw [if_pos c3]
        simp only
        by_cases c4 : 2048 ≤ lt3 (nx b a) (nx b (a + 1)) (nx b (a + 2)) ∧ (lt3 (nx b a) (nx b (a + 1)) (nx b (a + 2)) < 55296 ∨ 57343 < lt3 (nx b a) (nx b (a + 1)) (nx b (a + 2)))
        · rw [if_pos c4]
          rw [s3.1 ⟨c3.1, c3.2.1, c3.2.2.1, c3.2.2.2, c4⟩]; simp only [gsV, oneV]; rw [val3 ⟨c3.1, c3.2.1⟩ c3.2.2.1 c3.2.2.2]
        · rw [if_neg c4]
          obtain ⟨f3, e3, k3⟩ := s3.2 (fun h => c4 h.2.2.2.2)
          rw [e3]
          by_cases l4 : a + 4 ≤ b.length
          · have s4 := out2 hv hb (n := 4) (by simp) l4 k3 (fit4 l4)
            obtain ⟨f4, e4, k4⟩ := s4.2 (by omega)
            rw [e4]
            exact out_exit hv hb rfl (by omega) (by omega) (by omega) k4
          · exact out_exit hv hb rfl (by omega) (by omega) (by omega) k3
      · rw [if_neg c3]
        obtain ⟨f3, e3, k3⟩ := s3.2 (fun h => c3 ⟨h.1, h.2.1, h.2.2.1, h.2.2.2.1⟩)
        rw [e3]
        by_cases l4 : a + 4 ≤ b.length
        · have s4 := out2 hv hb (n := 4) (by simp) l4 k3 (fit4 l4)
          by_cases c5 : 240 ≤ nx b a ∧ nx b a ≤ 244 ∧ go b (a + 1) ∧ go b (a + 2) ∧ go b (a + 3)
          · rw [if_pos c5]
            simp only
            by_cases c4 : 65536 ≤ lt4 (nx b a) (nx b (a + 1)) (nx b (a + 2)) (nx b (a + 3)) ∧ lt4 (nx b a) (nx b (a + 1)) (nx b (a + 2)) (nx b (a + 3)) ≤ 1114111
            · rw [if_pos c4]
              rw [s4.1 ⟨c5.1, c5.2.1, c5.2.2.1, c5.2.2.2.1, c5.2.2.2.2, c4⟩]; simp only [gsV, oneV]; rw [val4 ⟨c5.1, c5.2.1⟩ c5.2.2.1 c5.2.2.2.1 c5.2.2.2.2]
            · rw [if_neg c4]
              obtain ⟨f4, e4, k4⟩ := s4.2 (fun h => c4 h.2.2.2.2.2)
              rw [e4]
              exact out_exit hv hb rfl (by omega) (by omega) (by omega) k4
          · rw [if_neg c5]
            obtain ⟨f4, e4, k4⟩ := s4.2 (fun h => c5 ⟨h.1, h.2.1, h.2.2.1, h.2.2.2.1, h.2.2.2.2.1⟩)
            rw [e4]
            exact out_exit hv hb rfl (by omega) (by omega) (by omega) k4
        · rw [if_neg (fun h => by have := go_in h.2.2.2.2; omega)]
          exact out_exit hv hb rfl (by omega) (by omega) (by omega) k3
    · rw [if_neg (fun h => by have := go_in h.2.2.2; omega), if_neg (fun h => by have := go_in h.2.2.2.1; omega)]
      exact out_exit hv hb rfl (by omega) (by omega) (by omega) k2
  · rw [if_neg (fun h => by have := go_in h.2.2; omega), if_neg (fun h => by have := go_in h.2.2.1; omega), if_neg (fun h => by have := go_in h.2.2.1; omega)]
    exact out_exit hv hb rfl (by omega) (by omega) (by omega) k1
end Go.Proofs.Ytogibebpoliolaa
namespace Go.Proofs.Ytogibebpoliolaa
open Go.Proofs.Ytogibebpoliolaa.Ab
set_option linter.unusedVariables false
set_option linter.unusedSimpArgs false
def ltE (x : Nat × Int × Nat) : List V := [.int .i64 x.1, .int .i64 x.2.1, .int .i64 x.2.2]
theorem ltE_pure (l : List (Nat × Int × Nat)) : ∀ e ∈ l.map ltE, ∀ u ∈ e, u.pure = true := fun e he u hu => by
  rw [List.mem_map] at he; obtain ⟨c, _, rfl⟩ := he; simp [ltE] at hu; rcases hu with rfl | rfl | rfl <;> rfl
theorem rlet_loop {σ0 : St} {v : V} {b : List UInt8} (hv : Bs σ0 v b) (ho : v.old σ0) (hb : b.length < 2 ^ 40) {dd : Bool} {rs : List RC} {s : List SE} {B : D} (hB : B = b35_0) :
    ∀ (n i : Nat) (acc : List (Nat × Int × Nat)) (f : Fr) (σ : St), b.length ≤ i + n → acc.length ≤ i → f.ds = [] → f.env 0 = v → f.env 4 = .int .i64 i → Own σ0 σ 3 (f.env 3) (acc.map ltE) →
      Lands ET dd rs s (fun f' σ' => f'.ds = [] ∧ Own σ0 σ' 3 (f'.env 3) ((acc ++ lts b i).map ltE)) (run ET dd rs (.d (.loop [0, 3, 4] B) :: .blk 0 :: s) f σ)
  | n, i, acc, f, σ, hn, ha, hd, h0, h4, hq => by
    rw [r_loopU hB]
    have hv' := hv.gr hq.gr ho
    by_cases h : i < b.length
    · rw [lts_at h]
      have hp := sp_pos h
      have h1 := one_ev hv' hb h
      cases n with
      | zero => omega
      | succ n =>
      obtain ⟨r, k, hr⟩ : ∃ r k, sp b i = (r, k) := ⟨_, _, rfl⟩
      rw [hr] at hp ⊢
      simp only at hp ⊢
      obtain ⟨j, hj⟩ : ∃ j, j = i + k := ⟨_, rfl⟩
      have hw : IntKind.i64.wrap ((i : Int) + k) = (j : Int) := by rw [IntWalk.i64_in _ (by omega)]; omega
      rw [← hj]
      obtain ⟨u, τ, ap, hq'⟩ := hq.app1 [ltE (i, r, k)] (by simp) (bytes := 24) (n := 1) (by simp [reach]; omega) (by simp [reach]; omega) rfl
      have hgo : ∀ g : Fr, g.ds = [] → g.env 0 = v → g.env 4 = .int .i64 j → g.env 3 = u → _ := fun g g1 g2 g3 g4 => rlet_loop hv ho hb (dd := dd) (rs := rs) (s := s) hB n j (acc ++ [(i, r, k)]) g τ (by omega) (by simp; omega) g1 g2 g3 (by rw [g4]; simpa using hq')
      simp only [List.append_assoc, List.singleton_append] at hgo
      simp [ltE] at ap
      cases hl : lt1 b i with
      | none =>
        rw [hl] at h1
        simp only [sp, hl, Prod.mk.injEq] at hr
        obtain ⟨rfl, rfl⟩ := hr
        have hw' : IntKind.i64.wrap ((i : Int) + 1) = (j : Int) := hw
        have ap' : appV (σ.new (.row 3 [[.int .i64 i, .int .i64 (-1), .int .i64 1]])) 24 3 (f.env 3) (.slc σ.n 0 1) = some (u, τ) := ap
        simp only [oneV] at h1
        simp [b35_0, h0, h4, hd, hv'.len, h, h1, hw', ap']
        exact .mono (hgo _ rfl (by simp) (by simp) (by simp)) fun _ _ h => by simpa using h
      | some rn =>
        obtain ⟨r', k'⟩ := rn
        rw [hl] at h1
        simp only [sp, hl, Prod.mk.injEq] at hr
        obtain ⟨rfl, rfl⟩ := hr
        have hk : ¬ k' = 0 := by omega
        simp only [oneV] at h1
        simp [b35_0, h0, h4, hd, hv'.len, h, h1, hk, hw, ap]
        exact .mono (hgo _ rfl (by simp) (by simp) (by simp)) fun _ _ h => by simpa using h
    · rw [lts_end h]
      simp [b35_0, h0, h4, hd, hv'.len, h]
      exact .here ⟨by simp, by simpa using hq⟩
theorem rlet_ev {σ : St} {v : V} {b : List UInt8} (hv : Bs σ v b) (ho : v.old σ) (hb : b.length < 2 ^ 40) : ∃ u, ev ET 35 [v] σ = some (.ret u, σ) ∧ Tl 3 u ((lts b 0).map ltE) := by
  obtain ⟨f', σ', e, hd, hq'⟩ := rlet_loop hv ho hb (dd := false) (rs := f35.res) (s := [.d (.kb [3] (.seq (.reg [⟨some 36, none, .mv (.t 3)⟩, ⟨some 2, none, .mv (.t 36)⟩]) .ret))]) rfl b.length 0 [] ⟨lk [0, 3, 4] [v, .nils, .int .i64 0], []⟩ σ (by omega) (by simp) rfl (by simp) (by simp) (by simpa using Own.nils σ 3)
  refine ⟨_, ev_pure (fd := f35) (o := .ret (f'.env 3)) (σ' := σ') rfl (by simp [f35]) rfl ?_ hq'.gr.H hq'.gr.W (by simp only [frzO_ret]; rw [hq'.frzV (ltE_pure _)]), by simpa using hq'.tl⟩
  simp [f35, d35] at e ⊢
  rw [e]
  simp [hd]
theorem runit_ev {σ : St} (r : Int) : ev ET 36 [.int .i64 r] σ = some (.ret (.int .i64 (uni r)), σ) := by
  refine ev_same (fd := f36) (o := .ret (.int .i64 (uni r))) rfl (by simp [f36]) rfl ?_ (by simp)
  by_cases h : r > 65535
  · have h' : (65535 : Int) < r := h
    simp [f36, d36, h', uni]
  · have h' : ¬ (65535 : Int) < r := h
    simp [f36, d36, h', uni]
theorem within_ev {σ : St} (n lo hi : Int) : ev ET 33 [.int .i64 n, .int .i64 lo, .int .i64 hi] σ = some (.ret (.int .i64 (if n < lo then lo else if hi < n then hi else n)), σ) := by
  refine ev_same (fd := f33) (o := .ret (.int .i64 (if n < lo then lo else if hi < n then hi else n))) rfl (by simp [f33]) rfl ?_ (by simp)
  by_cases h1 : n < lo
  · simp [f33, d33, h1]
  · by_cases h2 : hi < n
    · simp [f33, d33, h1, h2]
    · simp [f33, d33, h1, h2]
/-- The first letter that is none. -/
def badL : List (Nat × Int × Nat) → Option Nat
  | [] => none
  | (a, r, _) :: ls => if r < 0 then some a else badL ls
theorem badL_lts {s : List UInt8} : ∀ (n i : Nat), s.length ≤ i + n → badL (lts s i) = bad s i := by
  intro n
  induction n with
  | zero => intro i h; rw [lts_end (by omega), bad_end (by omega)]; rfl
  | succ n ih =>
    intro i h
    by_cases hi : i < s.length
    · rw [lts_at hi]
      have hp := sp_pos hi
      cases hl : lt1 s i with
      | none =>
        rw [bad_none hi hl]
        simp [sp, hl, badL]
      | some y =>
        obtain ⟨r, k⟩ := y
        rw [bad_some hi hl]
        simp only [sp, hl] at hp ⊢
        simp only [badL]
        rw [if_neg (by omega)]
        exact ih (i + k) (by omega)
    · rw [lts_end hi, bad_end hi]; rfl
theorem rval_loop {σ : St} {u : V} {all : List (Nat × Int × Nat)} (hu : Rd σ 3 u (all.map ltE)) (hal : all.length < 2 ^ 40) {x : D} {B : D} (hB : B = b26_0) (hx : ∀ e, run ET false [.t 2, .t 3] [.d x] ⟨e, []⟩ σ = some (.ret (badV none), σ)) :
    ∀ (ls : List (Nat × Int × Nat)) (i : Nat) (f : Fr), all.drop i = ls → f.ds = [] → f.env 4 = u → f.env 5 = .int .i64 i → run ET false [.t 2, .t 3] (.d (.loop [4, 5] B) :: .blk 0 :: [.d x]) f σ = some (.ret (badV (badL ls)), σ)
  | [], i, f, hl, hd, h1, h5 => by
    rw [r_loopU hB]
    have hcl : lenV u = some (.int .i64 all.length) := by simpa using hu.len
    have hlen := congrArg List.length hl
    simp at hlen
    have h : ¬ i < all.length := by omega
    simp [b26_0, h1, h5, hcl, h, hd, hx, badL]
  | (a, r, k) :: ls, i, f, hl, hd, h1, h5 => by
    rw [r_loopU hB]
    have hcl : lenV u = some (.int .i64 all.length) := by simpa using hu.len
    have hlen := congrArg List.length hl
    simp at hlen
    have h : i < all.length := by omega
    have hat : all[i]? = some (a, r, k) := by
      have := congrArg (·[0]?) hl
      simpa using this
    have hnext : all.drop (i + 1) = ls := by rw [← List.drop_drop, hl]; rfl
    have hia := Rd.at hu (k := .i64) (i := i) (by simpa using h)
    have hf1 := Rd.fa hu (i := i) (j := 1) (by simpa using h)
    have hf0 := Rd.fa hu (i := i) (j := 0) (by simpa using h)
    have hl1 := Rd.cel hu (i := i) (j := 1) (e := ltE (a, r, k)) (by simp [hat])
    have hl0 := Rd.cel hu (i := i) (j := 0) (e := ltE (a, r, k)) (by simp [hat])
    simp [ltE] at hl1 hl0
    have hw : IntKind.i64.wrap ((i : Int) + 1) = ((i + 1 : Nat) : Int) := by rw [IntWalk.i64_in _ (by omega)]; omega
    obtain ⟨j, hj⟩ : ∃ j, j = i + 1 := ⟨_, rfl⟩
    rw [← hj] at hw hnext
    by_cases h3 : r < 0
    · simp [b26_0, h1, h5, hcl, h, hd, hia, hf1, hf0, hl1, hl0, h3, badL, badV]
    · simp [b26_0, h1, h5, hcl, h, hd, hia, hf1, hf0, hl1, hl0, h3, hw, badL]
      refine rval_loop hu hal hB hx ls j _ hnext ?_ ?_ ?_ <;> simp
theorem rvalid_ev {σ : St} {v : V} {b : List UInt8} (hv : Bs σ v b) (ho : v.old σ) (hb : b.length < 2 ^ 40) : ev ET 26 [v] σ = some (.ret (badV (bad b 0)), σ) := by
  refine ev_same (fd := f26) (o := .ret (badV (bad b 0))) rfl (by simp [f26]) rfl ?_ (by cases bad b 0 <;> simp [badV])
  obtain ⟨u, h1, h2⟩ := rlet_ev hv ho hb
  have hll := lts_len (s := b) b.length 0 (by omega)
  simp [f26, d26, h1]
  rw [rval_loop (h2.rd (σ := σ)) (by omega) rfl (fun e => by simp [badV]) (lts b 0) 0 _ rfl rfl (by simp) (by simp), badL_lts b.length 0 (by omega)]
end Go.Proofs.Ytogibebpoliolaa
