/- Parts of the proof: Dec4, Dec5, HashM, Dec6, RtA, RtB, DecT, RtC, DecP, AmTT, TabL, PmfM, PmfN, Pmf1, Pmf4, Pmf2, Pmf3, Pmf5, Pmf6, Pmf7, SortK, SortM, SortO, Pmf8, PmfG, Pmf9, PmfA, PmfB, PmfK, PmfC, PmfI, PmfJ, PmfO, PmfP, PmfQ, PmfR, PmfS, PmfT, PmfU, TailN, TailA, TailB, TailC, PmfV, PmfW, PmfY, PmfZ, PmfCa, PmfCb, PmfCc, PmfD, PmfE, PmfF, PmfCd, TailD, TailE. -/
import Derived.Test.YtjbcbbfhcbnncaaGreatDoorPe
set_option linter.unusedVariables false
set_option linter.unusedSimpArgs false
set_option maxRecDepth 100000
namespace Go.Proofs.YtjbcbbfhcbnncaaGreatDoor.Am
section
open Go.RowKit
theorem o_ut : ∀ (ws : List Nat) (j v : Nat), j < ws.length → dval (ws.set j v) + 10000 ^ j * ws.getD j 0 = dval ws + 10000 ^ j * v
 | [], j, v, h => by simp at h
 | x :: ws, 0, v, h => by simp [dval]; omega
 | x :: ws, j + 1, v, h => by
  have ih := o_ut ws j v (by simpa using h)
  simp only [List.set_cons_succ, dval, List.getD_cons_succ]
  rw [Nat.pow_succ]
  generalize 10000 ^ j = P at *
  generalize ws.getD j 0 = g at *
  have e1 : P * 10000 * g = 10000 * (P * g) := by rw [Nat.mul_comm P, Nat.mul_assoc]
  have e2 : P * 10000 * v = 10000 * (P * v) := by rw [Nat.mul_comm P, Nat.mul_assoc]
  rw [e1, e2]
  omega
theorem o_uu {l : List Nat} {i j v : Nat} (h : i ≠ j) : (l.set i v).getD j 0 = l.getD j 0 := by
 rw [List.getD_eq_getElem?_getD, List.getElem?_set_ne h, ← List.getD_eq_getElem?_getD]
theorem dsmall.set {l : List Nat} (h : dsmall l) (j v : Nat) (hv : v < 10000) : dsmall (l.set j v) := fun x hx => by
 rcases List.mem_or_eq_of_mem_set hx with h1 | h1
 ·exact h x h1
 ·rw [h1]; exact hv
theorem o_uv {V A c o x D1 D2 Bk bk P K : Nat} (hv : D1 + P * K * c = V + P * (A * Bk)) (hs : D2 + P * K * o = D1 + P * K * (x % 10000)) (hx : x = o + c + A * bk) : D2 + P * (K * 10000) * (x / 10000) = V + P * (A * (Bk + K * bk)) := by
 have h1 : 10000 * (x / 10000) + x % 10000 = o + c + A * bk := by rw [Nat.div_add_mod]; exact hx
 have h2 : P * K * (10000 * (x / 10000) + x % 10000) = P * K * (o + c + A * bk) := by rw [h1]
 have h3 : P * (K * 10000) * (x / 10000) = P * K * (10000 * (x / 10000)) := by
  rw [← Nat.mul_assoc P K 10000, Nat.mul_assoc (P * K)]
 have h4 : P * (A * (Bk + K * bk)) = P * (A * Bk) + P * K * (A * bk) := by
  rw [Nat.mul_add, Nat.mul_add, show A * (K * bk) = K * (A * bk) by rw [← Nat.mul_assoc, Nat.mul_comm A K, Nat.mul_assoc], ← Nat.mul_assoc P K]
 rw [Nat.mul_add] at h2
 rw [Nat.mul_add, Nat.mul_add] at h2
 rw [h3, h4]
 generalize P * K * (10000 * (x / 10000)) = t1 at *
 generalize P * K * (x % 10000) = t2 at *
 generalize P * K * o = t3 at *
 generalize P * K * c = t4 at *
 generalize P * K * (A * bk) = t5 at *
 generalize P * (A * Bk) = t6 at *
 omega

@[simp] theorem lowI (n : Nat) : ∀ l : List Nat, V.lowl n (l.map fun x : Nat => V.d (D.int .i64 x)) = true
 | [] => rfl
 | x :: l => by
  have := lowI n l
  simp only [List.map_cons, V.lowl, this]; rfl
@[simp] theorem lowR (n m : Nat) (x : D) : V.lowl n (List.replicate m (V.d x)) = true := by
 induction m with
 | zero => rfl
 | succ m ih => simp only [List.replicate_succ, V.lowl, ih]; rfl
set_option maxHeartbeats 2000000 in
theorem o_uw (a b : List Nat) (ha : dsmall a) (hb : dsmall b) (hla : a.length ≤ 100000) (hlb : b.length ≤ 100000) : Eqn Tryz.prog o_ba [.d (.sl a.length (dsD a)), .d (.sl b.length (dsD b))] [] (.d (nD (dval a * dval b))) [] := by
 refine Eqn.pure o_bc Plain.ok ?_
 obtain ⟨n, hn⟩ : ∃ n, n = a.length + b.length + 1 := ⟨_, rfl⟩
 have ew1 : IntKind.i64.wrap ((a.length : Int) + b.length) = (a.length : Int) + b.length := w64 (by omega) (by omega)
 have ew2 : IntKind.i64.wrap ((a.length : Int) + b.length + 1) = (n : Int) := by rw [w64 (by omega) (by omega)]; omega
 have hnb : (n : Int) * 8 ≤ 140737488355328 := by omega
 have hnb2 : n ≤ 17592186044416 := by omega
 simp only [o_bb, dsD]
 refine A10 (fs ew1 (fs ew2 (fs hnb hnb2))) ?_; try with_reducible exact tt
 have hrep : List.replicate n (V.d (D.int .i64 0)) = (List.replicate n 0).map fun x : Nat => V.d (D.int .i64 x) := by simp
 rw [hrep]
 refine AW.loopT (α := Nat × List Nat) 1 (fun s => [(6, .d (.int .i64 (s.1 : Nat)))]) (fun s => [(0, ⟨3, s.2.map fun x : Nat => V.d (D.int .i64 x)⟩)]) (fun s => s.1 ≤ a.length ∧ s.2.length = n ∧ dsmall s.2 ∧ dval s.2 = dval (a.take s.1) * dval b ∧ ∀ j, s.1 + b.length ≤ j → s.2.getD j 0 = 0) (fun s => a.length - s.1) (0, List.replicate n 0) ?_ ?_ ⟨Nat.zero_le _, by simp, by intro x hx; simp [List.mem_replicate] at hx; omega, by rw [o_u4]; simp [dval], by intro j _; simp only [List.getD, List.getElem?_replicate]; split <;> rfl⟩ ?_ ?_ ?_
 ·simp
 ·simp
 ·simp
 ·simp
 rintro ⟨i, out⟩ ⟨hi, hol, hos, hov, hoz⟩
 simp only at hi hol hos hov hoz
 simp
 by_cases pa : i < a.length
 ·have hii : (i : Int) < a.length := by omega
  have ewi : IntKind.i64.wrap ((i : Int) + 1) = ((i + 1 : Nat) : Int) := by rw [w64 (by omega) (by omega)]; omega
  have g1 := ha.getD i
  have ga : a[i] = a.getD i 0 := by simp [List.getD, pa]
  have hta := o_u9 a i
  have hal : ∀ j, i + max 0 b.length ≤ j → out.getD j 0 = 0 := fun j hj => hoz j (by omega)
  refine A10 (fs pa hii) ?_; try with_reducible exact tt
  refine AW.loopT (α := Nat × Nat × List Nat) 1 (fun s => [(8, .d (.int .i64 (s.1 : Nat))), (7, .d (.int .i64 (s.2.1 : Nat)))]) (fun s => [(0, ⟨3, s.2.2.map fun x : Nat => V.d (D.int .i64 x)⟩)]) (fun s => s.1 ≤ b.length + 1 ∧ s.2.1 ≤ 9999 ∧ (s.1 = b.length + 1 → s.2.1 = 0) ∧ s.2.2.length = n ∧ dsmall s.2.2 ∧ dval s.2.2 + 10000 ^ i * 10000 ^ s.1 * s.2.1 = dval out + 10000 ^ i * (a.getD i 0 * dval (b.take s.1)) ∧ ∀ j, i + max s.1 b.length ≤ j → s.2.2.getD j 0 = 0) (fun s => b.length + 1 - s.1) (0, 0, out) ?_ ?_ ⟨Nat.zero_le _, by simp, by simp, hol, hos, by simp [dval], hal⟩ ?_ ?_ ?_
  ·simp
  ·simp
  ·simp
  ·simp
  rintro ⟨k, c, o⟩ ⟨hk, hc, hck, hl, hs, hv, hz⟩
  simp only at hk hc hck hl hs hv hz
  simp
  have ewk : IntKind.i64.wrap ((k : Int) + 1) = ((k + 1 : Nat) : Int) := by rw [w64 (by omega) (by omega)]; omega
  have e99 : ∀ x : Nat, ((x : Int).tmod 10000 = ((x % 10000 : Nat) : Int)) ∧ ((x : Int).tdiv 10000 = ((x / 10000 : Nat) : Int)) := fun x => ⟨by rw [Int.tmod_eq_emod_of_nonneg (by omega)]; omega, by rw [Int.tdiv_eq_ediv_of_nonneg (by omega)]; omega⟩
  by_cases pb : k < b.length
  ·have hij : (k : Int) < b.length := by omega
   have g2 := hb.getD k
   have gb : b[k] = b.getD k 0 := by simp [List.getD, pb]
   have htb := o_u9 b k
   obtain ⟨m, hm⟩ : ∃ m, m = i + k := ⟨_, rfl⟩
   have hmo : m < o.length := by omega
   have hmn : m < n := by omega
   have go := hs.getD m
   have gm : o[m] = o.getD m 0 := by simp [List.getD, hmo]
   have em : IntKind.i64.wrap ((i : Int) + k) = (m : Int) := by rw [w64 (by omega) (by omega)]; omega
   have hpm := Nat.mul_le_mul (show a.getD i 0 ≤ 9999 by omega) (show b.getD k 0 ≤ 9999 by omega)
   obtain ⟨p, hp⟩ : ∃ p, p = a.getD i 0 * b.getD k 0 := ⟨_, rfl⟩
   rw [← hp] at hpm
   have ep : IntKind.i64.wrap (((a.getD i 0 : Nat) : Int) * (b.getD k 0 : Nat)) = (p : Int) := by rw [hp, ← Int.natCast_mul]; exact w64 (by omega) (by rw [← hp]; omega)
   obtain ⟨x, hx⟩ : ∃ x, x = o.getD m 0 + c + p := ⟨_, rfl⟩
   have e1 : IntKind.i64.wrap ((o.getD m 0 : Nat) + (c : Int)) = (o.getD m 0 : Nat) + (c : Int) := w64 (by omega) (by omega)
   have e2 : IntKind.i64.wrap ((o.getD m 0 : Nat) + (c : Int) + p) = (x : Int) := by rw [w64 (by omega) (by omega)]; omega
   obtain ⟨e3, e4⟩ := e99 x
   have hds := o_ut o m (x % 10000) hmo
   rw [show 10000 ^ m = 10000 ^ i * 10000 ^ k by rw [hm, Nat.pow_add]] at hds
   have hst := o_uv (A := a.getD i 0) (bk := b.getD k 0) hv hds (by rw [hx, hp])
   have hset : (o.map fun x : Nat => V.d (D.int .i64 x)).set m (.d (.int .i64 (x % 10000 : Nat))) = (o.set m (x % 10000)).map fun x : Nat => V.d (D.int .i64 x) := by rw [List.map_set]
   have hs2 := hs.set m (x % 10000) (Nat.mod_lt _ (by decide))
   have hl2 : (o.set m (x % 10000)).length = n := by simpa using hl
   have hz2 : ∀ j, i + max (k + 1) b.length ≤ j → (o.set m (x % 10000)).getD j 0 = 0 := fun j hj => by rw [o_uu (by omega)]; exact hz j (by omega)
   have hxq : x / 10000 ≤ 9999 := by omega
   have e5 : IntKind.i64.wrap ((x / 10000 : Nat) : Int) = ((x / 10000 : Nat) : Int) := w64 (by omega) (by omega)
   rw [← htb] at hst
   clear hv hz hs hal hov hoz hta e99
   generalize o.set m (x % 10000) = o2 at *
   generalize x % 10000 = r at *
   generalize x / 10000 = q at *
   generalize a.getD i 0 = ai at *
   generalize b.getD k 0 = bk at *
   generalize o.getD m 0 = om at *
   refine A10 (fs pa (fs hii (fs pb (fs hij (fs ga (fs gb (fs hmo (fs hmn (fs hl (fs gm (fs em (fs ep (fs e1 (fs e2 (fs e3 (fs e4 (fs e5 (fs ewk hset)))))))))))))))))) ?_; try with_reducible exact tt
   exact ⟨k + 1, q, o2, ⟨by omega, hxq, by omega, hl2, hs2, hst, hz2⟩, by omega, ⟨Sub1.refl _, Sub1.int (by omega)⟩, Subs.refl _⟩
  ·have hij : ¬ (k : Int) < b.length := by omega
   by_cases hc0 : 0 < c
   ·have hc0' : (0 : Int) < c := by omega
    have hkb : k = b.length := by
     rcases Nat.lt_or_ge b.length k with h | h
     ·have := hck (by omega); omega
     ·omega
    obtain ⟨m, hm⟩ : ∃ m, m = i + k := ⟨_, rfl⟩
    have hmo : m < o.length := by omega
    have hmn : m < n := by omega
    have gz : o.getD m 0 = 0 := hz m (by omega)
    have gm : o[m] = 0 := by rw [← gz]; simp [List.getD, hmo]
    have em : IntKind.i64.wrap ((i : Int) + k) = (m : Int) := by rw [w64 (by omega) (by omega)]; omega
    have e2 : IntKind.i64.wrap (c : Int) = (c : Int) := w64 (by omega) (by omega)
    have e3 : (c : Int).tmod 10000 = (c : Int) := by rw [Int.tmod_eq_emod_of_nonneg (by omega)]; omega
    have e4 : (c : Int).tdiv 10000 = 0 := by rw [Int.tdiv_eq_ediv_of_nonneg (by omega)]; omega
    have hds := o_ut o m c hmo
    rw [gz, Nat.mul_zero, Nat.add_zero, show 10000 ^ m = 10000 ^ i * 10000 ^ k by rw [hm, Nat.pow_add]] at hds
    have hst : dval (o.set m c) + 10000 ^ i * 10000 ^ (k + 1) * 0 = dval out + 10000 ^ i * (a.getD i 0 * dval (b.take (k + 1))) := by
     rw [Nat.mul_zero, Nat.add_zero, hds, hv, List.take_of_length_le (by omega), List.take_of_length_le (by omega)]
    have hset : (o.map fun x : Nat => V.d (D.int .i64 x)).set m (.d (.int .i64 (c : Nat))) = (o.set m c).map fun x : Nat => V.d (D.int .i64 x) := by rw [List.map_set]
    have hs2 := hs.set m c (by omega)
    have hl2 : (o.set m c).length = n := by simpa using hl
    have hz2 : ∀ j, i + max (k + 1) b.length ≤ j → (o.set m c).getD j 0 = 0 := fun j hj => by rw [o_uu (by omega)]; exact hz j (by omega)
    clear hv hz hs hal hov hoz hta e99 hds
    generalize o.set m c = o2 at *
    generalize a.getD i 0 = ai at *
    refine A10 (fs pa (fs hii (fs pb (fs hij (fs hc0 (fs hc0' (fs hmo (fs hmn (fs hl (fs gm (fs em (fs e2 (fs e3 (fs e4 (fs ewk hset))))))))))))))) ?_; try with_reducible exact tt
    exact ⟨k + 1, 0, o2, ⟨by omega, by omega, fun _ => rfl, hl2, hs2, by rw [ga]; exact hst, hz2⟩, by omega, ⟨Sub1.int (by omega), Sub1.int (by omega)⟩, Subs.refl _⟩
   ·have hc0' : ¬ (0 : Int) < c := by omega
    have hcz : c = 0 := by omega
    rw [hcz, Nat.mul_zero, Nat.add_zero, List.take_of_length_le (by omega)] at hv
    have hnv : dval o = dval (a.take (i + 1)) * dval b := by
     rw [hv, hta, hov, Nat.add_mul, Nat.mul_assoc]
    have hnz : ∀ j, i + 1 + b.length ≤ j → o.getD j 0 = 0 := fun j hj => hz j (by omega)
    clear hv hz hal hov hoz hta e99
    refine A10 (fs pa (fs hii (fs pb (fs hij (fs hc0 (fs hc0' ewi)))))) ?_; try with_reducible exact tt
    exact ⟨i + 1, o, ⟨by omega, hl, hs, hnv, hnz⟩, by omega, Sub1.int (by omega), Subs.refl _⟩
 ·have hii : ¬ (i : Int) < a.length := by omega
  have hi2 : i = a.length := by omega
  rw [hi2, List.take_length] at hov
  have ht := o_us out hos (by omega)
  rw [hov, hol] at ht
  have htk : (dsD out).take n = dsD out := List.take_of_length_le (by rw [o_uq]; omega)
  have hob : (out.map fun x : Nat => V.d (D.int .i64 x)) = (dsD out).map V.d := by simp [dsD]
  rw [hob]
  refine AW.freeze 0 1 ⟨3, (dsD out).map .d⟩ (dsD out) (by simp) rfl ?_
  simp [frzH, htk]
  refine A11 (fs pa hii) ht ?_; try with_reducible exact tt
end
section
open Go.RowKit
end
section
open Go.RowKit
def hP : Nat := 2305843009213693951
def hsum (a b key : Nat) : Nat := (a * key % hP + b) % hP
end
section
open Go.RowKit
end
section
open Go.RowKit
def txtZ (z : Int) : ByteArray := if z < 0 then ⟨#[45]⟩ ++ txt z.natAbs else txt z.natAbs
def txtQ (q : Rat) : ByteArray := if q.den = 1 then txtZ q.num else txtZ q.num ++ ⟨#[47]⟩ ++ txt q.den
theorem o_ux (n : Nat) : (txt n).size = ndig n := by
 unfold txt bst
 show ((decN n).map UInt8.ofNat).toArray.size = ndig n
 simp [o_sv]
theorem o_uy {n E : Nat} (h : n < 2 ^ E) (h0 : 0 < E) : (txt n).size ≤ E := by
 rw [o_ux]
 exact o_so n E (Nat.lt_of_lt_of_le h (Nat.pow_le_pow_left (by decide) E)) h0
theorem o_uz (n : Nat) : n < 2 ^ (64 * size n) := by
 have h := o_iy (o_ju n)
 rw [o_jt] at h
 rw [Nat.pow_mul]
 exact h
theorem o_v0 {n : Nat} (h : size n ≤ 1000) : (txt n).size ≤ 64000 := by
 obtain ⟨k, hk⟩ : ∃ k, k = 64000 := ⟨_, rfl⟩
 rw [← hk]
 exact o_uy (Nat.lt_of_lt_of_le (o_uz n) (Nat.pow_le_pow_right (by decide) (by omega))) (by omega)
theorem o_v1 {z : Int} (h : size z.natAbs ≤ 1000) : (txtZ z).size ≤ 64001 := by
 have := o_v0 h
 unfold txtZ
 split
 ·rw [ByteArray.size_append]
  show 1 + _ ≤ _
  omega
 ·omega
theorem o_v2 (z : Int) (h : size z.natAbs ≤ 1000) : Eqn Tryz.prog o_a1 [.d (wD z)] [] (.d (.str (txtZ z))) [] := by
 refine Eqn.pure o_a3 (o_58 _) ?_
 have h1 := o_u2 z.natAbs h
 have hs := o_v0 h
 have e : txtZ z = if z < 0 then ⟨#[45]⟩ ++ txt z.natAbs else txt z.natAbs := rfl
 simp only [o_a2, wD]
 by_cases hz : z < 0
 ·rw [if_pos hz] at e
  rw [e]
  have hd : decide (z < 0) = true := by simp [hz]
  have hl : (⟨#[45]⟩ : ByteArray).size = 1 := rfl
  rw [hd]
  generalize txt z.natAbs = S at *
  generalize natW z.natAbs = N at *
  refine A11 hl h1 ?_; try with_reducible exact tt
 ·rw [if_neg hz] at e
  rw [e]
  have hd : decide (z < 0) = false := by simp; omega
  rw [hd]
  generalize txt z.natAbs = S at *
  generalize natW z.natAbs = N at *
  refine A01 h1 ?_; try with_reducible exact tt
theorem o_v3 (q : Rat) (h : RS q 1000) : Eqn Tryz.prog o_7d [.d (rD q)] [] (.d (.str (txtQ q))) [] := by
 refine Eqn.pure o_7f (o_58 _) ?_
 have hwh : Eqn Tryz.prog o_9y [.d (rD q)] [] (.d (.bool (q.den - 1 == 0))) [] := by
  refine Eqn.pure o_a0 Plain.ok ?_
  have hz := o_k4 (q.den - 1)
  simp only [o_9z, rD]
  generalize (q.den - 1 == 0) = b at *
  generalize natW (q.den - 1) = N at *
  refine A01 hz ?_; try with_reducible exact tt
 have hpos := q.den_pos
 have h1 := o_v2 q.num h.1
 have h2 := o_og q (by have := h.2; omega)
 have h3 := o_u2 q.den h.2
 have s1 := o_v1 h.1
 have s2 := o_v0 h.2
 have e : txtQ q = if q.den = 1 then txtZ q.num else txtZ q.num ++ ⟨#[47]⟩ ++ txt q.den := rfl
 simp only [o_7e, rD, wD] at *
 by_cases hd : q.den = 1
 ·rw [if_pos hd] at e
  rw [e]
  rw [show (q.den - 1 == 0) = true by simp; omega] at hwh
  generalize txtZ q.num = S at *
  generalize natW (q.den - 1) = N2 at *
  generalize natW q.num.natAbs = N at *
  generalize decide (q.num < 0) = b at *
  refine A02 hwh h1 ?_; try with_reducible exact tt
 ·rw [if_neg hd] at e
  rw [e]
  rw [show (q.den - 1 == 0) = false by simp; omega] at hwh
  generalize txtZ q.num = S at *
  generalize txt q.den = S2 at *
  generalize natW q.den = N3 at *
  generalize natW (q.den - 1) = N2 at *
  generalize natW q.num.natAbs = N at *
  generalize decide (q.num < 0) = b at *
  have hl : (⟨#[47]⟩ : ByteArray).size = 1 := rfl
  refine A14 hl hwh h1 h2 h3 ?_; try with_reducible exact tt
end
section
open Go.RowKit
def zW (p m : Nat) : D := .agg [nD p, nD m]
end
section
open Go.RowKit
@[simp] theorem o_v4 : intsV [] = some [] := rfl
@[simp] theorem o_v5 (n : Int) : intsV [.d (.int .u8 n)] = some [n] := rfl
theorem o_v6 (n : Nat) : ∀ i, i ≤ sizeD n → dval ((decs n).take i) = n % 10000 ^ i := by
 intro i hi
 have h1 := o_u3 ((decs n).take i) ((decs n).drop i)
 rw [List.take_append_drop, o_uc, List.length_take, Nat.min_eq_left (show i ≤ (decs n).length from hi)] at h1
 have h2 := o_ua (o_ud n) i
 generalize dval ((decs n).take i) = T at *
 generalize dval ((decs n).drop i) = R at *
 rw [h1, Nat.add_mul_mod_self_left, Nat.mod_eq_of_lt h2]
def dN (n i : Nat) : List Nat := if i < sizeD n then padN (4 * i) n else decN n
def qD (w k : Nat) : Nat := w / 10 ^ k
end
section
open Go.RowKit
def qD3 (p m d : Nat) : D := .agg [nD p, nD m, nD d]
def qval (p m d : Nat) : Rat := mkRat ((p : Int) - m) d
end
section
open Go.RowKit
end
section
open Go.RowKit
theorem o_v7 {W : World} {g0 : Nat} {zs : List Int} (ht : ∀ g l, tab g = some l → g = g0 ∧ l = zs.map fun z : Int => D.int .u64 z) (hlt : g0 < W.heap.size) (hc : ∀ (i : Nat) u, (zs.map (Value.int .u64))[i]? = some u → W.cell? ⟨g0, i, none⟩ = some u) : Tabs (memW W) := by
 intro g l hg
 obtain ⟨rfl, rfl⟩ := ht g l hg
 unfold D.rep
 refine ⟨g, 0, rfl, hlt, zs.map (Value.int .u64), fun u hu => ?_, reps_of (fun z : Int => D.int .u64 z) (Value.int .u64) (fun _ => by unfold D.rep; rfl) zs, fun i u hu => ?_⟩
 ·obtain ⟨z, -, rfl⟩ := List.mem_map.1 hu
  rfl
 ·rw [Nat.zero_add]; exact hc i u hu
end
section
open Go.RowKit

theorem tabsIn {W : World} {g0 : Nat} {zs : List Int} (ht : ∀ g l, tab g = some l → g = g0 ∧ l = zs.map fun z : Int => D.int .u64 z) (hlt : g0 < W.heap.size) (hc : ∀ (i : Nat) u, (zs.map (Value.int .u64))[i]? = some u → W.cell? ⟨g0, i, none⟩ = some u) : Tabs (memW W) := o_v7 ht hlt hc
theorem tabAll : ∀ g l, tab g = some l → g = 2 ∧ l = ([1, 10, 100, 1000, 10000, 100000, 1000000, 10000000, 100000000, 1000000000, 10000000000, 100000000000, 1000000000000, 10000000000000, 100000000000000, 1000000000000000, 10000000000000000, 100000000000000000, 1000000000000000000, 10000000000000000000] : List Int).map fun z : Int => D.int .u64 z := by
 intro g l h
 unfold tab at h
 split at h
 ·cases h
  exact ⟨‹_›, rfl⟩
 ·cases h
end
section
open Go.RowKit
@[simp] theorem o_v8 (l : List D) : V.toDs (l.map .d) = some l := by induction l <;> simp_all [V.toDs]
abbrev St := Nat × Nat × Bool
def stD (s : St) : List D := [.int .i64 s.1, .int .i64 s.2.1, .bool s.2.2]
@[simp] theorem o_v9 (s : St) : (stD s).length = 3 := rfl
theorem o_va (s t : St) : eqKs [0, 0, 1] (stD s) (stD t) = some (decide (s = t)) := by
 obtain ⟨a, b, c⟩ := s
 obtain ⟨a', b', c'⟩ := t
 unfold stD eqKs
 simp only [eqK, if_true, eqKs]
 simp only [Option.some.injEq, Bool.and_true]
 rw [Bool.eq_iff_iff]
 simp only [Bool.and_eq_true, beq_iff_eq, decide_eq_true_eq, Prod.mk.injEq]
 constructor
 ·rintro ⟨h1, h2, h3⟩; exact ⟨by omega, by omega, h3⟩
 ·rintro ⟨h1, h2, h3⟩; exact ⟨by omega, by omega, h3⟩

abbrev Sp := List (St × Rat)
section
variable (rc : Rat → List D) (hrc : ∀ q, (rc q).length = 3)
def spD (l : Sp) : List D := l.flatMap fun p => stD p.1 ++ rc p.2
theorem o_vb (rc : Rat → List D) (hrc : ∀ q, (rc q).length = 3) (l : Sp) : (spD rc l).length = l.length * 6 := by
 induction l with
 | nil => rfl
 | cons p l ih => rw [spD, List.flatMap_cons, List.length_append, ← spD, ih]; simp [hrc]; omega
def idxQ (s : St) : Sp → Option Nat
 | [] => none
 | p :: l => if s = p.1 then some 0 else (idxQ s l).map (· + 1)
theorem o_vc (rc : Rat → List D) (hrc : ∀ q, (rc q).length = 3) (s : St) : ∀ l : Sp, mfind [0, 0, 1] 3 (stD s) l.length (spD rc l) = some (idxQ s l)
 | [] => rfl
 | p :: l => by
  have e1 : (spD rc (p :: l)).take 3 = stD p.1 := by
   rw [spD, List.flatMap_cons, List.append_assoc, List.take_append_of_le_length (by simp), List.take_of_length_le (by simp)]
  have e2 : (spD rc (p :: l)).drop 6 = spD rc l := by
   rw [spD, List.flatMap_cons, List.drop_append, List.drop_eq_nil_of_le (by simp [hrc]), List.nil_append]
   simp [hrc, spD]
  simp only [List.length_cons, mfind, List.length_nil]
  rw [e1, o_va, e2]
  by_cases h : s = p.1
  ·simp [h, idxQ]
  ·simp only [h, decide_false]
   rw [o_vc rc hrc s l]
   simp [idxQ, h]
def getQ (l : Sp) (s : St) : Rat := match l with
 | [] => 0
 | p :: r => if s = p.1 then p.2 else getQ r s
def setQ (l : Sp) (s : St) (q : Rat) : Sp := match l with
 | [] => [(s, q)]
 | p :: r => if s = p.1 then (s, q) :: r else p :: setQ r s q
theorem o_vd (s t : St) (q : Rat) : ∀ l : Sp, getQ (setQ l s q) t = if t = s then q else getQ l t
 | [] => by simp [setQ, getQ]
 | p :: r => by
  unfold setQ
  split
  ·rename_i e
   unfold getQ
   by_cases h : t = s
   ·simp [h]
   ·simp [h, show ¬ t = p.1 from fun h' => h (h'.trans e.symm)]
  ·rename_i e
   unfold getQ
   rw [o_vd s t q r]
   by_cases h : t = s
   ·subst h; simp [e]
   ·simp [h]
theorem o_ve (s : St) (q : Rat) : ∀ l : Sp, (setQ l s q).map (·.1) = if s ∈ l.map (·.1) then l.map (·.1) else l.map (·.1) ++ [s]
 | [] => by simp [setQ]
 | p :: r => by
  unfold setQ
  split
  ·rename_i e; simp [e]
  ·rename_i e
   simp only [List.map_cons, o_ve s q r, List.mem_cons]
   by_cases h : s ∈ r.map (·.1)
   ·simp [h]
   ·simp [h, e]
theorem o_vf {s : St} {q : Rat} {l : Sp} (h : (l.map (·.1)).Nodup) : ((setQ l s q).map (·.1)).Nodup := by
 rw [o_ve]
 split
 ·exact h
 ·rename_i hs
  rw [List.nodup_append]
  refine ⟨h, by simp, fun a ha b hb => ?_⟩
  simp at hb; subst hb
  exact fun e => hs (e ▸ ha)
def lookD (z : List D) (s : St) : Sp → D
 | [] => .agg z
 | p :: r => if s = p.1 then .agg (rc p.2) else lookD z s r
theorem o_vg (rc : Rat → List D) (hrc : ∀ q, (rc q).length = 3) (s : St) (l : Sp) (z : List D) : mlook [0, 0, 1] 3 true z (stD s) (spD rc l) = some (lookD rc z s l) := by
 unfold mlook
 have hn : (spD rc l).length / ([0, 0, 1].length + 3) = l.length := by rw [o_vb rc hrc]; simp
 rw [hn, o_vc rc hrc]
 simp only [Option.map_some, Option.some.injEq]
 have key : ∀ l : Sp, (match idxQ s l with
   | some i => glD true (((spD rc l).drop (i * ([0, 0, 1].length + 3) + [0, 0, 1].length)).take 3)
   | none => glD true z) = lookD rc z s l := by
  intro l
  induction l with
  | nil => simp [idxQ, glD, lookD]
  | cons p l ih =>
   by_cases h : s = p.1
   ·have e1 : ((spD rc (p :: l)).drop 3).take 3 = rc p.2 := by
     rw [spD, List.flatMap_cons, List.append_assoc, List.drop_append, List.drop_eq_nil_of_le (by simp), List.nil_append]
     simp [hrc]
    simp [idxQ, h, lookD, glD, e1]
   ·have e2 : (spD rc (p :: l)).drop 6 = spD rc l := by
     rw [spD, List.flatMap_cons, List.drop_append, List.drop_eq_nil_of_le (by simp [hrc]), List.nil_append]
     simp [hrc, spD]
    rw [lookD, if_neg h, ← ih]
    simp only [idxQ, if_neg h]
    cases hi : idxQ s l with
    | none => rfl
    | some i =>
     simp only [Option.map_some]
     have : (i + 1) * ([0, 0, 1].length + 3) + [0, 0, 1].length = 6 + (i * ([0, 0, 1].length + 3) + [0, 0, 1].length) := by simp; omega
     rw [this, ← List.drop_drop, e2]
 exact key l
theorem o_vh (rc : Rat → List D) (hrc : ∀ q, (rc q).length = 3) (s : St) (l : Sp) (q : Rat) : mset [0, 0, 1] 3 (stD s) (rc q) (spD rc l) = some (spD rc (setQ l s q)) := by
 unfold mset
 have hn : (spD rc l).length / ([0, 0, 1].length + 3) = l.length := by rw [o_vb rc hrc]; simp
 rw [hn, o_vc rc hrc]
 simp only [Option.map_some, Option.some.injEq]
 have key : ∀ l : Sp, (match idxQ s l with
   | some i => (spD rc l).take (i * ([0, 0, 1].length + 3)) ++ (stD s ++ rc q) ++ (spD rc l).drop ((i + 1) * ([0, 0, 1].length + 3))
   | none => spD rc l ++ (stD s ++ rc q)) = spD rc (setQ l s q) := by
  intro l
  induction l with
  | nil => simp [idxQ, setQ, spD]
  | cons p l ih =>
   have e2 : (spD rc (p :: l)).drop 6 = spD rc l := by
    rw [spD, List.flatMap_cons, List.drop_append, List.drop_eq_nil_of_le (by simp [hrc]), List.nil_append]
    simp [hrc, spD]
   have e3 : spD rc (p :: l) = (stD p.1 ++ rc p.2) ++ spD rc l := by rw [spD, List.flatMap_cons]; rfl
   by_cases h : s = p.1
   ·simp only [idxQ, if_pos h, setQ]
    simp only [Nat.zero_mul, List.take_zero, Nat.zero_add, Nat.one_mul, List.nil_append]
    rw [show [0, 0, 1].length + 3 = 6 from rfl, e2]
    rw [show spD rc ((s, q) :: l) = (stD s ++ rc q) ++ spD rc l by rw [spD, List.flatMap_cons]; rfl]
   ·simp only [idxQ, if_neg h, setQ]
    rw [show spD rc (p :: setQ l s q) = (stD p.1 ++ rc p.2) ++ spD rc (setQ l s q) by rw [spD, List.flatMap_cons]; rfl, ← ih]
    have hl6 : (stD p.1 ++ rc p.2).length = 6 := by simp [hrc]
    cases hi : idxQ s l with
    | none => simp only [Option.map_none]; rw [e3]; simp
    | some i =>
     simp only [Option.map_some]
     rw [show [0, 0, 1].length + 3 = 6 from rfl]
     have t1 : (spD rc (p :: l)).take ((i + 1) * 6) = (stD p.1 ++ rc p.2) ++ (spD rc l).take (i * 6) := by
      rw [e3, List.take_append, List.take_of_length_le (by omega), hl6, show (i + 1) * 6 - 6 = i * 6 by omega]
     have t2 : (spD rc (p :: l)).drop ((i + 1 + 1) * 6) = (spD rc l).drop ((i + 1) * 6) := by
      rw [show (i + 1 + 1) * 6 = 6 + (i + 1) * 6 by omega, ← List.drop_drop, e2]
     rw [t1, t2]
     simp
 exact key l
end
end
section
open Go.RowKit
def addQ (l : Sp) (s : St) (x : Rat) : Sp := setQ l s (getQ l s + x)
def exQ (g : St → Rat) : Sp → Rat
 | [] => 0
 | p :: l => p.2 * g p.1 + exQ g l
def Uq (l : Sp) : Prop := (l.map (·.1)).Nodup
theorem o_vi (g : St → Rat) (s : St) (q : Rat) : ∀ l : Sp, Uq l → exQ g (setQ l s q) = exQ g l - getQ l s * g s + q * g s
 | [], _ => by simp only [setQ, exQ, getQ]; grind
 | p :: r, h => by
  have h' : Uq r := by unfold Uq at h ⊢; simp at h; exact h.2
  unfold setQ getQ
  split
  ·rename_i e
   simp only [exQ]
   rw [e]; grind
  ·simp only [exQ]
   rw [o_vi g s q r h']; grind
theorem o_vj {s : St} {q : Rat} {l : Sp} (h : Uq l) : Uq (addQ l s q) := o_vf h
theorem o_vk (g : St → Rat) (s : St) (q : Rat) (l : Sp) (h : Uq l) : exQ g (addQ l s q) = exQ g l + q * g s := by
 unfold addQ; rw [o_vi g s _ l h]; grind
theorem o_vl (g : St → Rat) {l k : Sp} (h : l.Perm k) : exQ g l = exQ g k := by
 induction h with
 | nil => rfl
 | cons x _ ih => simp only [exQ, ih]
 | swap x y l => simp only [exQ]; grind
 | trans _ _ h1 h2 => rw [h1, h2]
theorem o_vm (g : St → Rat) (l : Sp) : exQ g (l.filter fun p => decide (p.2 ≠ 0)) = exQ g l := by
 induction l with
 | nil => rfl
 | cons p l ih =>
  rw [List.filter_cons]
  split
  ·simp only [exQ, ih]
  ·rename_i h
   have : p.2 = 0 := by simpa using h
   simp only [exQ, ih, this]; grind
def ltS (s t : St) : Bool := decide (s.1 < t.1) || (decide (s.1 = t.1) && (decide (s.2.1 < t.2.1) || (decide (s.2.1 = t.2.1) && (!s.2.2 && t.2.2))))
theorem o_vn (s : St) : ltS s s = false := by unfold ltS; simp
theorem o_vo {s t u : St} (h1 : ltS s t = true) (h2 : ltS t u = true) : ltS s u = true := by
 obtain ⟨a, b, c⟩ := s; obtain ⟨a', b', c'⟩ := t; obtain ⟨a2, b2, c2⟩ := u
 unfold ltS at *
 simp only [Bool.or_eq_true, Bool.and_eq_true, decide_eq_true_eq, Bool.not_eq_true'] at *
 rcases h1 with h1 | ⟨h1, h1' | ⟨h1', h3, h4⟩⟩ <;> rcases h2 with h2 | ⟨h2, h2' | ⟨h2', h5, h6⟩⟩ <;> first | (left; omega) | (right; refine ⟨by omega, ?_⟩; first | (left; omega) | (right; exact ⟨by omega, by assumption, by assumption⟩))
theorem o_vp (s t : St) : ltS s t = true ∨ s = t ∨ ltS t s = true := by
 obtain ⟨a, b, c⟩ := s; obtain ⟨a', b', c'⟩ := t
 unfold ltS
 simp only [Bool.or_eq_true, Bool.and_eq_true, decide_eq_true_eq, Bool.not_eq_true', Prod.mk.injEq]
 rcases Nat.lt_trichotomy a a' with h | h | h
 ·left; left; exact h
 ·rcases Nat.lt_trichotomy b b' with h2 | h2 | h2
  ·left; right; exact ⟨h, .inl h2⟩
  ·cases c <;> cases c' <;> simp [h, h2]
  ·right; right; right; exact ⟨h.symm, .inl h2⟩
 ·right; right; left; exact h
def leP (p q : St × Rat) : Bool := !(ltS q.1 p.1)
theorem o_vq (a b c : St × Rat) (h1 : leP a b = true) (h2 : leP b c = true) : leP a c = true := by
 unfold leP at *
 simp only [Bool.not_eq_true'] at *
 cases h : ltS c.1 a.1 with
 | false => rfl
 | true =>
  rcases o_vp b.1 c.1 with h3 | h3 | h3
  ·rw [o_vo h3 h] at h1; cases h1
  ·rw [h3, h] at h1; cases h1
  ·rw [h3] at h2; cases h2
theorem o_vr (a b : St × Rat) : leP a b || leP b a := by
 unfold leP
 rcases o_vp a.1 b.1 with h | h | h
 ·have : ltS b.1 a.1 = false := by
   cases h2 : ltS b.1 a.1 with
   | false => rfl
   | true => have := o_vo h h2; rw [o_vn] at this; cases this
  simp [this]
 ·simp [h, o_vn]
 ·have : ltS a.1 b.1 = false := by
   cases h2 : ltS a.1 b.1 with
   | false => rfl
   | true => have := o_vo h h2; rw [o_vn] at this; cases this
  simp [this]
def nzQ (l : Sp) : Sp := l.filter fun p => decide (p.2 ≠ 0)
def atQ (l : Sp) : Sp := (nzQ l).mergeSort leP
theorem o_vs (l : Sp) : (atQ l).Perm (nzQ l) := List.mergeSort_perm _ _
theorem o_vt (g : St → Rat) (l : Sp) : exQ g (atQ l) = exQ g l := by rw [o_vl g (o_vs l)]; exact o_vm g l
theorem o_vu {l : Sp} (h : Uq l) : Uq (nzQ l) := by
 unfold Uq nzQ at *
 exact List.Sublist.nodup ((List.filter_sublist (l := l)).map _) h
theorem o_vv {l : Sp} (h : Uq l) : Uq (atQ l) := by
 unfold Uq
 exact ((o_vs l).map _).nodup_iff.2 (o_vu h)
theorem o_vw {a b : St × Rat} : ∀ {l : Sp}, Uq l → a ∈ l → b ∈ l → a.1 = b.1 → a = b
 | [], _, h, _, _ => by cases h
 | p :: l, hu, ha, hb, e => by
  unfold Uq at hu
  rw [List.map_cons, List.nodup_cons] at hu
  rcases List.mem_cons.1 ha with h1 | h1 <;> rcases List.mem_cons.1 hb with h2 | h2
  ·rw [h1, h2]
  ·exact absurd (show p.1 ∈ l.map (·.1) from List.mem_map.2 ⟨b, h2, by rw [← e, h1]⟩) hu.1
  ·exact absurd (show p.1 ∈ l.map (·.1) from List.mem_map.2 ⟨a, h1, by rw [e, h2]⟩) hu.1
  ·exact o_vw hu.2 h1 h2 e
theorem o_vx {l k : Sp} (hu : Uq l) (hp : k.Perm (nzQ l)) (hs : k.Pairwise fun a b => ltS a.1 b.1 = true) : k = atQ l := by
 have h2 : (atQ l).Pairwise fun a b => leP a b = true := List.pairwise_mergeSort o_vq o_vr _
 refine List.Perm.eq_of_pairwise (le := fun a b => leP a b = true) ?_ (hs.imp ?_) h2 (hp.trans (o_vs l).symm)
 ·intro a b ha hb h3 h4
  have ha' : a ∈ nzQ l := hp.mem_iff.1 ha
  have hb' : b ∈ nzQ l := (o_vs l).mem_iff.1 hb
  have : a.1 = b.1 := by
   unfold leP at h3 h4
   rcases o_vp a.1 b.1 with h | h | h
   ·rw [h] at h4; simp at h4
   ·exact h
   ·rw [h] at h3; simp at h3
  exact o_vw (o_vu hu) ha' hb' this
 ·intro a b h
  unfold leP
  cases h2 : ltS b.1 a.1 with
  | false => rfl
  | true => have := o_vo h h2; rw [o_vn] at this; cases this
theorem o_vy (s : St) : ∀ l : Sp, Uq l → getQ l s = exQ (fun t => if t = s then 1 else 0) l
 | [], _ => rfl
 | p :: r, h => by
  have h' : Uq r := by unfold Uq at h ⊢; simp at h; exact h.2
  unfold getQ exQ
  split
  ·rename_i e
   have hz : exQ (fun t => if t = s then (1 : Rat) else 0) r = 0 := by
    rw [← o_vy s r h']
    have hn : s ∉ r.map (·.1) := by unfold Uq at h; rw [List.map_cons, List.nodup_cons] at h; rw [e]; exact h.1
    clear h h'
    induction r with
    | nil => rfl
    | cons q r ih =>
     simp only [List.map_cons, List.mem_cons, not_or] at hn
     unfold getQ
     rw [if_neg hn.1]
     exact ih hn.2
   rw [hz, if_pos e.symm]; grind
  ·rename_i e
   rw [o_vy s r h', if_neg fun e' => e e'.symm]; grind
def innQ (q : Rat) (out l : Sp) : Sp := l.foldl (fun o b => addQ o b.1 (q * b.2)) out
def timesQ (next : St → Sp) (l : Sp) : Sp := (atQ l).foldl (fun out a => innQ a.2 out (atQ (next a.1))) []
def eitQ (x : Rat) (s o : St) : Sp := addQ (addQ [] s x) o (1 - x)
def stepQ (top : Nat) (c : Nat → Rat) (s : St) : Sp := if s.1 = top then [((s.1, s.2.1, true), 1)] else eitQ (c s.1) (s.1 + 1, s.2) s
def ofQ (next : St → Sp) (s : St) : Nat → Sp
 | 0 => [(s, 1)]
 | n + 1 => timesQ next (ofQ next s n)
theorem o_vz (g : St → Rat) (q : Rat) : ∀ (l out : Sp), Uq out → Uq (innQ q out l) ∧ exQ g (innQ q out l) = exQ g out + q * exQ g l
 | [], out, h => ⟨h, by simp only [innQ, List.foldl_nil, exQ]; grind⟩
 | b :: l, out, h => by
  obtain ⟨h1, h2⟩ := o_vz g q l (addQ out b.1 (q * b.2)) (o_vj h)
  refine ⟨h1, ?_⟩
  show exQ g (innQ q (addQ out b.1 (q * b.2)) l) = _
  rw [h2, o_vk g _ _ _ h]
  simp only [exQ]; grind
theorem o_w0 (g : St → Rat) (next : St → Sp) : ∀ (l out : Sp), Uq out → Uq (l.foldl (fun out a => innQ a.2 out (atQ (next a.1))) out) ∧ exQ g (l.foldl (fun out a => innQ a.2 out (atQ (next a.1))) out) = exQ g out + exQ (fun s => exQ g (next s)) l
 | [], out, h => ⟨h, by simp only [List.foldl_nil, exQ]; grind⟩
 | a :: l, out, h => by
  obtain ⟨h0, h3⟩ := o_vz g a.2 (atQ (next a.1)) out h
  obtain ⟨h1, h2⟩ := o_w0 g next l (innQ a.2 out (atQ (next a.1))) h0
  refine ⟨h1, ?_⟩
  show exQ g (l.foldl (fun out a => innQ a.2 out (atQ (next a.1))) (innQ a.2 out (atQ (next a.1)))) = _
  rw [h2, h3, o_vt]
  simp only [exQ]; grind
theorem o_w1 (next : St → Sp) (l : Sp) : Uq (timesQ next l) := (o_w0 (fun _ => 0) next (atQ l) [] (by simp [Uq])).1
theorem o_w2 (g : St → Rat) (next : St → Sp) (l : Sp) : exQ g (timesQ next l) = exQ (fun s => exQ g (next s)) l := by
 have h := (o_w0 g next (atQ l) [] (by simp [Uq])).2
 rw [o_vt] at h
 have e : exQ g [] = 0 := rfl
 rw [e] at h
 unfold timesQ
 rw [h]; grind
theorem o_w3 (next : St → Sp) (s : St) : ∀ n, Uq (ofQ next s n)
 | 0 => by simp [ofQ, Uq]
 | n + 1 => o_w1 _ _
theorem o_w4 (g : St → Rat) (x : Rat) (s o : St) : Uq (eitQ x s o) ∧ exQ g (eitQ x s o) = x * g s + (1 - x) * g o := by
 have h0 : Uq ([] : Sp) := by simp [Uq]
 refine ⟨o_vj (o_vj h0), ?_⟩
 unfold eitQ
 rw [o_vk g _ _ _ (o_vj h0), o_vk g _ _ _ h0]
 simp only [exQ]; grind
theorem o_w5 (g : St → Rat) (top : Nat) (c : Nat → Rat) (s : St) : Uq (stepQ top c s) ∧ exQ g (stepQ top c s) = if s.1 = top then g (s.1, s.2.1, true) else c s.1 * g (s.1 + 1, s.2) + (1 - c s.1) * g s := by
 unfold stepQ
 split
 ·refine ⟨by simp [Uq], ?_⟩
  simp only [exQ]; grind
 ·exact o_w4 g _ _ _
def okQ (top : Nat) (s : St) : Prop := s.1 ≤ top ∧ s.2.1 = 0 ∧ (s.2.2 = true → s.1 = top)
def oklQ (top : Nat) (l : Sp) : Prop := ∀ p ∈ l, okQ top p.1 ∧ 0 ≤ p.2
theorem o_w6 {top : Nat} {g h : St → Rat} (hgh : ∀ s, okQ top s → g s ≤ h s) : ∀ {l : Sp}, oklQ top l → exQ g l ≤ exQ h l
 | [], _ => Rat.le_refl
 | p :: l, hl => by
  have h1 := o_w6 hgh (l := l) fun q hq => hl q (by simp [hq])
  obtain ⟨h2, h3⟩ := hl p (by simp)
  have h4 := hgh p.1 h2
  simp only [exQ]
  have h5 : p.2 * g p.1 ≤ p.2 * h p.1 := Rat.mul_le_mul_of_nonneg_left h4 h3
  grind
theorem o_w7 {l : Sp} {s : St} {q : Rat} {p : St × Rat} (h : p ∈ setQ l s q) : p ∈ l ∨ p = (s, q) := by
 induction l with
 | nil => simp [setQ] at h; exact .inr h
 | cons r l ih =>
  unfold setQ at h
  split at h
  ·rcases List.mem_cons.1 h with h | h
   ·exact .inr h
   ·exact .inl (by simp [h])
  ·rcases List.mem_cons.1 h with h | h
   ·exact .inl (by simp [h])
   ·exact (ih h).imp (fun h => by simp [h]) id
theorem o_w8 {top : Nat} {l : Sp} (h : oklQ top l) (s : St) : 0 ≤ getQ l s := by
 induction l with
 | nil => exact Rat.le_refl
 | cons p l ih =>
  unfold getQ
  split
  ·exact (h p (by simp)).2
  ·exact ih fun q hq => h q (by simp [hq])
theorem o_w9 {top : Nat} {l : Sp} (h : oklQ top l) {s : St} {q : Rat} (hs : okQ top s) (hq : 0 ≤ q) : oklQ top (addQ l s q) := by
 intro p hp
 rcases o_w7 hp with hp | rfl
 ·exact h p hp
 ·refine ⟨hs, ?_⟩
  have := o_w8 h s
  show 0 ≤ getQ l s + q
  grind
theorem o_wa {top : Nat} {l : Sp} (h : oklQ top l) : oklQ top (atQ l) := fun p hp => h p (List.mem_filter.1 ((o_vs l).mem_iff.1 hp)).1
theorem o_wb {top : Nat} {q : Rat} (hq : 0 ≤ q) : ∀ {l out : Sp}, oklQ top out → oklQ top l → oklQ top (innQ q out l)
 | [], out, h, _ => h
 | b :: l, out, h, hl => by
  obtain ⟨h1, h2⟩ := hl b (by simp)
  exact o_wb (out := addQ out b.1 (q * b.2)) (l := l) hq (o_w9 h h1 (Rat.mul_nonneg hq h2)) fun p hp => hl p (by simp [hp])
theorem o_wc {top : Nat} {next : St → Sp} (hn : ∀ s, okQ top s → oklQ top (next s)) {l : Sp} (h : oklQ top l) : oklQ top (timesQ next l) := by
 have key : ∀ (k out : Sp), oklQ top out → oklQ top k → oklQ top (k.foldl (fun out a => innQ a.2 out (atQ (next a.1))) out) := by
  intro k
  induction k with
  | nil => intro out h _; exact h
  | cons a k ih =>
   intro out ho hk
   obtain ⟨h1, h2⟩ := hk a (by simp)
   exact ih _ (o_wb h2 ho (o_wa (hn _ h1))) fun p hp => hk p (by simp [hp])
 exact key _ _ (fun p hp => by cases hp) (o_wa h)
theorem o_wd {top : Nat} {c : Nat → Rat} (h0 : ∀ k, k < top → 0 ≤ c k) (h1 : ∀ k, k < top → c k ≤ 1) {s : St} (hs : okQ top s) : oklQ top (stepQ top c s) := by
 obtain ⟨a, b, f⟩ := s
 obtain ⟨s1, s2, s3⟩ := hs
 simp only at s1 s2 s3
 unfold stepQ
 split
 ·rename_i e
  intro p hp
  simp at hp; subst hp
  refine ⟨⟨s1, s2, fun _ => e⟩, ?_⟩
  exact (by decide : (0 : Rat) ≤ 1)
 ·rename_i e
  have hlt : a < top := by simp only at e; omega
  have e0 := h0 a hlt
  have e1 := h1 a hlt
  have hf : f = false := by
   cases f with
   | false => rfl
   | true => exact absurd (s3 rfl) (by omega)
  subst hf
  refine o_w9 (o_w9 (fun p hp => by cases hp) ⟨by simp only; omega, s2, fun h => by simp at h⟩ e0) ⟨s1, s2, s3⟩ ?_
  show (0 : Rat) ≤ 1 - c a
  grind
theorem o_we {top : Nat} {c : Nat → Rat} (h0 : ∀ k, k < top → 0 ≤ c k) (h1 : ∀ k, k < top → c k ≤ 1) {s : St} (hs : okQ top s) : ∀ n, oklQ top (ofQ (stepQ top c) s n)
 | 0 => fun p hp => by
  simp [ofQ] at hp; subst hp
  exact ⟨hs, (by decide : (0 : Rat) ≤ 1)⟩
 | n + 1 => o_wc (fun s hs => o_wd h0 h1 hs) (o_we h0 h1 hs n)
theorem o_wf {top : Nat} {c : Nat → Rat} (h0 : ∀ k, k < top → 0 ≤ c k) (h1 : ∀ k, k < top → c k ≤ 1) {s : St} (hs : okQ top s) (n : Nat) (g : St → Rat) (hg : ∀ t, okQ top t → g t ≤ if t.1 = top then g (t.1, t.2.1, true) else c t.1 * g (t.1 + 1, t.2) + (1 - c t.1) * g t) : exQ g (ofQ (stepQ top c) s n) ≤ exQ g (ofQ (stepQ top c) s (n + 1)) := by
 show _ ≤ exQ g (timesQ (stepQ top c) (ofQ (stepQ top c) s n))
 rw [o_w2]
 refine o_w6 (top := top) (fun t ht => ?_) (o_we h0 h1 hs n)
 rw [(o_w5 g top c t).2]
 exact hg t ht
theorem o_wg {top : Nat} {c : Nat → Rat} (s : St) : ∀ n, exQ (fun _ => 1) (ofQ (stepQ top c) s n) = 1
 | 0 => by simp only [ofQ, exQ]; grind
 | n + 1 => by
  show exQ (fun _ => 1) (timesQ (stepQ top c) (ofQ (stepQ top c) s n)) = 1
  rw [o_w2]
  have : (fun t => exQ (fun _ => (1 : Rat)) (stepQ top c t)) = fun _ => 1 := by
   funext t
   rw [(o_w5 (fun _ => 1) top c t).2]
   split
   ·rfl
   ·grind
  rw [this, o_wg s n]
end
section
open Go.RowKit
@[simp] theorem o_wh (θ : Nat → Nat) (l : List D) : V.rens θ (l.map V.d) = l.map V.d := o_5v θ l
@[simp] theorem o_wi (n : Nat) (l : List D) : V.lowl n (l.map V.d) = true := o_5w n l
def rcD (q : Rat) : List D := [natW q.num.natAbs, .bool (decide (q.num < 0)), natW (q.den - 1)]
theorem o_wj (q : Rat) : rD q = .agg (rcD q) := rfl
def zR : List D := [.nilsl, .bool false, .nilsl]
theorem Sub1.agg2 {l r : List D} (h : Subs (l.map V.d) (r.map V.d)) : Sub1 (.d (.agg l)) (.d (.agg r)) := fun m v k => by
 rw [V.rep_d] at k ⊢
 unfold D.rep at k ⊢
 obtain ⟨vs, h1, h2, h3⟩ := k
 exact ⟨vs, h1, h2, V.reps_map_d.1 (h m vs (V.reps_map_d.2 h3))⟩
theorem o_wk : Sub1 (.d (.agg zR)) (.d (rD 0)) := Sub1.agg2 (Subs.cons Sub1.nil (Subs.cons (Sub1.refl _) (Subs.cons Sub1.nil (Subs.refl _))))
theorem o_wl (s : St) : ∀ l : Sp, Sub1 (.d (lookD rcD zR s l)) (.d (rD (getQ l s)))
 | [] => o_wk
 | p :: r => by
  unfold lookD getQ
  split
  ·exact Sub1.refl _
  ·exact o_wl s r
def spO (l : Sp) : Ob := ⟨1000391, (spD rcD l).map .d⟩
theorem o_wm (l : Sp) (s : St) (x : Rat) (h1 : RS (getQ l s) 100000) (h2 : RS x 100000) : Eqn Tryz.prog o_b4 [.mp 0, .d (.agg (stD s)), .d (rD x)] [spO l] (.tup []) [spO (addQ l s x)] := by
 refine Eqn.gen [0] o_b6 (by simp) (by simp) (by rfl) (by decide) (by simp) (by simp [spO, o_5w]) ?_
 have ha : Eqn Tryz.prog o_7p [.d (lookD rcD zR s l), .d (rD x)] [] (.d (rD (getQ l s + x))) [] := (o_oj _ _ h1 h2).sub (Subs.cons (o_wl s l) (Subs.refl _))
 have hl := o_vg rcD (fun _ => rfl) s l zR
 have hm := o_vh rcD (fun _ => rfl) s l (getQ l s + x)
 have hn := o_vb rcD (fun _ => rfl) l
 simp only [o_b5, spO, o_wj, stD, zR, addQ, rcD] at ha hl hm hn ⊢
 generalize spD (fun q => _) l = L at *
 generalize spD (fun q => _) (setQ l s (getQ l s + x)) = L2 at *
 refine A10 (fs hl (fs hm hn)) ?_; try with_reducible exact tt
 refine CallS.pu (ha) (R1 (fs hl (fs hm hn)) ?_); try with_reducible exact tt
end
section
open Go.RowKit
theorem o_wn : RS (1 : Rat) 1 := by
 have := RS.mk' (z := 1) (d := 1) (N := 1) (by decide) (by decide) (by decide)
 exact this
theorem rof1 : Eqn Tryz.prog o_77 [.d (.int .i64 1)] [] (.d (rD 1)) [] := by
 have := o_p8 1 (by omega)
 simpa using this
theorem rof0 : Eqn Tryz.prog o_77 [.d (.int .i64 0)] [] (.d (rD 0)) [] := by
 have := o_p8 0 (by omega)
 simpa using this
theorem o_wo (x : Rat) (s o : St) (hx : RS x 1000) (hso : s ≠ o) : Eqn Tryz.prog o_bs [.d (rD x), .d (.agg (stD s)), .d (.agg (stD o))] [] (.mp 0) [spO (eitQ x s o)] := by
 refine Eqn.gen [3] o_bu (by simp) (by simp) (by rfl) (by decide) (by simp) (by simp [spO]) ?_
 have h1 : RS (1 - x) 2000 := (o_wn.sub hx).le (by omega)
 have a1 := o_wm [] s x (by simp only [getQ]; exact ⟨by decide, by decide⟩) (hx.le (by omega))
 have a2 := o_wm (addQ [] s x) o (1 - x) (by rw [addQ, o_vd, if_neg (fun h => hso h.symm)]; show RS (0 : Rat) 100000; exact ⟨by decide, by decide⟩) (h1.le (by omega))
 have hs := o_ok 1 x (o_wn.le (by omega)) (hx.le (by omega))
 have ho := rof1
 simp only [o_bt, spO, o_wj, stD, eitQ, spD, List.flatMap_nil, List.map_nil] at a1 a2 hs ho ⊢
 generalize (addQ [] s x).flatMap _ = L1 at *
 generalize (addQ (addQ [] s x) o (1 - x)).flatMap _ = L2 at *
 generalize rcD (1 - x) = R1 at *
 simp only [rcD] at a1 hs ho ⊢
 refine A00 ?_; try with_reducible exact tt
 refine CallS.g [3] (a1) (R0 ?_); try with_reducible exact tt
 refine CallS.pu (ho) (R0 ?_); try with_reducible exact tt
 refine CallS.pu (hs) (R0 ?_); try with_reducible exact tt
 refine CallS.g [3] (a2) (R0 ?_); try with_reducible exact tt
 done
@[simp] theorem o_wp (ks : List Nat) (vw : Nat) (kl dv : List D) : mset ks vw kl dv [] = some (kl ++ dv) := by simp [mset, mfind]
theorem o_wq (s : St) : Eqn Tryz.prog o_8s [.d (.agg (stD s))] [] (.mp 0) [spO [(s, 1)]] := by
 refine Eqn.gen [1] o_8u (by simp) (by simp) (by rfl) (by decide) (by simp) (by simp [spO]) ?_
 have ho := rof1
 simp only [o_8t, spO, o_wj, stD, rcD, spD, List.flatMap_cons, List.flatMap_nil] at ho ⊢
 simp
 refine A00 ?_; try with_reducible exact tt
 refine CallS.pu (ho) (R0 ?_); try with_reducible exact tt

def chP (k a x : Nat) : Rat := if k = 1 then chM a x else mkRat 1 (2 ^ expOf k a x)
theorem o_wr (e : Nat) : halfD e = rD (mkRat 1 (2 ^ e)) := by
 obtain ⟨h1, h2, h3⟩ := o_o0 1 (2 ^ e) (Nat.two_pow_pos e)
 have hg : Nat.gcd (1 : Int).natAbs (2 ^ e) = 1 := by simp
 rw [hg] at h1 h2
 unfold halfD rD
 rw [h1, h2, show decide ((mkRat 1 (2 ^ e)).num < 0) = false by rw [decide_eq_false_iff_not, h3]; decide]
 simp
theorem o_ws : MethOK Tryz.prog 182 "tallymark/chain.chance" o_gk := fun v w => by kernel_rfl
theorem o_wt (a k : Nat) (h1 : 1 ≤ a) (h2 : a ≤ 4096) (hk : k ≤ 1023) (hb : bitsN (a + 1) * k ≤ 8192) : Eqn Tryz.prog o_gk [.d (.int .i64 a), .d (.int .i64 k)] [] (.tup [.d (rD (chM a k)), .d (.int .i64 0)]) [] := by
 refine Eqn.pure o_gm (o_ki _ _) ?_
 have h := (o_r7 a k h1 h2 hk hb).1
 rw [o_wj] at h ⊢
 simp only [o_gl, rcD] at h ⊢
 refine G0 ?_; try with_reducible exact tt
 refine CallS.pu (h) (R0 ?_); try with_reducible exact tt
theorem o_wu {k a w x : Nat} (h : GoodS k a w) (hx : x ≤ 15) : ∃ ti d g, MethOK Tryz.prog ti "tallymark/chain.chance" g ∧ kindD k a = .ifc ti d ∧ Eqn Tryz.prog g [.d d, .d (.int .i64 x)] [] (.tup [.d (rD (chP k a x)), .d (.int .i64 0)]) [] := by
 by_cases hk : k = 1
 ·subst hk
  have ha : 1 ≤ a ∧ a ≤ 4 := by
   rcases h.1 with ⟨-, h1, h2⟩ | ⟨h1, -⟩ | ⟨h1, -⟩
   ·exact ⟨h1, h2⟩
   ·omega
   ·omega
  refine ⟨_, _, _, o_ws, rfl, ?_⟩
  rw [chP, if_pos rfl]
  have hb : bitsN (a + 1) ≤ 3 := o_l6 (by omega)
  exact o_wt a x ha.1 (by omega) (by omega) (Nat.le_trans (Nat.mul_le_mul hb hx) (by omega))
 ·obtain ⟨ti, d, g, h1, h2, h3⟩ := o_qx h hk hx
  rw [o_wr] at h3
  exact ⟨ti, d, g, h1, h2, by rw [chP, if_neg hk]; exact h3⟩
theorem o_wv {k a w x : Nat} (h : GoodS k a w) (hx : x < 2 ^ w - 1) : Eqn Tryz.prog o_by [.d (parD k a w), .d (.int .i64 x)] [] (.tup [.d (rD (chP k a x)), .d (.int .i64 0)]) [] := by
 refine Eqn.pure o_c0 (o_ki _ _) ?_
 have h2 : 2 ^ w - 1 ≤ 15 := by have := Nat.pow_le_pow_right (n := 2) (by omega) h.2.2; omega
 have w2 : w ≤ 10 := by have := h.2.2; omega
 have hc := o_qm h
 have hat := o_ql k a w w2 x (by omega) (by omega) hc
 have ht := o_qk k a w w2 hc
 have hkd := o_pi k a w
 obtain ⟨ti, d, g, hm, hd, hg⟩ := o_wu (x := x) h (by omega)
 rw [hd] at hkd
 rw [o_wj] at hg ⊢
 simp only [o_bz, parD, rcD] at hat ht hg ⊢
 generalize 2 ^ w - 1 = W at *
 have g1 : ¬ x = W := by omega
 have g2 : ¬ (x : Int) = W := by omega
 refine G1 (fs g1 g2) ?_; try with_reducible exact tt
 refine CallS.pf 2 1 ⟨3, _⟩ [.int .i64 x] (hat) (by first | rfl | (simp [g1, g2]; done)) (R1 (fs g1 g2) ?_); try with_reducible exact tt
 refine CallS.pu (ht) (R1 (fs g1 g2) ?_); try with_reducible exact tt
 refine AW.cond rfl (fun h => ?_) (fun h => ?_)
 ·simp [g2] at h
 refine G0 ?_; try with_reducible exact tt
 refine CallS.pu (hkd) (R0 ?_); try with_reducible exact tt
 refine ⟨_, hm, ?_⟩
 refine CallS.pu (hg) (R0 ?_); try with_reducible exact tt
theorem o_ww {k a w : Nat} (h : GoodS k a w) : Eqn Tryz.prog o_by [.d (parD k a w), .d (.int .i64 (2 ^ w - 1 : Nat))] [] (.tup [.d (.agg zR), .d (.int .i64 0)]) [] := by
 refine Eqn.pure o_c0 (o_ki _ _) ?_
 have h2 : 2 ^ w - 1 ≤ 15 := by have := Nat.pow_le_pow_right (n := 2) (by omega) h.2.2; omega
 have w2 : w ≤ 10 := by have := h.2.2; omega
 have hc := o_qm h
 have hat := o_ql k a w w2 ((2 ^ w - 1 : Nat) : Int) (by omega) (Int.le_refl _) hc
 have ht := o_qk k a w w2 hc
 simp only [o_bz, parD, zR] at hat ht ⊢
 generalize 2 ^ w - 1 = W at *
 refine G0 ?_; try with_reducible exact tt
 refine CallS.pf 2 1 ⟨3, _⟩ [.int .i64 W] (hat) (by first | rfl | (simp; done)) (R0 ?_); try with_reducible exact tt
 refine CallS.pu (ht) (R0 ?_); try with_reducible exact tt
 refine A00 ?_; try with_reducible exact tt
theorem o_wx (k a b : Int) : Eqn Tryz.prog o_bv [.d (parD k a b)] [] (.d (parD k a b)) [] := by
 refine Eqn.pure o_bx Plain.ok ?_
 simp only [o_bw, parD]
 refine A00 ?_; try with_reducible exact tt
end
section
open Go.RowKit
theorem o_wy (x : Int) : Eqn Tryz.prog o_fh [.d (.int .i64 x)] [] (.d (.bool false)) [] := by
 refine Eqn.pure o_fj Plain.ok ?_
 simp only [o_fi]
 refine A00 ?_; try with_reducible exact tt
def cmpG (x y : Int) : Int := if x < y then -1 else if y < x then 1 else 0
theorem o_wz (x y : Int) : Eqn Tryz.prog o_e5 [.d (.int .i64 x), .d (.int .i64 y)] [] (.d (.int .i64 (cmpG x y))) [] := by
 refine Eqn.pure o_e7 Plain.ok ?_
 simp only [o_e6]
 have h1 := o_wy x
 have h2 := o_wy y
 unfold cmpG
 by_cases g1 : x < y
 ·rw [if_pos g1]
  refine A12 g1 h1 h2 ?_; try with_reducible exact tt
 ·rw [if_neg g1]
  by_cases g2 : y < x
  ·rw [if_pos g2]
   refine A12 (fs g1 g2) h1 h2 ?_; try with_reducible exact tt
  ·rw [if_neg g2]
   refine A12 (fs g1 g2) h1 h2 ?_; try with_reducible exact tt
theorem o_x0 (f : Bool) : Eqn Tryz.prog o_e8 [.d (.bool f)] [] (.d (.int .i64 ((if f then 1 else 0)))) [] := by
 refine Eqn.pure o_ea Plain.ok ?_
 simp only [o_e9]
 cases f
 ·refine A00 ?_; try with_reducible exact tt
 ·refine A00 ?_; try with_reducible exact tt
def orG (a b c : Int) : Int := if a ≠ 0 then a else if b ≠ 0 then b else c
theorem o_x1 (a b c : Int) : Eqn Tryz.prog o_e2 [.d (.sl 3 [.int .i64 a, .int .i64 b, .int .i64 c])] [] (.d (.int .i64 (orG a b c))) [] := by
 refine Eqn.pure o_e4 Plain.ok ?_
 simp only [o_e3]
 unfold orG
 by_cases ha : a = 0
 ·subst ha
  by_cases hb : b = 0
  ·subst hb
   by_cases hc : c = 0
   ·subst hc
    refine A00 ?_; try with_reducible exact tt
    refine AW.rounds 4 ?_
    refine A00 ?_; try with_reducible exact tt
   ·refine A00 ?_; try with_reducible exact tt
    refine AW.rounds 4 ?_
    refine A10 hc ?_; try with_reducible exact tt
  ·refine A00 ?_; try with_reducible exact tt
   refine AW.rounds 4 ?_
   refine A10 hb ?_; try with_reducible exact tt
 ·refine A00 ?_; try with_reducible exact tt
  refine AW.rounds 4 ?_
  refine A10 ha ?_; try with_reducible exact tt
end
section
open Go.RowKit
def ordI (p q : St × Rat) : Int := orG (cmpG p.1.1 q.1.1) (cmpG p.1.2.1 q.1.2.1) (cmpG (if p.1.2.2 then 1 else 0) (if q.1.2.2 then 1 else 0))
theorem o_x2 (p q : St × Rat) : ordI p q < 0 ↔ ltS p.1 q.1 = true := by
 obtain ⟨⟨a, b, c⟩, x⟩ := p; obtain ⟨⟨a', b', c'⟩, x'⟩ := q
 unfold ordI orG cmpG ltS
 simp only [Bool.or_eq_true, Bool.and_eq_true, decide_eq_true_eq, Bool.not_eq_true']
 cases c <;> cases c' <;> simp <;> (repeat' split) <;> omega
theorem o_x3 (p q : St × Rat) (x y z x' y' z' : D) : Eqn Tryz.prog o_c5 [.d (.agg [.int .i64 p.1.1, .int .i64 p.1.2.1, .bool p.1.2.2, x, y, z]), .d (.agg [.int .i64 q.1.1, .int .i64 q.1.2.1, .bool q.1.2.2, x', y', z'])] [] (.d (.int .i64 (ordI p q))) [] := by
 refine Eqn.pure o_c7 Plain.ok ?_
 simp only [o_c6]
 have t1 := o_x0 p.1.2.2
 have t2 := o_x0 q.1.2.2
 have c1 := o_wz p.1.1 q.1.1
 have c2 := o_wz p.1.2.1 q.1.2.1
 have c3 := o_wz (if p.1.2.2 then 1 else 0) (if q.1.2.2 then 1 else 0)
 have ho := o_x1 (cmpG p.1.1 q.1.1) (cmpG p.1.2.1 q.1.2.1) (cmpG (if p.1.2.2 then 1 else 0) (if q.1.2.2 then 1 else 0))
 unfold ordI
 generalize cmpG (if p.1.2.2 then 1 else 0) (if q.1.2.2 then 1 else 0) = C3 at *
 generalize cmpG p.1.1 q.1.1 = C1 at *
 generalize cmpG p.1.2.1 q.1.2.1 = C2 at *
 generalize (if p.1.2.2 then (1 : Int) else 0) = T1 at *
 generalize (if q.1.2.2 then (1 : Int) else 0) = T2 at *
 generalize p.1.2.2 = F1 at *
 generalize q.1.2.2 = F2 at *
 refine A06B c1 c2 t1 t2 c3 c3 ?_; try with_reducible exact tt
 refine CallS.pf 4 1 ⟨3, [.d (.int .i64 C1), .d (.int .i64 C2), .d (.int .i64 C3)]⟩ [.int .i64 C1, .int .i64 C2, .int .i64 C3] (ho) (by first | rfl | (simp [-Bool.exists_bool]; done)) (R0B ?_); try with_reducible exact tt

section
variable {aC : St × Rat → List D}
def rowA (aC : St × Rat → List D) (l : Sp) : List V := (l.flatMap aC).map .d
theorem o_x4 (h6 : ∀ p, (aC p).length = 6) (l : Sp) : (rowA aC l).length = l.length * 6 := by
 rw [rowA, List.length_map, o_pa h6]
@[simp] theorem o_x5 (n : Nat) (l : Sp) : V.lowl n (rowA aC l) = true := o_5w _ _
@[simp] theorem o_x6 (θ : Nat → Nat) (l : Sp) : V.rens θ (rowA aC l) = rowA aC l := o_5v _ _
theorem o_x7 (h6 : ∀ p, (aC p).length = 6) (l : Sp) (i : Nat) (h : i < l.length) : ((rowA aC l).drop (i * 6)).take 6 = (aC l[i]).map .d := by
 rw [rowA, ← List.map_drop, ← List.map_take, o_pc h6 l i h]
theorem o_x8 (l k : Sp) : rowA aC (l ++ k) = rowA aC l ++ rowA aC k := by simp [rowA]
def SortTo (L K : Sp) : Prop := ∀ K' : Sp, K'.Perm L → K'.Pairwise (fun a b => ltS a.1 b.1 = true) → K' = K
end
end
section
open Go.RowKit
def ChOk (k a w : Nat) : Prop := GoodS k a w
def topC (w : Nat) : Nat := 2 ^ w - 1
def onQ (w : Nat) (s : St) (x : Rat) : Sp := if s.1 = topC w then [((s.1, s.2.1, true), 1)] else eitQ x (s.1 + 1, s.2) s
theorem o_x9 {k a w : Nat} (h : GoodS k a w) (s : St) (hs : s.1 ≤ topC w) (x : Rat) (hx : RS x 1000) (X : D) (hX : Sub1 (.d X) (.d (rD x))) (hX2 : ∃ x0 x1 x2, X = .agg [x0, x1, x2]) :
  Eqn Tryz.prog o_c1 [.d (parD k a w), .d (.agg (stD s)), .d X] [] (.mp 0) [spO (onQ w s x)] := by
 have h15 : topC w ≤ 15 := by have := Nat.pow_le_pow_right (n := 2) (by omega) h.2.2; unfold topC; omega
 have w2 : w ≤ 10 := by have := h.2.2; omega
 have hc := o_qm h
 have ht := o_qk k a w w2 hc
 have hl := o_wx k a w
 rw [show 2 ^ w - 1 = topC w from rfl] at ht
 obtain ⟨x0, x1, x2, rfl⟩ := hX2
 obtain ⟨s1, s2, s3⟩ := s
 simp only at hs
 unfold onQ
 generalize topC w = W at *
 by_cases e : s1 = W
 ·subst e
  rw [if_pos rfl]
  refine Eqn.gen [3] o_c3 (by simp) (by simp) (by rfl) (by decide) (by simp) (by simp [spO]) ?_
  have hsu := o_wq (s1, s2, true)
  simp only [o_c2, spO, stD, parD] at ht hl hsu ⊢
  generalize spD rcD [((s1, s2, true), 1)] = L at *
  refine A00 ?_; try with_reducible exact tt
  refine CallS.pu (hl) (R0 ?_); try with_reducible exact tt
  refine CallS.pu (ht) (R0 ?_); try with_reducible exact tt
  refine A00 ?_; try with_reducible exact tt
  refine CallS.nX (hsu) (R0 ?_); try with_reducible exact tt
 ·rw [if_neg e]
  have hei := o_wo x (s1 + 1, s2, s3) (s1, s2, s3) hx (by simp)
  replace hei := hei.sub (Subs.cons hX (Subs.refl _))
  have e1 : ¬ (s1 : Int) = (W : Int) := by omega
  have ew : IntKind.i64.wrap ((s1 : Int) + 1) = ((s1 + 1 : Nat) : Int) := by rw [w64 (by omega) (by omega)]; omega
  refine Eqn.gen [4] o_c3 (by simp) (by simp) (by rfl) (by decide) (by simp) (by simp [spO]) ?_
  simp only [o_c2, spO, stD, parD] at ht hl hei ⊢
  generalize spD rcD _ = L at *
  refine A00 ?_; try with_reducible exact tt
  refine CallS.pu (hl) (R0 ?_); try with_reducible exact tt
  refine CallS.pu (ht) (R1 (fs e e1) ?_); try with_reducible exact tt
  refine A10 (fs e (fs e1 ew)) ?_; try with_reducible exact tt
  refine CallS.nX (hei) (R1 ew ?_); try with_reducible exact tt
end
section
open Go.RowKit
theorem o_xa {k a w x : Nat} (h : GoodS k a w) (hx : x ≤ 15) : RS (chP k a x) 1000 := by
 unfold chP
 by_cases hk : k = 1
 ·subst hk
  rw [if_pos rfl]
  have ha : 1 ≤ a ∧ a ≤ 4 := by
   rcases h.1 with ⟨-, h1, h2⟩ | ⟨h1, -⟩ | ⟨h1, -⟩
   ·exact ⟨h1, h2⟩
   ·omega
   ·omega
  have hb : bitsN (a + 1) ≤ 3 := o_l6 (by omega)
  exact (o_r7 a x ha.1 (by omega) (by omega) (Nat.le_trans (Nat.mul_le_mul hb hx) (by omega))).2.le (by omega)
 ·rw [if_neg hk]
  have he := o_qw h hk hx
  exact RS.mk' (Nat.two_pow_pos _) (by show size 1 ≤ 1000; exact Nat.le_trans (by decide : size 1 ≤ 1) (by omega)) (Nat.le_trans (o_qy he) (by omega))
theorem o_xb {k a w : Nat} (h : GoodS k a w) (s : St) (hs : s.1 ≤ topC w) : Eqn Tryz.prog o_8g [.d (parD k a w), .d (.agg (stD s))] [] (.mp 0) [spO (stepQ (topC w) (chP k a) s)] := by
 have h15 : topC w ≤ 15 := by have := Nat.pow_le_pow_right (n := 2) (by omega) h.2.2; unfold topC; omega
 have hk4 : ¬ (k : Int) = 4 := by have := h.1; omega
 have hk4' : ¬ k = 4 := by have := h.1; omega
 have hl := o_wx k a w
 have hrs := o_xa h (x := s.1) (by omega)
 have hst : stepQ (topC w) (chP k a) s = onQ w s (chP k a s.1) := rfl
 rw [hst]
 have key : ∃ x0 x1 x2 : D, Sub1 (.d (.agg [x0, x1, x2])) (.d (rD (if s.1 = topC w then 0 else chP k a s.1))) ∧ Eqn Tryz.prog o_by [.d (parD k a w), .d (.int .i64 s.1)] [] (.tup [.d (.agg [x0, x1, x2]), .d (.int .i64 0)]) [] := by
  by_cases e : s.1 = topC w
  ·refine ⟨_, _, _, by rw [if_pos e]; exact o_wk, ?_⟩
   have := o_ww h
   rw [show 2 ^ w - 1 = s.1 from e.symm] at this
   exact this
  ·refine ⟨_, _, _, by rw [if_neg e]; exact Sub1.refl _, o_wv h (by unfold topC at *; omega)⟩
 obtain ⟨x0, x1, x2, hX, hch⟩ := key
 have hon : Eqn Tryz.prog o_c1 [.d (parD k a w), .d (.agg (stD s)), .d (.agg [x0, x1, x2])] [] (.mp 0) [spO (onQ w s (chP k a s.1))] := by
  by_cases e : s.1 = topC w
  ·rw [if_pos e] at hX
   have := o_x9 h s hs 0 (show RS (0 : Rat) 1000 from ⟨by decide, by decide⟩) _ hX ⟨_, _, _, rfl⟩
   have e2 : onQ w s 0 = onQ w s (chP k a s.1) := by unfold onQ; rw [if_pos e, if_pos e]
   rw [e2] at this
   exact this
  ·rw [if_neg e] at hX
   exact o_x9 h s hs _ hrs _ hX ⟨_, _, _, rfl⟩
 refine Eqn.gen [3] o_8i (by simp) (by simp) (by rfl) (by decide) (by simp) (by simp [spO]) ?_
 simp only [o_8h, spO, stD, parD] at hl hch hon ⊢
 generalize spD rcD _ = L at *
 refine A10 (fs hk4 hk4') ?_; try with_reducible exact tt
 refine CallS.pu (hl) (R0 ?_); try with_reducible exact tt
 refine CallS.pu (hch) (R0 ?_); try with_reducible exact tt
 refine A00 ?_; try with_reducible exact tt
 refine CallS.nX (hon) (R0 ?_); try with_reducible exact tt
theorem o_xc {k a w : Nat} (h : GoodS k a w) (s : St) (hs : s.1 ≤ topC w) : Eqn Tryz.prog o_8y [.d (.agg (stD s)), .p 0 0] [⟨62, [.d (.int .i64 k), .d (.int .i64 a), .d (.int .i64 w)]⟩] (.mp 1) [⟨62, [.d (.int .i64 k), .d (.int .i64 a), .d (.int .i64 w)]⟩, spO (stepQ (topC w) (chP k a) s)] := by
 refine Eqn.gen [0, 2] o_90 (by simp) (by simp) (by rfl) (by decide) (by simp) (by simp [spO]) ?_
 have hst := o_xb h s hs
 simp only [o_8z, spO, stD, parD] at hst ⊢
 generalize spD rcD _ = L at *
 refine A00 ?_; try with_reducible exact tt
 refine CallS.nX (hst) (R0 ?_); try with_reducible exact tt
end
section
open Go.RowKit
def atomC (p : St × Rat) : List D := stD p.1 ++ rcD p.2
theorem o_xd (p : St × Rat) : (atomC p).length = 6 := rfl
theorem o_xe (l : Sp) : spD rcD l = l.flatMap atomC := rfl
theorem o_xf (p q : St × Rat) : Eqn Tryz.prog o_c5 [.d (.agg (atomC p)), .d (.agg (atomC q))] [] (.d (.int .i64 (ordI p q))) [] := o_x3 p q _ _ _ _ _ _
def seenV (σ : List Nat) : List V := σ.map fun i : Nat => V.d (.int .i64 (i : Int))
@[simp] theorem o_xg : ∀ σ : List Nat, seenOf (seenV σ) = some σ
 | [] => rfl
 | i :: σ => by
  have := o_xg σ
  unfold seenV at *
  rw [List.map_cons, seenOf, if_pos (by omega), this]
  simp
@[simp] theorem o_xh (σ : List Nat) (i : Nat) : seenV σ ++ [V.d (.int .i64 (i : Int))] = seenV (σ ++ [i]) := by simp [seenV]
@[simp] theorem o_xi (n : Nat) (σ : List Nat) : V.lowl n (seenV σ) = true := by
 induction σ with
 | nil => rfl
 | cons i σ ih => unfold seenV at *; simp [V.lowl, V.low, ih]
@[simp] theorem o_xj (θ : Nat → Nat) (σ : List Nat) : V.rens θ (seenV σ) = seenV σ := by
 induction σ with
 | nil => rfl
 | cons i σ ih => unfold seenV at *; simp [V.rens, V.ren, ih]
theorem o_xk : seenV [] = [] := rfl
def metQ (l : Sp) (σ : List Nat) : Sp := σ.flatMap fun i => match l[i]? with
 | some p => if p.2 = 0 then [] else [p]
 | none => []
theorem o_xl (l : Sp) (σ : List Nat) (i : Nat) (h : i < l.length) : metQ l (σ ++ [i]) = metQ l σ ++ if l[i].2 = 0 then [] else [l[i]] := by
 simp [metQ, List.flatMap_append, List.getElem?_eq_getElem h]
theorem o_xm (l : Sp) (σ : List Nat) (hp : σ.Perm (List.range l.length)) : (metQ l σ).Perm (nzQ l) := by
 have h1 : (metQ l σ).Perm (metQ l (List.range l.length)) := List.Perm.flatMap_right _ hp
 refine h1.trans (List.Perm.of_eq ?_)
 have key : ∀ n, n ≤ l.length → metQ l (List.range n) = nzQ (l.take n) := by
  intro n
  induction n with
  | zero => intro _; rfl
  | succ n ih =>
   intro hn
   rw [List.range_succ, o_xl l _ n (by omega), ih (by omega), List.take_add_one, List.getElem?_eq_getElem (by omega)]
   unfold nzQ
   rw [List.filter_append]
   congr 1
   simp only [Option.toList, List.filter_cons, List.filter_nil]
   by_cases h : l[n].2 = 0 <;> simp [h]
 rw [key l.length (Nat.le_refl _), List.take_length]
theorem o_xn (l L : Sp) (hu : Uq l) (hp : L.Perm (nzQ l)) : SortTo L (atQ l) := fun K' h1 h2 => o_vx hu (h1.trans hp) h2
end
section
open Go.RowKit
theorem o_xo {x y z : St} (h1 : ltS x y = false) (h2 : ltS y z = false) : ltS x z = false := by
 cases h : ltS x z with
 | false => rfl
 | true =>
  rcases o_vp x y with h3 | h3 | h3
  ·rw [h3] at h1; cases h1
  ·rw [← h3, h] at h2; cases h2
  ·rw [o_vo h3 h] at h2; cases h2
structure AtV (I : Nat → Prop) (w : World) : Type where
 enc : List Value
 «at» : St × Rat
 rep : D.reps I w (atomC «at») enc
 one : ∀ u ∈ enc, u.oneCell' = true
theorem AtV.len {I : Nat → Prop} {w : World} (x : AtV I w) : x.enc.length = 6 := by rw [D.reps_len x.rep]; rfl
theorem D.reps_split {I : Nat → Prop} {w : World} : ∀ {l k : List D} {vs : List Value}, D.reps I w (l ++ k) vs → ∃ us ws, vs = us ++ ws ∧ D.reps I w l us ∧ D.reps I w k ws
 | [], k, vs, h => ⟨[], vs, rfl, D.reps_nil.2 rfl, h⟩
 | x :: l, k, vs, h => by
  obtain ⟨v, r, rfl, h1, h2⟩ := D.reps_cons'.1 h
  obtain ⟨us, ws, rfl, h3, h4⟩ := D.reps_split h2
  exact ⟨v :: us, ws, rfl, D.reps_cons.2 ⟨h1, h3⟩, h4⟩
theorem o_xp {I : Nat → Prop} {w : World} : ∀ (L : Sp) (us : List Value), D.reps I w (L.flatMap atomC) us → (∀ u ∈ us, u.oneCell' = true) → ∃ dl : List (AtV I w), dl.map AtV.«at» = L ∧ dl.flatMap AtV.enc = us
 | [], us, h, _ => by
  simp at h
  exact ⟨[], rfl, by simp [h]⟩
 | p :: L, us, h, h1 => by
  rw [List.flatMap_cons] at h
  obtain ⟨a, b, rfl, h2, h3⟩ := D.reps_split h
  obtain ⟨dl, h4, h5⟩ := o_xp L b h3 fun u hu => h1 u (by simp [hu])
  exact ⟨⟨a, p, h2, fun u hu => h1 u (by simp [hu])⟩ :: dl, by rw [List.map_cons, h4], by rw [List.flatMap_cons, h5]⟩
theorem o_xq {I : Nat → Prop} {w : World} : ∀ dl : List (AtV I w), D.reps I w ((dl.map AtV.«at»).flatMap atomC) (dl.flatMap AtV.enc)
 | [] => by simp
 | x :: dl => by
  rw [List.map_cons, List.flatMap_cons, List.flatMap_cons]
  exact D.reps_append x.rep (o_xq dl)
theorem o_xr {I : Nat → Prop} {w : World} : ∀ dl : List (AtV I w), (dl.flatMap AtV.enc).length = dl.length * 6
 | [] => rfl
 | x :: dl => by rw [List.flatMap_cons, List.length_append, o_xr dl, x.len, List.length_cons]; omega
theorem o_xs {α : Type} {k : Nat} (enc : α → List Value) (hk : ∀ x, (enc x).length = k) : ∀ (l : List α) (t : Nat) (h : t < l.length * k), ∃ x, l[t / k]? = some x ∧ (l.flatMap enc)[t]? = (enc x)[t % k]?
 | [], t, h => by simp at h
 | x :: l, t, h => by
  have k0 : 0 < k := by
   rcases Nat.eq_zero_or_pos k with h0 | h0
   ·subst h0; simp at h
   ·exact h0
  rw [List.flatMap_cons]
  by_cases ht : t < k
  ·refine ⟨x, by rw [Nat.div_eq_of_lt ht]; rfl, ?_⟩
   rw [List.getElem?_append_left (by rw [hk]; exact ht), Nat.mod_eq_of_lt ht]
  ·have hd : t / k = (t - k) / k + 1 := by
    rw [show t = (t - k) + k by omega, Nat.add_div_right _ k0]; simp
   have hm : t % k = (t - k) % k := by
    conv => lhs; rw [show t = (t - k) + k by omega, Nat.add_mod_right]
   obtain ⟨y, h1, h2⟩ := o_xs enc hk l (t - k) (by rw [List.length_cons, Nat.add_mul] at h; omega)
   refine ⟨y, by rw [hd]; exact h1, ?_⟩
   rw [List.getElem?_append_right (by rw [hk]; omega), hk, h2, hm]
theorem o_xt {α : Type} [Inhabited α] {k : Nat} (enc : α → List Value) (hk : ∀ x, (enc x).length = k) (hfl : ∀ l : List α, (l.flatMap enc).length = l.length * k) (dl : List α) : Go.Sort.flatK enc k dl.toArray = (dl.flatMap enc).toArray := by
 apply Array.ext
 ·rw [Go.Sort.size_flatK]; simp [hfl]
 ·intro t h1 h2
  have ht : t < dl.length * k := by rw [Go.Sort.size_flatK] at h1; simpa using h1
  obtain ⟨x, e1, e2⟩ := o_xs enc hk dl t ht
  have h3 := Go.Sort.get_flatK enc k dl.toArray t (by simpa using ht)
  rw [getElem!_pos _ t h1] at h3
  rw [h3]
  have e3 : dl.toArray[t / k]! = x := by simp [Array.getElem!_eq_getD, Array.getD_eq_getD_getElem?, e1]
  rw [e3]
  have k0 : 0 < k := by
   rcases Nat.eq_zero_or_pos k with h0 | h0
   ·subst h0; simp at ht
   ·exact h0
  have h4 : t % k < (enc x).length := by rw [hk]; exact Nat.mod_lt _ k0
  rw [List.getElem?_eq_getElem h4] at e2
  have e4 : (dl.flatMap enc)[t]'(by rw [hfl]; exact ht) = (enc x)[t % k] := by
   have h5 : t < (dl.flatMap enc).length := by rw [hfl]; exact ht
   rw [List.getElem?_eq_getElem h5] at e2
   exact Option.some.inj e2
  rw [getElem!_pos (enc x) _ h4]
  simp only [List.getElem_toArray]
  exact e4.symm
end
section
open Go.RowKit
instance : Inhabited (St × Rat) := ⟨((0, 0, false), 0)⟩
section
variable {α : Type} [Inhabited α] (enc : α → List Value) (k : Nat)
theorem o_xu (w : World) (b off n : Nat) (d : Array α) (os : Array Obj) : (sortWorldK enc k w b off n d os).heap = w.heap.modify b (Go.Sort.onCells (Go.Sort.putCells id off (Go.Sort.flatK enc k d))) ++ os := rfl
theorem o_xv (w : World) (b off n : Nat) (d : Array α) (os : Array Obj) {c : Nat} (hc : c < w.heap.size) (h : c ≠ b) : (sortWorldK enc k w b off n d os).heap[c]? = w.heap[c]? := by
 rw [o_xu, Array.getElem?_append, if_pos (by simpa using hc), Array.getElem?_modify, if_neg (fun e => h e.symm)]
theorem o_xw (w : World) (b off n : Nat) (d : Array α) (os : Array Obj) {c : Array Value} {T : TypeId} {fr : Nat × Nat} (h : w.heap[b]? = some (.cells c T fr)) :
  (sortWorldK enc k w b off n d os).heap[b]? = some (.cells (Go.Sort.putCells id off (Go.Sort.flatK enc k d) c) T fr) := by
 have hc : b < w.heap.size := (Array.getElem?_eq_some_iff.1 h).1
 rw [o_xu, Array.getElem?_append, if_pos (by simpa using hc), Array.getElem?_modify, if_pos rfl, h]
 rfl
theorem o_xx (w : World) (b off n : Nat) (d : Array α) (os : Array Obj) : (sortWorldK enc k w b off n d os).heap.size = w.heap.size + os.size := by
 rw [o_xu, Array.size_append, Array.size_modify]
end
theorem o_xy (us vs more : List Value) (h : us.length = vs.length) : Go.Sort.putCells id 0 us.toArray (vs ++ more).toArray = (us ++ more).toArray := by
 apply Array.ext_getElem?
 intro j
 rw [Go.Sort.putCells, Array.getElem?_mapIdx]
 simp only [List.getElem?_toArray, List.size_toArray, Nat.zero_le, true_and, Nat.zero_add, Nat.sub_zero]
 by_cases hj : j < us.length
 ·rw [List.getElem?_append_left hj, List.getElem?_append_left (by omega), List.getElem?_eq_getElem hj, List.getElem?_eq_getElem (by omega : j < vs.length)]
  simp [hj]
 ·rw [List.getElem?_append_right (by omega), List.getElem?_append_right (by omega), h]
  cases more[j - vs.length]? with
  | none => rfl
  | some y => simp [show ¬ j < vs.length by omega]
theorem o_xz {α : Type} [Inhabited α] (enc : α → List Value) (k : Nat) (w : World) (b n : Nat) (d : Array α) (os : Array Obj) {c : Nat} (hc : c < w.heap.size) : (sortWorldK enc k w b 0 n d os).shape? c = w.shape? c := by
 unfold World.shape?
 by_cases h : c = b
 ·subst h
  rw [o_xu, Array.getElem?_append, if_pos (by simpa using hc), Array.getElem?_modify, if_pos rfl]
  cases h1 : w.heap[c]? with
  | none => rfl
  | some o => cases o <;> simp [Go.Sort.onCells, Go.Sort.putCells]
 ·rw [o_xv enc k w b 0 n d os hc h]

theorem o_y0 {W w : World} (l1 : w.os = W.os) (l2 : w.tape = W.tape) (l3 : w.output = W.output) (l4 : W.drawn ≤ w.drawn) (l5 : W.heap.size ≤ w.heap.size) (l6 : ∀ c, c < W.heap.size → w.heap[c]? = W.heap[c]?) :
  w = Go.Sort.grow (W.drewN (w.drawn - W.drawn)) (w.heap.extract W.heap.size w.heap.size) := by
 obtain ⟨w1, w2, w3, w4, w5⟩ := w
 obtain ⟨u1, u2, u3, u4, u5⟩ := W
 simp only at l1 l2 l3 l4 l5 l6
 subst l1 l2 l3
 show World.mk _ _ _ _ _ = World.mk _ _ _ _ _
 congr 1
 ·apply Array.ext_getElem?
  intro j
  show w1[j]? = (u1 ++ w1.extract u1.size w1.size)[j]?
  rw [Array.getElem?_append]
  split
  ·exact l6 j (by assumption)
  ·rename_i hj
   rw [Array.getElem?_extract]
   split
   ·congr 1; omega
   ·exact Array.getElem?_eq_none (by omega)
 ·show w3 = u3 + (w3 - u3)
  omega

def cfA {I : Nat → Prop} {w : World} (x y : AtV I w) : Int := ordI x.at y.at
theorem ltA {I : Nat → Prop} {w : World} (x y : AtV I w) : ltOf cfA x y = ltS x.at.1 y.at.1 := by
 unfold ltOf cfA
 cases h : ltS x.at.1 y.at.1 with
 | true => exact decide_eq_true ((o_x2 _ _).2 h)
 | false => exact decide_eq_false fun h1 => by rw [(o_x2 _ _).1 h1] at h; cases h
theorem o_y1 (s : St) : ltS s s = false := by
 cases h : ltS s s with
 | false => rfl
 | true => simp [ltS] at h
theorem swoA {I : Nat → Prop} {w : World} : Go.Sort.SWO (ltOf (cfA (I := I) (w := w))) where
 irrefl x := by rw [ltA]; exact o_y1 _
 trans x y z h1 h2 := by rw [ltA] at *; exact o_vo h1 h2
 ntrans x y z h1 h2 := by rw [ltA] at *; exact o_xo h1 h2

theorem cmpA {m : Mem} (hb : m.base) (b : Nat) (hbI : ¬ m.I b) (hbs : b < m.w.heap.size) (N : Nat) [Inhabited (AtV m.I m.w)] :
  CmpLays Tryz.prog o_c5 #[] (AtV.enc (I := m.I) (w := m.w)) 6 cfA b 0 N m.w := by
 intro n os dk hs x y
 obtain ⟨W, hW⟩ : ∃ W, W = sortWorldK (AtV.enc (I := m.I) (w := m.w)) 6 m.w b 0 n dk os := ⟨_, rfl⟩
 rw [← hW]
 have hI : ∀ c, m.I c → W.heap[c]? = m.w.heap[c]? := fun c hc => by rw [hW]; exact o_xv _ _ _ _ _ _ _ _ (hb.imm c hc) fun e => hbI (e ▸ hc)
 have hbase : Mem.base ⟨fun _ => none, m.I, W⟩ := ⟨fun c hc => by
   show c < W.heap.size
   rw [hW, o_xx]
   have := hb.imm c hc
   omega, fun _ _ h => (by cases h), hb.tabs.mono (fun _ h => h) hI⟩
 have hx := D.reps_mono (fun _ h => h) hI _ _ x.rep
 have hy := D.reps_mono (fun _ h => h) hI _ _ y.rep
 have hr := (o_xf x.at y.at).run ⟨fun _ => none, m.I, W⟩ [.agg x.enc.toArray, .agg y.enc.toArray] hbase
  ⟨_, _, rfl, ⟨x.enc, rfl, x.one, hx⟩, _, _, rfl, ⟨y.enc, rfl, y.one, hy⟩, rfl⟩ (by simp) (by simp) (by simp)
 have he := o_6d o_c7 #[.agg x.enc.toArray, .agg y.enc.toArray] W
 rcases hr with ⟨v, h1, h2⟩ | ⟨h1, h2⟩
 ·rw [show ([.agg x.enc.toArray, .agg y.enc.toArray] : List Value).toArray = #[.agg x.enc.toArray, .agg y.enc.toArray] from rfl, he] at h1
  cases h1
 ·refine h2.mono ?_
  rintro e w' ⟨v, m', rfl, rfl, h⟩
  refine ⟨by rw [show v = .int .i64 (ordI x.at y.at) from h.rep]; rfl, m'.w.drawn - W.drawn, m'.w.heap.extract W.heap.size m'.w.heap.size, ?_⟩
  have l1 : m'.w.os = W.os := h.le.os
  have l2 : m'.w.tape = W.tape := h.le.tape
  have l3 : m'.w.output = W.output := h.le.output
  have l4 : W.drawn ≤ m'.w.drawn := h.le.drawn
  have l5 : W.heap.size ≤ m'.w.heap.size := h.le.size
  have l6 : ∀ c, c < W.heap.size → m'.w.heap[c]? = W.heap[c]? := fun c hc => h.le.block c hc fun n hn => absurd hn (by simp)
  exact o_y0 l1 l2 l3 l4 l5 l6
end
section
open Go.RowKit
theorem o_y2 {I : Nat → Prop} {w : World} [Inhabited (AtV I w)] (l : List (AtV I w)) (hn : (l.map fun x => x.at.1).Nodup) (hs : Go.Sort.SortedIn (ltOf cfA) 0 l.length l.toArray) :
  (l.map AtV.«at»).Pairwise fun a b => ltS a.1 b.1 = true := by
 rw [List.pairwise_map, List.pairwise_iff_getElem]
 intro i j hi hj hij
 have h := hs i j (Nat.zero_le _) hij hj
 rw [ltA, getElem!_pos l.toArray j (by simpa using hj), getElem!_pos l.toArray i (by simpa using hi), List.getElem_toArray, List.getElem_toArray] at h
 rcases o_vp l[i].at.1 l[j].at.1 with h1 | h1 | h1
 ·exact h1
 ·exfalso
  have := (List.getElem_inj (h₀ := by simpa using hi) (h₁ := by simpa using hj) hn).1 (by simpa using h1)
  omega
 ·rw [h1] at h; cases h

set_option maxHeartbeats 2000000 in
theorem o_y3 (L : Sp) (hu : Uq L) (h0 : 1 ≤ L.length) (hl : L.length < 4611686018427387904) (K : Sp) (hK : SortTo L K) :
  Eqn Tryz.prog o_c4 [.own 0 6 L.length, .fn (.func o_c5) []] [⟨75, rowA atomC L⟩] (.tup []) [⟨75, rowA atomC K⟩] := by
 refine ⟨by simp, by simp, by rfl, by simp [rowA, o_5w], ?_⟩
 intro m vs hb hv ho hinj htop
 obtain ⟨v1, r1, rfl, hv1, v2, r2, rfl, hv2, rfl⟩ := hv
 obtain ⟨b, t, k, cap, hρ, hsh, rfl, rfl, hcap, hmax⟩ := hv1
 obtain ⟨cs, rfl, rfl⟩ := hv2
 obtain ⟨b', us, more, hρ', hheap, hone, hrep, hnI⟩ := ho 0 _ rfl
 obtain rfl : b = b' := by rw [hρ] at hρ'; exact Option.some.inj hρ'
 have hrep' : D.reps m.I m.w (L.flatMap atomC) us := V.reps_map_d.1 hrep
 rw [o_0 (show (75 : Nat) < TG by decide)] at hheap
 have hbs := hb.dom 0 b hρ
 obtain ⟨dl, hd1, hd2⟩ := o_xp L us hrep' hone
 have hlen : dl.length = L.length := by rw [← hd1]; simp
 haveI : Inhabited (AtV m.I m.w) := ⟨dl.head fun e => by rw [e] at hlen; simp at hlen; omega⟩
 have hfl := o_xt AtV.enc AtV.len o_xr dl
 have hH : Go.Sort.HoldsK AtV.enc 6 m.w b 0 dl.toArray := by
  unfold Go.Sort.HoldsK
  rw [hfl, hd2]
  intro j hj
  have hj' : j < us.length := by simpa using hj
  refine ⟨?_, ?_⟩
  ·unfold World.cell?
   rw [hheap]
   simp [List.getElem?_append_left hj', hj']
  ·unfold World.frozen?
   simp [hheap]
 have main := AnyQ.slices_SortFunc (ρ := renA) sortL 6 aggAtom sizeAtom AtV.enc AtV.len (fun x v hv => x.one v hv) cfA swoA o_c5 #[] b 0 cap dl.toArray m.w (fun vs w => o_6d o_c7 vs w) (cmpA hb b hnI hbs _) hH hbs (by simp; omega)
 refine .inr ⟨sortL.f6.enters rfl _ _, ?_⟩
 have e0 : (dl.toArray.size : Nat) = L.length := by simp [hlen]
 rw [e0] at main
 refine main.mono ?_
 rintro e w' ⟨rfl, d', n, os, hp, hs, rfl⟩
 obtain ⟨l', rfl⟩ : ∃ l' : List (AtV m.I m.w), d' = l'.toArray := ⟨d'.toList, by simp⟩
 have hl' : l'.length = dl.length := by have := hp.1; simpa using this
 have hp' : l'.Perm dl := by
  have := hp.2.2
  rw [← e0] at this
  have h2 : (List.take dl.length l').Perm dl := by simpa using this
  rwa [← hl', List.take_length] at h2
 have hfl' := o_xt AtV.enc AtV.len o_xr l'
 have hus : (l'.flatMap AtV.enc).length = us.length := by rw [← hd2, o_xr, o_xr, hl']
 have hnod : (l'.map fun x => x.at.1).Nodup := by
  have : (dl.map fun x => x.at.1) = L.map (·.1) := by rw [← hd1, List.map_map]; rfl
  rw [(hp'.map _).nodup_iff, this]; exact hu
 have hKe : l'.map AtV.«at» = K := hK _ (by rw [← hd1]; exact hp'.map _) (o_y2 l' hnod (by rw [hl', hlen]; exact hs))
 have hblk := o_xw AtV.enc 6 m.w b 0 n l'.toArray os hheap
 rw [hfl', o_xy _ _ _ hus] at hblk
 obtain ⟨W, hW⟩ : ∃ W, W = sortWorldK AtV.enc 6 m.w b 0 n l'.toArray os := ⟨_, rfl⟩
 have hne : ∀ c, c < m.w.heap.size → c ≠ b → W.heap[c]? = m.w.heap[c]? := fun c hc h => by rw [hW]; exact o_xv _ _ _ _ _ _ _ _ hc h
 have hsz : m.w.heap.size ≤ W.heap.size := by rw [hW, o_xx]; omega
 have hshp : ∀ c, c < m.w.heap.size → W.shape? c = m.w.shape? c := fun c hc => by rw [hW]; exact o_xz _ _ _ _ _ _ _ hc
 have hI : ∀ c, m.I c → W.heap[c]? = m.w.heap[c]? := fun c hc => hne c (hb.imm c hc) fun e => hnI (e ▸ hc)
 have l1 : W.os = m.w.os := by rw [hW]; rfl
 have l2 : W.tape = m.w.tape := by rw [hW]; rfl
 have l3 : W.output = m.w.output := by rw [hW]; rfl
 have l4 : m.w.drawn ≤ W.drawn := by rw [hW]; exact Nat.le_add_right _ _
 rw [← hW] at hblk ⊢
 have hle : m.le ⟨m.ρ, m.I, W⟩ (· < 1) := ⟨fun _ _ h => h, fun _ h => h, l1, l2, l3, l4, hsz, fun c hc h => hne c hc fun e => h 0 (by decide) (by rw [e]; exact hρ), hshp, hI, fun _ h => .inl h, fun _ _ h => .inl h⟩
 refine ⟨.tuple #[], ⟨m.ρ, m.I, W⟩, rfl, rfl, ⟨fun c hc => Nat.lt_of_lt_of_le (hb.imm c hc) hsz, fun i c hc => Nat.lt_of_lt_of_le (hb.dom i c hc) hsz, hb.tabs.mono (fun _ h => h) hI⟩, hle, ⟨[], rfl, rfl⟩, ?_, ?_, ?_, ?_⟩
 ·intro i ob _ hob
  match i, hob with
  | 0, hob =>
   simp only [List.getElem?_cons_zero, Option.some.injEq] at hob
   subst hob
   refine ⟨b, l'.flatMap AtV.enc, more, hρ, ?_, ?_, ?_, hnI⟩
   ·rw [o_0 (show (75 : Nat) < TG by decide)]; exact hblk
   ·intro u hu
    rw [List.mem_flatMap] at hu
    obtain ⟨x, _, hx⟩ := hu
    exact x.one u hx
   ·refine V.reps_map_d.2 (D.reps_mono (fun _ h => h) hI _ _ ?_)
    rw [← hKe]
    exact o_xq l'
  | i + 1, hob => simp at hob
 ·intro i j c _ _ hi hj _ _
  simp at hi hj
  omega
 ·intro i hi; exact htop i (by simpa using hi)
 ·intro i c hi hc
  rw [show (⟨m.ρ, m.I, W⟩ : Mem).ρ i = m.ρ i from rfl, htop i (by simpa using hi)] at hc
  cases hc
end
section
open Go.RowKit
@[simp] theorem o_y4 (n s : Nat) (ds l : List D) : V.frzs n s ds (l.map V.d) = l.map V.d := by
 rw [o_53, List.map_map]
 apply List.map_congr_left
 intro x _
 simp
def slM (l : Sp) (σ : List Nat) : List V := setS (List.replicate 26 .junk) [(0, .mp 0), (3, if (metQ l σ).length = 0 then .d .nilsl else .own 2 6 (metQ l σ).length), (7, .p 1 0)]
def hpM (l : Sp) (σ : List Nat) : List (Option Ob) := [some (spO l), some ⟨1000000, .mp 0 :: .d (.int .i64 (l.length : Nat)) :: seenV σ⟩] ++ if (metQ l σ).length = 0 then [] else [some ⟨75, rowA atomC (metQ l σ)⟩]
theorem o_y5 (q : Rat) : (cmpQ q 0 ≠ 0) ↔ q ≠ 0 := by
 unfold cmpQ
 by_cases h1 : q < 0
 ·rw [if_pos h1]; constructor
  ·intro _ h; subst h; exact absurd h1 (by decide)
  ·intro _ h; cases h
 ·rw [if_neg h1]
  by_cases h2 : 0 < q
  ·rw [if_pos h2]; constructor
   ·intro _ h; subst h; exact absurd h2 (by decide)
   ·intro _ h; cases h
  ·rw [if_neg h2]; constructor
   ·intro h; exact absurd rfl h
   ·intro h; exact absurd (Rat.le_antisymm (Rat.not_lt.1 h2) (Rat.not_lt.1 h1)) h
set_option maxHeartbeats 4000000 in
theorem o_y6 (l : Sp) (hu : Uq l) (h0 : nzQ l ≠ []) (hl : l.length ≤ 1000000) (hr : ∀ p ∈ l, RS p.2 100000) : Eqn Tryz.prog o_8j [.mp 0] [spO l] (.d (.sl (atQ l).length (spD rcD (atQ l)))) [spO l] := by
 refine Eqn.gen [0] o_8l (by simp) (by simp) (by rfl) (by decide) (by simp) (by simp [spO]) ?_
 have hn := o_vb rcD (fun _ => rfl) l
 simp only [o_8k, spO]
 refine A10 hn ?_; try with_reducible exact tt
 refine AW.loopG (α := List Nat) (fun σ => slM l σ) (fun σ => hpM l σ) (fun σ => σ.Nodup ∧ ∀ i ∈ σ, i < l.length) (fun σ => l.length - σ.length) [] ?_ ⟨by simp, by simp⟩ ?_ ?_ ?_
 ·intro σ _; unfold hpM; split <;> simp [spO]
 ·simp [slM, hpM, metQ]
 ·simp [hpM, metQ, spO, hn, o_xk]
 rintro σ ⟨hnd, hlt⟩
 have hbnd : σ.length ≤ l.length := by
  have h2 : σ.length ≤ (List.range l.length).length := hnd.length_le_of_subset fun i hi => List.mem_range.2 (hlt i hi)
  simpa using h2
 have ent : ∀ i (hi : i < l.length), ∃ (s1 s2 : Nat) (s3 : Bool) (q : Rat) (N1 N2 N3 : D), l[i] = ((s1, s2, s3), q) ∧ rcD q = [N1, N2, N3] ∧ RS q 100000 ∧ ((spD rcD l).drop (i * 6)).take 3 = [.int .i64 s1, .int .i64 s2, .bool s3] ∧ ((spD rcD l).drop (i * 6 + 3)).take 3 = [N1, N2, N3] := by
  intro i hi
  obtain ⟨⟨⟨s1, s2, s3⟩, q⟩, hp⟩ : ∃ p, l[i] = p := ⟨_, rfl⟩
  have h6 := o_pc (n := 6) (f := atomC) o_xd l i hi
  rw [hp, ← o_xe] at h6
  have h1 : ((spD rcD l).drop (i * 6)).take 3 = (((spD rcD l).drop (i * 6)).take 6).take 3 := by rw [List.take_take]; rfl
  have h2 : ((spD rcD l).drop (i * 6 + 3)).take 3 = (((spD rcD l).drop (i * 6)).take 6).drop 3 := by rw [← List.drop_drop]; simp [List.drop_take]
  refine ⟨s1, s2, s3, q, _, _, _, hp, rfl, hr ((s1, s2, s3), q) (by have := List.getElem_mem hi; rw [hp] at this; exact this), ?_, ?_⟩
  ·rw [h1, h6]; rfl
  ·rw [h2, h6]; rfl
 have allp : (∀ i, i < l.length → i ∈ σ) → σ.Perm (List.range l.length) := fun hall => (List.perm_ext_iff_of_nodup hnd List.nodup_range).2 fun i => ⟨fun h => List.mem_range.2 (hlt i h), fun h => hall i (List.mem_range.1 h)⟩
 have ho := rof0
 have h12 : (nzQ l).length ≤ 1000000 := Nat.le_trans (List.length_filter_le _ _) hl
 by_cases m0 : (metQ l σ).length = 0
 ·have mz : metQ l σ = [] := List.eq_nil_of_length_eq_zero m0
  rw [slM, hpM, if_pos m0, if_pos m0]
  simp [spO]
  refine A10 hn ?_; try with_reducible exact tt
  refine ⟨fun i hi hin => ?_, fun hall => ?_⟩
  ·obtain ⟨s1, s2, s3, q, N1, N2, N3, hp, hN, hq, hK, hV⟩ := ent i hi
   have hc := o_ol q 0 hq (show RS (0 : Rat) 100000 from ⟨by decide, by decide⟩)
   have hms := o_xl l σ i hi
   rw [hp] at hms
   have hR : (σ ++ [i]).Nodup ∧ ∀ j ∈ σ ++ [i], j < l.length := by
    refine ⟨by rw [List.nodup_append]; exact ⟨hnd, by simp, fun a ha b hb e => by simp at hb; subst hb; exact hin (e ▸ ha)⟩, fun j hj => ?_⟩
    rcases List.mem_append.1 hj with hj | hj
    ·exact hlt j hj
    ·simp at hj; subst hj; exact hi
   have hl1 : (σ ++ [i]).length ≤ l.length := by
    have h2 : (σ ++ [i]).length ≤ (List.range l.length).length := hR.1.length_le_of_subset fun j hj => List.mem_range.2 (hR.2 j hj)
    simpa using h2
   rw [List.length_append, List.length_singleton] at hl1
   have hz0 : rcD 0 = [natW 0, .bool false, natW 0] := rfl
   rw [o_wj, o_wj, hN] at hc
   rw [o_wj] at ho
   rw [hz0] at hc ho
   refine A10 (fs hi (fs hn (fs hK hV))) ?_; try with_reducible exact tt
   refine CallS.pu (ho) (R1 (fs hi (fs hn (fs hK hV))) ?_); try with_reducible exact tt
   refine CallS.pu (hc) (R0 ?_); try with_reducible exact tt
   by_cases hq0 : q = 0
   ·have hc0 : cmpQ q 0 = 0 := Classical.byContradiction fun h => (o_y5 q).1 h hq0
    refine A10 hc0 ?_; try with_reducible exact tt
    have e' : metQ l (σ ++ [i]) = [] := by rw [hms, mz]; simp [hq0]
    refine ⟨σ ++ [i], 1, 1, ⟨by omega, by omega, by omega, by omega⟩, hR, by simp; omega, ?_, ?_⟩
    ·simp [slM, hpM, e', spO, swT, swH, sw, Ob.sw, V.ren, V.rens]
    ·simp [slM, hpM, e', spO, swT, swH, sw, Ob.sw, V.ren, V.rens]
   ·have hc0 : ¬ cmpQ q 0 = 0 := (o_y5 q).2 hq0
    refine A10 hc0 ?_; try with_reducible exact tt
    have e' : metQ l (σ ++ [i]) = [((s1, s2, s3), q)] := by rw [hms, mz]; simp [hq0]
    refine ⟨σ ++ [i], 2, 5, ⟨by omega, by omega, by omega, by omega⟩, hR, by simp; omega, ?_, ?_⟩
    ·simp [slM, hpM, e', spO, swT, swH, sw, Ob.sw, V.ren, V.rens]
    ·simp [slM, hpM, e', spO, swT, swH, sw, Ob.sw, V.ren, V.rens, rowA, atomC, stD, hN]
  ·exfalso
   have hp := o_xm l σ (allp hall)
   rw [mz] at hp
   exact h0 (List.Perm.eq_nil hp.symm)
 ·obtain ⟨M, hM⟩ : ∃ M, M = metQ l σ := ⟨_, rfl⟩
  have hMl := o_x4 o_xd M
  rw [slM, hpM, if_neg m0, if_neg m0]
  rw [← hM] at m0 ⊢
  have hmp : 0 < M.length := by omega
  have hmM : M.length ≤ l.length := by
   rw [hM]
   have key : ∀ τ : List Nat, (metQ l τ).length ≤ τ.length := by
    intro τ
    induction τ with
    | nil => simp [metQ]
    | cons j τ ih =>
     have : metQ l (j :: τ) = (match l[j]? with | some p => if p.2 = 0 then [] else [p] | none => []) ++ metQ l τ := by unfold metQ; exact List.flatMap_cons
     rw [this, List.length_append]
     have h1 : (match l[j]? with | some p => if p.2 = 0 then [] else [p] | none => [] : Sp).length ≤ 1 := by
      split
      ·split <;> simp
      ·simp
     simp only [List.length_cons]; omega
   exact Nat.le_trans (key σ) hbnd
  simp [spO]
  refine A10 hn ?_; try with_reducible exact tt
  refine ⟨fun i hi hin => ?_, fun hall => ?_⟩
  ·obtain ⟨s1, s2, s3, q, N1, N2, N3, hp, hN, hq, hK, hV⟩ := ent i hi
   have hc := o_ol q 0 hq (show RS (0 : Rat) 100000 from ⟨by decide, by decide⟩)
   have hms := o_xl l σ i hi
   rw [hp, ← hM] at hms
   have hR : (σ ++ [i]).Nodup ∧ ∀ j ∈ σ ++ [i], j < l.length := by
    refine ⟨by rw [List.nodup_append]; exact ⟨hnd, by simp, fun a ha b hb e => by simp at hb; subst hb; exact hin (e ▸ ha)⟩, fun j hj => ?_⟩
    rcases List.mem_append.1 hj with hj | hj
    ·exact hlt j hj
    ·simp at hj; subst hj; exact hi
   have hl1 : (σ ++ [i]).length ≤ l.length := by
    have h2 : (σ ++ [i]).length ≤ (List.range l.length).length := hR.1.length_le_of_subset fun j hj => List.mem_range.2 (hR.2 j hj)
    simpa using h2
   rw [List.length_append, List.length_singleton] at hl1
   have hz0 : rcD 0 = [natW 0, .bool false, natW 0] := rfl
   rw [o_wj, o_wj, hN] at hc
   rw [o_wj] at ho
   rw [hz0] at hc ho
   refine A10 (fs hi (fs hn (fs hK hV))) ?_; try with_reducible exact tt
   refine CallS.pu (ho) (R1 (fs hi (fs hn (fs hK hV))) ?_); try with_reducible exact tt
   refine CallS.pu (hc) (R0 ?_); try with_reducible exact tt
   by_cases hq0 : q = 0
   ·have hc0 : cmpQ q 0 = 0 := Classical.byContradiction fun h => (o_y5 q).1 h hq0
    refine A10 hc0 ?_; try with_reducible exact tt
    have e' : metQ l (σ ++ [i]) = M := by rw [hms]; simp [hq0]
    refine ⟨σ ++ [i], 2, 2, ⟨by omega, by omega, by omega, by omega⟩, hR, by simp; omega, ?_, ?_⟩
    ·simp [slM, hpM, e', m0, spO, swT, swH, sw, Ob.sw, V.ren, V.rens]
    ·simp [slM, hpM, e', m0, spO, swT, swH, sw, Ob.sw, V.ren, V.rens]
   ·have hc0 : ¬ cmpQ q 0 = 0 := (o_y5 q).2 hq0
    refine A10 (fs hc0 hMl) ?_; try with_reducible exact tt
    have e' : metQ l (σ ++ [i]) = M ++ [((s1, s2, s3), q)] := by rw [hms]; simp [hq0]
    have e2 : rowA atomC (M ++ [((s1, s2, s3), q)]) = rowA atomC M ++ [.d (.int .i64 s1), .d (.int .i64 s2), .d (.bool s3), .d N1, .d N2, .d N3] := by rw [o_x8]; simp [rowA, atomC, stD, hN]
    refine ⟨σ ++ [i], 2, 6, ⟨by omega, by omega, by omega, by omega⟩, hR, by simp; omega, ?_, ?_⟩
    ·simp [slM, hpM, e', spO, swT, swH, sw, Ob.sw, V.ren, V.rens]
    ·simp [slM, hpM, e', spO, swT, swH, sw, Ob.sw, V.ren, V.rens, ← e2]
  ·have hp := o_xm l σ (allp hall)
   rw [← hM] at hp
   have hMl2 : M.length = (atQ l).length := by rw [hp.length_eq, (o_vs l).length_eq]
   have hso := o_y3 M (by unfold Uq; exact (hp.map _).nodup_iff.2 (o_vu hu)) hmp (by rw [hp.length_eq]; omega) (atQ l) (o_xn l M hu hp)
   have hal : (spD rcD (atQ l)).length = (atQ l).length * 6 := o_vb rcD (fun _ => rfl) _
   have htk : (spD rcD (atQ l)).take ((atQ l).length * 6) = spD rcD (atQ l) := List.take_of_length_le (by omega)
   rw [hMl2] at hso ⊢
   refine A00 ?_; try with_reducible exact tt
   refine CallS.g [2] hso ?_
   simp
   refine AW.freeze 2 6 ⟨75, rowA atomC (atQ l)⟩ (spD rcD (atQ l)) (by simp) rfl ?_
   simp [frzH, htk]
   refine A10 htk ?_; try with_reducible exact tt
theorem o_y7 (l : Sp) (hu : Uq l) (h0 : nzQ l ≠ []) (h12 : (nzQ l).length ≤ 40) (hl : l.length ≤ 1000000) (hr : ∀ p ∈ l, RS p.2 100000) : Eqn Tryz.prog o_8j [.mp 0] [spO l] (.d (.sl (atQ l).length (spD rcD (atQ l)))) [spO l] := o_y6 l hu h0 hl hr
end
section
open Go.RowKit
def Gr (D B : Nat) (q : Rat) : Prop := ∃ z : Nat, q * (D : Rat) = (z : Rat) ∧ z ≤ B * D
theorem o_y8 {D : Nat} (h : 0 < D) : (D : Rat) ≠ 0 := by
 intro e
 have : D = 0 := by exact_mod_cast e
 omega
theorem Gr.rs {D B N : Nat} {q : Rat} (hD : 0 < D) (hB : 1 ≤ B) (h : Gr D B q) (hN : size (B * D) ≤ N) : RS q N := by
 obtain ⟨z, h1, h2⟩ := h
 have hd := o_y8 hD
 have e : q = mkRat (z : Int) D := by
  rw [Rat.mkRat_eq_div]
  have : ((z : Int) : Rat) = (z : Rat) := rfl
  rw [this, ← h1]
  rw [Rat.mul_div_cancel hd]
 rw [e]
 refine RS.mk' hD ?_ ?_
 ·exact Nat.le_trans (o_kn (by simpa using h2)) hN
 ·exact Nat.le_trans (o_kn (by exact Nat.le_mul_of_pos_left D hB)) hN
theorem Gr.zero (D B : Nat) : Gr D B 0 := ⟨0, by grind, Nat.zero_le _⟩
theorem Gr.add {D B C : Nat} {x y : Rat} (hx : Gr D B x) (hy : Gr D C y) : Gr D (B + C) (x + y) := by
 obtain ⟨z, h1, h2⟩ := hx
 obtain ⟨w, h3, h4⟩ := hy
 refine ⟨z + w, ?_, by rw [Nat.add_mul]; omega⟩
 have : ((z + w : Nat) : Rat) = (z : Rat) + (w : Rat) := by simp
 rw [this, ← h1, ← h3]; grind
theorem Gr.mul {D E B C : Nat} {x y : Rat} (hx : Gr D B x) (hy : Gr E C y) : Gr (D * E) (B * C) (x * y) := by
 obtain ⟨z, h1, h2⟩ := hx
 obtain ⟨w, h3, h4⟩ := hy
 refine ⟨z * w, ?_, ?_⟩
 ·have e1 : ((z * w : Nat) : Rat) = (z : Rat) * (w : Rat) := by simp
  have e2 : ((D * E : Nat) : Rat) = (D : Rat) * (E : Rat) := by simp
  rw [e1, e2, ← h1, ← h3]; grind
 ·have := Nat.mul_le_mul h2 h4
  refine Nat.le_trans this (Nat.le_of_eq ?_)
  rw [Nat.mul_mul_mul_comm]
theorem Gr.le {D B C : Nat} {x : Rat} (h : Gr D B x) (hbc : B ≤ C) : Gr D C x := by
 obtain ⟨z, h1, h2⟩ := h
 exact ⟨z, h1, Nat.le_trans h2 (Nat.mul_le_mul_right _ hbc)⟩
theorem Gr.one (D : Nat) : Gr D 1 1 := ⟨D, by grind, by omega⟩
theorem Gr.sub1 {D : Nat} {x : Rat} (h : Gr D 1 x) : Gr D 1 (1 - x) := by
 obtain ⟨z, h1, h2⟩ := h
 refine ⟨D - z, ?_, by omega⟩
 have e1 : ((D - z : Nat) : Rat) = (D : Rat) - (z : Rat) := by
  have : (D : Rat) = ((D - z + z : Nat) : Rat) := by rw [Nat.sub_add_cancel (by omega)]
  rw [this]
  have e : ((D - z + z : Nat) : Rat) = ((D - z : Nat) : Rat) + (z : Rat) := by simp
  rw [e]; grind
 rw [e1, ← h1]; grind
theorem o_y9 {k a w : Nat} (h : GoodS k a w) : ∃ G : Nat, 0 < G ∧ G ≤ 2 ^ 63 ∧ ∀ x, x ≤ 15 → Gr G 1 (chP k a x) := by
 by_cases hk : k = 1
 ·subst hk
  have ha : 1 ≤ a ∧ a ≤ 4 := by
   rcases h.1 with ⟨-, h1, h2⟩ | ⟨h1, -⟩ | ⟨h1, -⟩
   ·exact ⟨h1, h2⟩
   ·omega
   ·omega
  refine ⟨(a + 1) ^ 15, Nat.pow_pos (by omega), Nat.le_trans (Nat.pow_le_pow_left (show a + 1 ≤ 5 by omega) 15) (by decide), fun x hx => ?_⟩
  rw [chP, if_pos rfl]
  unfold chM
  have key : ∀ n, n ≤ 15 → ∃ z : Nat, mkRat (a : Int) (a + 1) ^ n * (((a + 1) ^ n : Nat) : Rat) = (z : Rat) ∧ z ≤ (a + 1) ^ n := by
   intro n
   induction n with
   | zero => intro _; exact ⟨1, by simp, by simp⟩
   | succ n ih =>
    intro hn
    obtain ⟨z, h1, h2⟩ := ih (by omega)
    refine ⟨z * a, ?_, by rw [Nat.pow_succ]; exact Nat.mul_le_mul h2 (by omega)⟩
    have e1 : mkRat (a : Int) (a + 1) * ((a + 1 : Nat) : Rat) = (a : Rat) := by
     rw [Rat.mkRat_eq_div]
     have : ((a : Int) : Rat) = (a : Rat) := rfl
     rw [this]
     exact Rat.div_mul_cancel (o_y8 (by omega))
    have e2 : (((a + 1) ^ (n + 1) : Nat) : Rat) = (((a + 1) ^ n : Nat) : Rat) * ((a + 1 : Nat) : Rat) := by rw [Nat.pow_succ]; simp
    have e3 : ((z * a : Nat) : Rat) = (z : Rat) * (a : Rat) := by simp
    rw [Rat.pow_succ, e2, e3, ← h1, ← e1]; grind
  obtain ⟨z, h1, h2⟩ := key x hx
  refine ⟨z * (a + 1) ^ (15 - x), ?_, ?_⟩
  ·have e1 : (((a + 1) ^ 15 : Nat) : Rat) = (((a + 1) ^ x : Nat) : Rat) * (((a + 1) ^ (15 - x) : Nat) : Rat) := by
    have : (a + 1) ^ 15 = (a + 1) ^ x * (a + 1) ^ (15 - x) := by rw [← Nat.pow_add]; congr 1; omega
    rw [this]; simp
   have e2 : ((z * (a + 1) ^ (15 - x) : Nat) : Rat) = (z : Rat) * (((a + 1) ^ (15 - x) : Nat) : Rat) := by simp
   rw [e1, e2, ← h1]; grind
  ·rw [Nat.one_mul, show (a + 1) ^ 15 = (a + 1) ^ x * (a + 1) ^ (15 - x) by rw [← Nat.pow_add]; congr 1; omega]
   exact Nat.mul_le_mul_right _ h2
 ·refine ⟨2 ^ 63, by decide, Nat.le_refl _, fun x hx => ?_⟩
  rw [chP, if_neg hk]
  have he := o_qw h hk hx
  generalize expOf k a x = e at *
  refine ⟨2 ^ (63 - e), ?_, by rw [Nat.one_mul]; exact Nat.pow_le_pow_right (by decide) (by omega)⟩
  have e1 : mkRat 1 (2 ^ e) * ((2 ^ e : Nat) : Rat) = 1 := by
   rw [Rat.mkRat_eq_div]
   have := Rat.div_mul_cancel (a := ((1 : Int) : Rat)) (o_y8 (Nat.two_pow_pos e))
   simpa using this
  have e2 : ((2 ^ 63 : Nat) : Rat) = ((2 ^ e : Nat) : Rat) * ((2 ^ (63 - e) : Nat) : Rat) := by
   have : 2 ^ 63 = 2 ^ e * 2 ^ (63 - e) := by rw [← Nat.pow_add]; congr 1; omega
   rw [this]; simp
  rw [e2, ← Rat.mul_assoc, e1]; grind
end
section
open Go.RowKit
theorem o_ya (q : Rat) (out K : Sp) (j : Nat) (h : j < K.length) : innQ q out (K.take (j + 1)) = addQ (innQ q out (K.take j)) K[j].1 (q * K[j].2) := by
 unfold innQ; rw [List.take_add_one, List.getElem?_eq_getElem h, Option.toList, List.foldl_append]; rfl
def outQ (next : St → Sp) (A : Sp) (i : Nat) : Sp := (A.take i).foldl (fun out a => innQ a.2 out (atQ (next a.1))) []
theorem o_yb (next : St → Sp) (A : Sp) (i : Nat) (h : i < A.length) : outQ next A (i + 1) = innQ A[i].2 (outQ next A i) (atQ (next A[i].1)) := by
 unfold outQ; rw [List.take_add_one, List.getElem?_eq_getElem h, Option.toList, List.foldl_append]; rfl
theorem o_yc (next : St → Sp) (l : Sp) : outQ next (atQ l) (atQ l).length = timesQ next l := by unfold outQ timesQ; rw [List.take_length]
theorem o_yd {D B : Nat} {l : Sp} (h : ∀ p ∈ l, Gr D B p.2) (s : St) : Gr D B (getQ l s) := by
 induction l with
 | nil => exact Gr.zero D B
 | cons p l ih =>
  unfold getQ
  split
  ·exact h p (by simp)
  ·exact ih fun q hq => h q (by simp [hq])
theorem o_ye {D B : Nat} {q : Rat} {out : Sp} {C : Nat} (ho : ∀ p ∈ out, Gr D C p.2) : ∀ (K : Sp), (∀ p ∈ K, Gr D B (q * p.2)) → ∀ p ∈ innQ q out K, Gr D (C + K.length * B) p.2 := by
 have key : ∀ (K out : Sp) (C : Nat), (∀ p ∈ out, Gr D C p.2) → (∀ p ∈ K, Gr D B (q * p.2)) → ∀ p ∈ innQ q out K, Gr D (C + K.length * B) p.2 := by
  intro K
  induction K with
  | nil => intro out C ho _ p hp; simpa [innQ] using ho p hp
  | cons b K ih =>
   intro out C ho hK p hp
   have h1 : ∀ p ∈ addQ out b.1 (q * b.2), Gr D (C + B) p.2 := by
    intro p hp
    rcases o_w7 hp with hp | rfl
    ·exact (ho p hp).le (by omega)
    ·exact (o_yd ho _).add (hK b (by simp))
   have := ih (addQ out b.1 (q * b.2)) (C + B) h1 (fun p hp => hK p (by simp [hp])) p hp
   refine this.le (Nat.le_of_eq ?_)
   rw [List.length_cons, Nat.add_mul, Nat.one_mul]; omega
 exact fun K => key K out C ho
theorem o_yf {D E B J : Nat} {next : St → Sp} {A : Sp} (hA : ∀ p ∈ A, Gr D B p.2) (hN : ∀ p ∈ A, (∀ r ∈ next p.1, Gr E 1 r.2) ∧ (atQ (next p.1)).length ≤ J) : ∀ i, i ≤ A.length → ∀ p ∈ outQ next A i, Gr (D * E) (i * J * B) p.2
 | 0, _ => fun p hp => by simp [outQ] at hp
 | i + 1, hi => by
  have hi' : i < A.length := hi
  have ih := o_yf hA hN i (by omega)
  rw [o_yb next A i hi']
  obtain ⟨h1, h2⟩ := hN A[i] (List.getElem_mem hi')
  have hm : ∀ p ∈ atQ (next A[i].1), Gr (D * E) B (A[i].2 * p.2) := fun p hp => by
   have := (hA A[i] (List.getElem_mem hi')).mul (h1 p (List.mem_filter.1 ((o_vs _).mem_iff.1 hp)).1)
   rwa [Nat.mul_one] at this
  intro p hp
  refine (o_ye ih _ hm p hp).le ?_
  have := Nat.mul_le_mul_right B h2
  rw [Nat.add_mul i 1 J, Nat.one_mul, Nat.add_mul]; omega
theorem o_yg {top : Nat} {c : Nat → Rat} (s : St) : nzQ (stepQ top c s) ≠ [] := by
 intro h
 have h1 := (o_w5 (fun _ => 1) top c s).2
 have h2 : exQ (fun _ => (1 : Rat)) (stepQ top c s) = 1 := by
  rw [h1]; split
  ·rfl
  ·grind
 have h3 := o_vm (fun _ => (1 : Rat)) (stepQ top c s)
 rw [show (stepQ top c s).filter (fun p => decide (p.2 ≠ 0)) = nzQ (stepQ top c s) from rfl, h] at h3
 rw [h2] at h3
 exact absurd h3 (by decide)
theorem o_yh (l : Sp) (s : St) (q : Rat) : (setQ l s q).length ≤ l.length + 1 := by
 induction l with
 | nil => simp [setQ]
 | cons p l ih => unfold setQ; split <;> simp <;> omega
theorem o_yi (top : Nat) (c : Nat → Rat) (s : St) : (stepQ top c s).length ≤ 2 := by
 unfold stepQ
 split
 ·simp
 ·unfold eitQ addQ
  have := o_yh (setQ [] (s.1 + 1, s.2) (getQ [] (s.1 + 1, s.2) + c s.1)) s (getQ (setQ [] (s.1 + 1, s.2) (getQ [] (s.1 + 1, s.2) + c s.1)) s + (1 - c s.1))
  have h2 := o_yh [] (s.1 + 1, s.2) (getQ [] (s.1 + 1, s.2) + c s.1)
  simp at h2
  omega
theorem o_yj (l : Sp) : (atQ l).length ≤ l.length := by
 rw [(o_vs l).length_eq]; exact List.length_filter_le _ _
theorem o_yk {G top : Nat} {c : Nat → Rat} (hc : ∀ x, x < top → Gr G 1 (c x)) (s : St) (hs : s.1 ≤ top) : ∀ p ∈ stepQ top c s, Gr G 1 p.2 := by
 unfold stepQ
 split
 ·intro p hp; simp at hp; subst hp; exact Gr.one G
 ·rename_i e
  have h1 := hc s.1 (by omega)
  have hne : ¬ s = (s.1 + 1, s.2) := fun h => by have := congrArg Prod.fst h; simp at this
  intro p hp
  unfold eitQ at hp
  rcases o_w7 hp with hp | rfl
  ·rcases o_w7 hp with hp | rfl
   ·cases hp
   ·have := (Gr.zero G 0).add h1
    simpa [getQ] using this
  ·have h2 : getQ (addQ [] (s.1 + 1, s.2) (c s.1)) s = 0 := by unfold addQ; rw [o_vd, if_neg hne]; rfl
   show Gr G 1 (getQ (addQ [] (s.1 + 1, s.2) (c s.1)) s + (1 - c s.1))
   rw [h2]
   have := (Gr.zero G 0).add h1.sub1
   simpa using this
end
section
open Go.RowKit
def PO (k a w : Nat) : Ob := ⟨62, [.d (.int .i64 k), .d (.int .i64 a), .d (.int .i64 w)]⟩
theorem o_yl (A : Sp) (i : Nat) (hi : i < A.length) : ∃ (s1 s2 : Nat) (s3 : Bool) (q : Rat) (N1 N2 N3 : D), A[i] = ((s1, s2, s3), q) ∧ rcD q = [N1, N2, N3] ∧ ((spD rcD A).drop (i * 6)).take 6 = [.int .i64 s1, .int .i64 s2, .bool s3, N1, N2, N3] := by
 obtain ⟨⟨⟨s1, s2, s3⟩, q⟩, hp⟩ : ∃ p, A[i] = p := ⟨_, rfl⟩
 have h6 := o_pc (n := 6) (f := atomC) o_xd A i hi
 rw [hp, ← o_xe] at h6
 exact ⟨s1, s2, s3, q, _, _, _, hp, rfl, by rw [h6]; rfl⟩
set_option maxHeartbeats 4000000 in
theorem o_ym {k a w : Nat} (h : GoodS k a w) (l : Sp) (G D B : Nat) (hu : Uq l) (hok : oklQ (topC w) l) (hnz : nzQ l ≠ []) (h12 : (nzQ l).length ≤ 40) (hl : l.length ≤ 1000000) (hD : 0 < D) (hB : 1 ≤ B) (hgl : ∀ p ∈ l, Gr D B p.2) (hG : 0 < G) (hc : ∀ x, x ≤ 15 → Gr G 1 (chP k a x)) (hsz : size (80 * B * (D * G)) ≤ 100000) :
  Eqn Tryz.prog o_8v [.mp 0, .fn (.func o_8y) [.p 1 0]] [spO l, PO k a w] (.mp 2) [spO l, PO k a w, spO (timesQ (stepQ (topC w) (chP k a)) l)] := by
 refine Eqn.gen [0, 1, 2] o_8x (by simp) (by simp) (by rfl) (by decide) (by simp) (by simp [spO, PO]) ?_
 have h15 : topC w ≤ 15 := by have := Nat.pow_le_pow_right (n := 2) (by omega) h.2.2; unfold topC; omega
 obtain ⟨next, hnext⟩ : ∃ f, f = stepQ (topC w) (chP k a) := ⟨_, rfl⟩
 obtain ⟨A, hA⟩ : ∃ A, A = atQ l := ⟨_, rfl⟩
 have hAl : A.length ≤ 40 := by rw [hA, (o_vs l).length_eq]; exact h12
 have hA0 : 1 ≤ A.length := by
  rw [hA, (o_vs l).length_eq]
  rcases Nat.eq_zero_or_pos (nzQ l).length with e | e
  ·exact absurd (List.eq_nil_of_length_eq_zero e) hnz
  ·exact e
 have hAm : ∀ p ∈ A, p ∈ l := fun p hp => (List.mem_filter.1 ((o_vs l).mem_iff.1 (hA ▸ hp))).1
 have hDG : 0 < D * G := Nat.mul_pos hD hG
 have hBD : size (B * D) ≤ 100000 := by
  refine Nat.le_trans (o_kn ?_) hsz
  calc B * D = B * D * 1 := (Nat.mul_one _).symm
   _ ≤ B * D * (80 * G) := Nat.mul_le_mul_left _ (by omega)
   _ = 80 * B * (D * G) := by simp [Nat.mul_comm, Nat.mul_left_comm, Nat.mul_assoc]
 have hat := o_y7 l hu hnz h12 hl (fun p hp => (hgl p hp).rs hD hB hBD)
 have hGs : size (1 * G) ≤ 100000 := by
  refine Nat.le_trans (o_kn ?_) hsz
  calc 1 * G ≤ (80 * B * D) * G := Nat.mul_le_mul_right _ (Nat.mul_pos (by omega) hD)
   _ = 80 * B * (D * G) := by rw [Nat.mul_assoc]
 have hgn : ∀ s : St, s.1 ≤ topC w → ∀ p ∈ next s, Gr G 1 p.2 := fun s hs => by rw [hnext]; exact o_yk (fun x hx => hc x (by omega)) s hs
 have hnl : ∀ s, (atQ (next s)).length ≤ 2 := fun s => Nat.le_trans (o_yj _) (by rw [hnext]; exact o_yi _ _ _)
 have hout := o_yf (D := D) (E := G) (B := B) (J := 2) (next := next) (A := A) (fun p hp => hgl p (hAm p hp)) (fun p hp => ⟨hgn p.1 (hok p (hAm p hp)).1.1, hnl p.1⟩)
 have hon := o_yb next A
 have hoa : outQ next A A.length = timesQ next l := by rw [hA]; exact o_yc next l
 have hADl := o_vb rcD (fun _ => rfl) A
 have hget := o_yl A
 rw [← hnext, ← hoa]
 rw [← hA] at hat
 have hcl : ∀ s : St, s.1 ≤ topC w → Eqn Tryz.prog o_8y [.d (.agg (stD s)), .p 0 0] [PO k a w] (.mp 1) [PO k a w, spO (next s)] ∧ Eqn Tryz.prog o_8j [.mp 0] [spO (next s)] (.d (.sl (atQ (next s)).length (spD rcD (atQ (next s))))) [spO (next s)] := fun s hs => by
  refine ⟨by rw [hnext]; exact o_xc h s hs, o_y7 _ (by rw [hnext]; exact (o_w5 (fun _ => 0) _ _ s).1) (by rw [hnext]; exact o_yg s) ?_ ?_ fun p hp => (hgn s hs p hp).rs hG (Nat.le_refl _) hGs⟩
  ·exact Nat.le_trans (List.length_filter_le _ _) (Nat.le_trans (by rw [hnext]; exact o_yi _ _ _) (by omega))
  ·exact Nat.le_trans (by rw [hnext]; exact o_yi _ _ _) (by omega)
 have hAok : ∀ p ∈ A, p.1.1 ≤ topC w := fun p hp => (hok p (hAm p hp)).1.1
 clear hnext hA hoa hnz
 simp only [o_8w, spO, PO] at hat hcl ⊢
 generalize hLl : spD rcD l = LL at *
 refine A00 ?_; try with_reducible exact tt
 refine CallS.g [0] (hat) (R0 ?_); try with_reducible exact tt
 refine AW.loopG (α := Nat) (fun i => setS (List.replicate 40 .junk) [(1, .fn (.func o_8y) [.p 1 0]), (5, .mp 2), (12, .d (.sl A.length (spD rcD A))), (13, .d (.int .i64 A.length)), (14, .d (.int .i64 (i : Nat)))]) (fun i => [some ⟨1000391, LL.map .d⟩, some ⟨62, [.d (.int .i64 k), .d (.int .i64 a), .d (.int .i64 w)]⟩, some ⟨1000391, (spD rcD (outQ next A i)).map .d⟩]) (fun i => i ≤ A.length) (fun i => A.length - i) 0 ?_ (Nat.zero_le _) ?_ ?_ ?_
 ·intro i hi; simp
 ·simp
 ·simp [outQ, spD]
 rintro i hi
 simp
 by_cases hi2 : i < A.length
 ·have hi3 : (i : Int) < A.length := by omega
  obtain ⟨s1, s2, s3, q, N1, N2, N3, hp, hN, hg⟩ := hget i hi2
  have hsk := hAok _ (List.getElem_mem hi2)
  rw [hp] at hsk
  obtain ⟨hof, han⟩ := hcl (s1, s2, s3) hsk
  have hgq : Gr D B q := by have := hgl _ (hAm _ (List.getElem_mem hi2)); rw [hp] at this; exact this
  have hon1 := hon i hi2
  rw [hp] at hon1
  simp only at hon1
  have hgo := hout i hi
  have hn2 := hnl (s1, s2, s3)
  have hgn2 := hgn (s1, s2, s3) hsk
  obtain ⟨C, hC⟩ : ∃ C, C = atQ (next (s1, s2, s3)) := ⟨_, rfl⟩
  have hCm : ∀ p ∈ C, Gr G 1 p.2 := fun p hp => hgn2 p (List.mem_filter.1 ((o_vs _).mem_iff.1 (hC ▸ hp))).1
  rw [← hC] at hon1 han hn2
  have hCl := o_vb rcD (fun _ => rfl) C
  have hgetC := o_yl C
  have ewi : IntKind.i64.wrap ((i : Int) + 1) = ((i + 1 : Nat) : Int) := by rw [w64 (by omega) (by omega)]; omega
  simp only [stD] at hof han
  generalize hNL : spD rcD (next (s1, s2, s3)) = NL at *
  have hb6 : i * 6 + 6 ≤ A.length * 6 := by omega
  have hb7 : i * 6 < A.length * 6 := by omega
  refine A10 (fs hi2 (fs hi3 (fs hg (fs hADl (fs hb6 hb7))))) ?_; try with_reducible exact tt
  refine CallS.g [1] (hof) (R0 ?_); try with_reducible exact tt
  refine CallS.g [4] (han) (R0 ?_); try with_reducible exact tt
  refine AW.loopG (α := Nat) (fun j => setS (List.replicate 40 .junk) [(1, .fn (.func o_8y) [.p 1 0]), (5, .mp 2), (7, .p 3 0), (12, .d (.sl A.length (spD rcD A))), (13, .d (.int .i64 A.length)), (14, .d (.int .i64 (i : Nat))), (22, .d (.sl C.length (spD rcD C))), (23, .d (.int .i64 C.length)), (24, .d (.int .i64 (j : Nat)))]) (fun j => [some ⟨1000391, LL.map .d⟩, some ⟨62, [.d (.int .i64 k), .d (.int .i64 a), .d (.int .i64 w)]⟩, some ⟨1000391, (spD rcD (innQ q (outQ next A i) (C.take j))).map .d⟩, some ⟨75, [.d (.int .i64 s1), .d (.int .i64 s2), .d (.bool s3), .d N1, .d N2, .d N3]⟩]) (fun j => j ≤ C.length) (fun j => C.length - j) 0 ?_ (Nat.zero_le _) ?_ ?_ ?_
  ·intro j hj; simp
  ·simp
  ·simp [innQ]
  rintro j hj
  simp
  by_cases hj2 : j < C.length
  ·have hj3 : (j : Int) < C.length := by omega
   obtain ⟨t1, t2, t3, r, M1, M2, M3, hpc, hM, hgc⟩ := hgetC j hj2
   have hinn := o_ya q (outQ next A i) C j hj2
   have hgr := hCm _ (List.getElem_mem hj2)
   rw [hpc] at hinn hgr
   simp only at hinn hgr
   have hqr := hgq.mul hgr
   have hgi := o_ye (q := q) (B := B) hgo (C.take j) (fun p hp => by
    have := hgq.mul (hCm p (List.mem_of_mem_take hp))
    rwa [Nat.mul_one] at this)
   have hget2 := (o_yd hgi (t1, t2, t3)).le (C := 80 * B) (by
    have e1 : (C.take j).length ≤ 2 := by rw [List.length_take]; omega
    have e2 := Nat.mul_le_mul_right B e1
    have e3 : i * 2 * B ≤ 78 * B := Nat.mul_le_mul_right _ (by omega)
    omega)
   have hq1 := hgq.rs hD hB hBD
   have hr1 := hgr.rs hG (Nat.le_refl _) hGs
   have hmul := o_oi q r hq1 hr1
   have hadd := o_wm (innQ q (outQ next A i) (C.take j)) (t1, t2, t3) (q * r) (hget2.rs hDG (by omega) hsz) ((hqr.le (C := 80 * B) (by omega)).rs hDG (by omega) hsz)
   have ewj : IntKind.i64.wrap ((j : Int) + 1) = ((j + 1 : Nat) : Int) := by rw [w64 (by omega) (by omega)]; omega
   have hc6 : j * 6 + 6 ≤ C.length * 6 := by omega
   have hc7 : j * 6 < C.length * 6 := by omega
   rw [← hinn] at hadd
   rw [o_wj q, o_wj r, o_wj (q * r), hN, hM] at hmul
   rw [o_wj (q * r)] at hadd
   obtain ⟨P1, P2, P3, hP⟩ : ∃ P1 P2 P3, rcD (q * r) = [P1, P2, P3] := ⟨_, _, _, rfl⟩
   rw [hP] at hmul hadd
   simp only [spO, stD] at hadd
   refine A10 (fs hj2 (fs hj3 (fs hgc (fs hCl (fs hc6 hc7))))) ?_; try with_reducible exact tt
   refine CallS.pu (hmul) (R0 ?_); try with_reducible exact tt
   refine CallS.g [2] (hadd) (R0 ?_); try with_reducible exact tt
   refine A10 ewj ?_; try with_reducible exact tt
   refine ⟨j + 1, 2, 2, ⟨by omega, by omega, by omega, by omega⟩, by omega, by omega, ?_, ?_⟩
   ·simp [swT, swH, sw, Ob.sw, V.ren, V.rens]
   ·simp [swT, swH, sw, Ob.sw, V.ren, V.rens]
  ·have h2 : j = C.length := by omega
   subst h2
   rw [List.take_length, ← hon1]
   refine A00 ?_; try with_reducible exact tt
   refine A10 ewi ?_; try with_reducible exact tt
   refine ⟨i + 1, 2, 2, ⟨by omega, by omega, by omega, by omega⟩, by omega, by omega, ?_, ?_⟩
   ·simp [swT, swH, sw, Ob.sw, V.ren, V.rens]
   ·simp [swT, swH, sw, Ob.sw, V.ren, V.rens]
 ·have h2 : i = A.length := by omega
  subst h2
  refine A00 ?_; try with_reducible exact tt
end
section
open Go.RowKit
theorem o_yn {k a w : Nat} (h : GoodR k a w) (s : St) (hw : WellR k a w s.1 s.2.1 s.2.2) : Eqn Tryz.prog o_ce [.d (.agg (stD s)), .p 0 0] [PO k a w] (.d (.bool false)) [PO k a w] := by
 refine Eqn.gen [0] o_cg (by simp) (by simp) (by rfl) (by decide) (by simp) (by simp [PO]) ?_
 have hwl := o_ru h s.1 s.2.1 s.2.2
 rw [o_rt.2 hw] at hwl
 simp only [o_cf, PO, stD, parD, tsD] at hwl ⊢
 refine A00 ?_; try with_reducible exact tt
 refine CallS.pu (hwl) (R0 ?_); try with_reducible exact tt
theorem o_yo {k a w : Nat} (h : GoodR k a w) (s : St) (hw : WellR k a w s.1 s.2.1 s.2.2) : Eqn Tryz.prog o_ee [.d (.sl 1 (stD s)), .fn (.func o_ce) [.p 0 0]] [PO k a w] (.d (.int .i64 (-1))) [PO k a w] := by
 refine Eqn.gen [0] o_eg (by simp) (by simp) (by rfl) (by decide) (by simp) (by simp [PO]) ?_
 have hw1 := o_yn h s hw
 simp only [o_ef, PO, stD] at hw1 ⊢
 refine A00 ?_; try with_reducible exact tt
 refine AW.rounds 2 ?_
 refine A00 ?_; try with_reducible exact tt
 refine CallS.g [0] (hw1) (R0 ?_); try with_reducible exact tt
 refine A00 ?_; try with_reducible exact tt
theorem o_yp {k a w : Nat} (h : GoodR k a w) (s : St) (hw : WellR k a w s.1 s.2.1 s.2.2) : Eqn Tryz.prog o_cb [.d (.sl 1 (stD s)), .fn (.func o_ce) [.p 0 0]] [PO k a w] (.d (.bool false)) [PO k a w] := by
 refine Eqn.gen [0] o_cd (by simp) (by simp) (by rfl) (by decide) (by simp) (by simp [PO]) ?_
 have hi := o_yo h s hw
 simp only [o_cc, PO, stD] at hi ⊢
 refine A00 ?_; try with_reducible exact tt
 refine CallS.g [0] (hi) (R0 ?_); try with_reducible exact tt
theorem o_yq {k a w : Nat} (h : GoodR k a w) (s : St) (hw : WellR k a w s.1 s.2.1 s.2.2) : Eqn Tryz.prog o_8m [.d (parD k a w), .d (.sl 1 (stD s))] [] (.d (.int .i64 0)) [] := by
 refine Eqn.pure o_8o Plain.ok ?_
 have hc := o_rs h
 have hi := o_yp h s hw
 simp only [o_8n, PO, stD, parD] at hc hi ⊢
 refine A00 ?_; try with_reducible exact tt
 refine CallS.pu (hc) (R0 ?_); try with_reducible exact tt
 refine A00 ?_; try with_reducible exact tt
 refine CallS.g [0] (hi) (R0 ?_); try with_reducible exact tt
 refine A00 ?_; try with_reducible exact tt
theorem o_yr {k a w : Nat} (hk : k ≠ 4) (hw : w ≤ 10) : Eqn Tryz.prog o_8p [.d (parD k a w)] [] (.d (.int .i64 (2 ^ w : Nat))) [] := by
 refine Eqn.pure o_8r Plain.ok ?_
 have hk' : ¬ (k : Int) = 4 := by omega
 have e0 : (2 : Int) ^ w = (2 ^ w : Nat) := by rw [Int.natCast_pow]; rfl
 have h2 : 2 ^ w ≤ 1024 := Nat.pow_le_pow_right (n := 2) (by omega) hw
 simp only [o_8q, parD]
 generalize 2 ^ w = S at *
 have e1 : IntKind.i64.wrap (S : Int) = S := w64 (by omega) (by omega)
 refine A10 (fs hk (fs hk' (fs e0 e1))) ?_; try with_reducible exact tt
end
section
open Go.RowKit
def kyQ (P : St → Prop) (l : Sp) : Prop := ∀ p ∈ l, P p.1
theorem o_ys {P : St → Prop} {q : Rat} : ∀ {l out : Sp}, kyQ P out → kyQ P l → kyQ P (innQ q out l)
 | [], out, h, _ => h
 | b :: l, out, h, hl => o_ys (out := addQ out b.1 (q * b.2)) (l := l) (fun p hp => by
   rcases o_w7 hp with hp | rfl
   ·exact h p hp
   ·exact hl b (by simp)) fun p hp => hl p (by simp [hp])
theorem o_yt {P : St → Prop} {l : Sp} (h : kyQ P l) : kyQ P (atQ l) := fun p hp => h p (List.mem_filter.1 ((o_vs l).mem_iff.1 hp)).1
theorem o_yu {P P' : St → Prop} {next : St → Sp} (hn : ∀ s, P s → kyQ P' (next s)) {l : Sp} (h : kyQ P l) : kyQ P' (timesQ next l) := by
 have key : ∀ (k out : Sp), kyQ P' out → kyQ P k → kyQ P' (k.foldl (fun out a => innQ a.2 out (atQ (next a.1))) out) := by
  intro k
  induction k with
  | nil => intro out h _; exact h
  | cons a k ih =>
   intro out ho hk
   exact ih _ (o_ys ho (o_yt (hn _ (hk a (by simp))))) fun p hp => hk p (by simp [hp])
 exact key _ _ (fun p hp => by cases hp) (o_yt h)
def reach (top k : Nat) (i : Nat) (t : St) : Prop := t = (top, 0, true) ∨ t.2 = (0, false) ∧ k ≤ t.1 ∧ t.1 ≤ k + i ∧ t.1 ≤ top
theorem o_yv {top k i : Nat} {c : Nat → Rat} {t : St} (h : reach top k i t) : kyQ (reach top k (i + 1)) (stepQ top c t) := by
 obtain ⟨a, b, f⟩ := t
 unfold stepQ
 split
 ·rename_i e
  intro p hp
  simp at hp; subst hp
  left
  rcases h with h | ⟨h, -⟩
  ·have h1 := congrArg (fun x : St => x.2.1) h
   simp only at e h1
   rw [e, h1]
  ·simp only [Prod.mk.injEq] at h
   simp only at e
   rw [e, h.1]
 ·rename_i e
  simp only at e
  rcases h with h | ⟨h, h1, h2, h3⟩
  ·exact absurd (congrArg (fun x : St => x.1) h) e
  ·simp only at h h1 h2 h3
   intro p hp
   unfold eitQ at hp
   rcases o_w7 hp with hp | rfl
   ·rcases o_w7 hp with hp | rfl
    ·cases hp
    ·exact .inr ⟨h, by simp only; omega, by simp only; omega, by simp only; omega⟩
   ·exact .inr ⟨h, h1, by simp only; omega, h3⟩
theorem o_yw {top : Nat} {c : Nat → Rat} {s : St} (hs : okQ top s) : ∀ i, kyQ (reach top s.1 i) (ofQ (stepQ top c) s i)
 | 0 => fun p hp => by
  simp [ofQ] at hp; subst hp
  obtain ⟨a, b, f⟩ := s
  obtain ⟨h1, h2, h3⟩ := hs
  simp only at h1 h2 h3
  subst h2
  cases f with
  | false => exact .inr ⟨rfl, Nat.le_refl _, Nat.le_refl _, h1⟩
  | true => left; rw [h3 rfl]
 | i + 1 => o_yu (fun t ht => o_yv ht) (o_yw hs i)
theorem o_yx {top k i : Nat} {l : Sp} (hu : Uq l) (h : kyQ (reach top k i) l) : l.length ≤ i + 2 := by
 have h1 : (l.map (·.1)).length ≤ ((top, 0, true) :: (List.range (i + 1)).map fun j => (k + j, 0, false) : List St).length := by
  refine List.Nodup.length_le_of_subset hu fun t ht => ?_
  obtain ⟨p, hp, rfl⟩ := List.mem_map.1 ht
  rcases h p hp with e | ⟨e, e1, e2, -⟩
  ·rw [e]; simp
  ·refine List.mem_cons_of_mem _ (List.mem_map.2 ⟨p.1.1 - k, List.mem_range.2 (by omega), ?_⟩)
   rw [show k + (p.1.1 - k) = p.1.1 by omega, ← e]
 simpa using h1
theorem o_yy {top : Nat} {c : Nat → Rat} (s : St) (n : Nat) : nzQ (ofQ (stepQ top c) s n) ≠ [] := by
 intro h
 have h2 := o_wg (top := top) (c := c) s n
 have h3 := o_vm (fun _ => (1 : Rat)) (ofQ (stepQ top c) s n)
 rw [show (ofQ (stepQ top c) s n).filter (fun p => decide (p.2 ≠ 0)) = nzQ (ofQ (stepQ top c) s n) from rfl, h] at h3
 rw [h2] at h3
 exact absurd h3 (by decide)
theorem o_yz (a : Nat) (h : size a ≤ 1) : ∀ n, size (a ^ n) ≤ n + 1
 | 0 => Nat.le_trans (by decide : size 1 ≤ 1) (by omega)
 | n + 1 => by
  rw [Nat.pow_succ]
  have := o_o4 (a ^ n) a
  have := o_yz a h n
  omega
theorem o_z0 {G n : Nat} (hG : G ≤ 2 ^ 63) (hn : n ≤ 9) : size (80 * 80 ^ n * (G ^ n * G)) ≤ 100000 ∧ size (80 ^ n * G ^ n) ≤ 100000 := by
 have h1 : size G ≤ 1 := o_md (Nat.lt_of_le_of_lt hG (by decide))
 have h2 : size 80 ≤ 1 := o_md (by decide)
 have a1 := o_yz 80 h2 n
 have a2 := o_yz G h1 n
 have a3 := o_o4 (80 * 80 ^ n) (G ^ n * G)
 have a4 := o_o4 80 (80 ^ n)
 have a5 := o_o4 (G ^ n) G
 have a6 := o_o4 (80 ^ n) (G ^ n)
 omega
theorem o_z1 {k a w : Nat} (h : GoodS k a w) : (∀ x, x < topC w → 0 ≤ chP k a x) ∧ (∀ x, x < topC w → chP k a x ≤ 1) := by
 have h15 : topC w ≤ 15 := by have := Nat.pow_le_pow_right (n := 2) (by omega) h.2.2; unfold topC; omega
 obtain ⟨G, hG, -, hc⟩ := o_y9 h
 have hp : (0 : Rat) < (G : Rat) := by exact_mod_cast hG
 refine ⟨fun x hx => ?_, fun x hx => ?_⟩
 ·obtain ⟨z, h1, h2⟩ := hc x (by omega)
  apply Classical.byContradiction
  intro hn
  have hz : (0 : Rat) ≤ (z : Rat) := by exact_mod_cast Nat.zero_le z
  have := Rat.mul_lt_mul_of_pos_right (Rat.not_le.1 hn) hp
  grind
 ·obtain ⟨z, h1, h2⟩ := hc x (by omega)
  apply Classical.byContradiction
  intro hn
  have hz : (z : Rat) ≤ (G : Rat) := by exact_mod_cast (by omega : z ≤ G)
  have := Rat.mul_lt_mul_of_pos_right (Rat.not_le.1 hn) hp
  grind
end
section
open Go.RowKit
def dstQ (k a w : Nat) (s : St) (n : Nat) : Sp := ofQ (stepQ (topC w) (chP k a)) s n
end
section
open Go.RowKit
structure NextOK (next : St → Sp) (G : Nat) (s : St) : Prop where
 uq : Uq (next s)
 nz : nzQ (next s) ≠ []
 len : (next s).length ≤ 2
 gr : ∀ p ∈ next s, Gr G 1 p.2
set_option maxHeartbeats 4000000 in
theorem o_z2 {f : FuncId} {next : St → Sp} {T1 : TypeId} {x0 x1 x2 : D} (ho1 : T1 < 1000000) (P : St → Prop) (l : Sp) (G D B : Nat) (hu : Uq l) (hok : ∀ p ∈ nzQ l, P p.1) (hnz : nzQ l ≠ []) (h12 : (nzQ l).length ≤ 40) (hl : l.length ≤ 1000000) (hD : 0 < D) (hB : 1 ≤ B) (hgl : ∀ p ∈ l, Gr D B p.2) (hG : 0 < G) (hf : ∀ s : St, P s → NextOK next G s ∧ Eqn Tryz.prog f [.d (.agg (stD s)), .p 0 0] [⟨T1, [.d x0, .d x1, .d x2]⟩] (.mp 1) [⟨T1, [.d x0, .d x1, .d x2]⟩, spO (next s)]) (hsz : size (80 * B * (D * G)) ≤ 100000) :
  Eqn Tryz.prog o_8v [.mp 0, .fn (.func f) [.p 1 0]] [spO l, ⟨T1, [.d x0, .d x1, .d x2]⟩] (.mp 2) [spO l, ⟨T1, [.d x0, .d x1, .d x2]⟩, spO (timesQ next l)] := by
 refine Eqn.gen [0, 1, 2] o_8x (by simp) (by simp) (by rfl) (by decide) (by simp) (by simp [spO, ho1]) ?_
 obtain ⟨A, hA⟩ : ∃ A, A = atQ l := ⟨_, rfl⟩
 have hAl : A.length ≤ 40 := by rw [hA, (o_vs l).length_eq]; exact h12
 have hA0 : 1 ≤ A.length := by
  rw [hA, (o_vs l).length_eq]
  rcases Nat.eq_zero_or_pos (nzQ l).length with e | e
  ·exact absurd (List.eq_nil_of_length_eq_zero e) hnz
  ·exact e
 have hAm : ∀ p ∈ A, p ∈ l := fun p hp => (List.mem_filter.1 ((o_vs l).mem_iff.1 (hA ▸ hp))).1
 have hAz : ∀ p ∈ A, p ∈ nzQ l := fun p hp => (o_vs l).mem_iff.1 (hA ▸ hp)
 have hDG : 0 < D * G := Nat.mul_pos hD hG
 have hBD : size (B * D) ≤ 100000 := by
  refine Nat.le_trans (o_kn ?_) hsz
  calc B * D = B * D * 1 := (Nat.mul_one _).symm
   _ ≤ B * D * (80 * G) := Nat.mul_le_mul_left _ (by omega)
   _ = 80 * B * (D * G) := by simp [Nat.mul_comm, Nat.mul_left_comm, Nat.mul_assoc]
 have hat := o_y7 l hu hnz h12 hl (fun p hp => (hgl p hp).rs hD hB hBD)
 have hGs : size (1 * G) ≤ 100000 := by
  refine Nat.le_trans (o_kn ?_) hsz
  calc 1 * G ≤ (80 * B * D) * G := Nat.mul_le_mul_right _ (Nat.mul_pos (by omega) hD)
   _ = 80 * B * (D * G) := by rw [Nat.mul_assoc]
 have hgn : ∀ s : St, P s → ∀ p ∈ next s, Gr G 1 p.2 := fun s hs => (hf s hs).1.gr
 have hnl : ∀ s : St, P s → (atQ (next s)).length ≤ 2 := fun s hs => Nat.le_trans (o_yj _) (hf s hs).1.len
 have hout := o_yf (D := D) (E := G) (B := B) (J := 2) (next := next) (A := A) (fun p hp => hgl p (hAm p hp)) (fun p hp => ⟨hgn p.1 (hok p (hAz p hp)), hnl p.1 (hok p (hAz p hp))⟩)
 have hon := o_yb next A
 have hoa : outQ next A A.length = timesQ next l := by rw [hA]; exact o_yc next l
 have hADl := o_vb rcD (fun _ => rfl) A
 have hget := o_yl A
 rw [← hoa]
 rw [← hA] at hat
 have hcl : ∀ s : St, P s → Eqn Tryz.prog f [.d (.agg (stD s)), .p 0 0] [⟨T1, [.d x0, .d x1, .d x2]⟩] (.mp 1) [⟨T1, [.d x0, .d x1, .d x2]⟩, spO (next s)] ∧ Eqn Tryz.prog o_8j [.mp 0] [spO (next s)] (.d (.sl (atQ (next s)).length (spD rcD (atQ (next s))))) [spO (next s)] := fun s hs => by
  obtain ⟨hn, hh⟩ := hf s hs
  refine ⟨hh, o_y7 _ hn.uq hn.nz ?_ ?_ fun p hp => (hgn s hs p hp).rs hG (Nat.le_refl _) hGs⟩
  ·exact Nat.le_trans (List.length_filter_le _ _) (Nat.le_trans hn.len (by omega))
  ·exact Nat.le_trans hn.len (by omega)
 have hAok : ∀ p ∈ A, P p.1 := fun p hp => hok p (hAz p hp)
 clear hA hoa hnz hf
 simp only [o_8w, spO] at hat hcl ⊢
 generalize hLl : spD rcD l = LL at *
 refine A00 ?_; try with_reducible exact tt
 refine CallS.g [0] (hat) (R0 ?_); try with_reducible exact tt
 refine AW.loopG (α := Nat) (fun i => setS (List.replicate 40 .junk) [(1, .fn (.func f) [.p 1 0]), (5, .mp 2), (12, .d (.sl A.length (spD rcD A))), (13, .d (.int .i64 A.length)), (14, .d (.int .i64 (i : Nat)))]) (fun i => [some ⟨1000391, LL.map .d⟩, some ⟨T1, [.d x0, .d x1, .d x2]⟩, some ⟨1000391, (spD rcD (outQ next A i)).map .d⟩]) (fun i => i ≤ A.length) (fun i => A.length - i) 0 ?_ (Nat.zero_le _) ?_ ?_ ?_
 ·intro i hi; simp
 ·simp
 ·simp [outQ, spD]
 rintro i hi
 simp
 by_cases hi2 : i < A.length
 ·have hi3 : (i : Int) < A.length := by omega
  obtain ⟨s1, s2, s3, q, N1, N2, N3, hp, hN, hg⟩ := hget i hi2
  have hsk := hAok _ (List.getElem_mem hi2)
  rw [hp] at hsk
  obtain ⟨hof, han⟩ := hcl (s1, s2, s3) hsk
  have hgq : Gr D B q := by have := hgl _ (hAm _ (List.getElem_mem hi2)); rw [hp] at this; exact this
  have hon1 := hon i hi2
  rw [hp] at hon1
  simp only at hon1
  have hgo := hout i hi
  have hn2 := hnl (s1, s2, s3) hsk
  have hgn2 := hgn (s1, s2, s3) hsk
  obtain ⟨C, hC⟩ : ∃ C, C = atQ (next (s1, s2, s3)) := ⟨_, rfl⟩
  have hCm : ∀ p ∈ C, Gr G 1 p.2 := fun p hp => hgn2 p (List.mem_filter.1 ((o_vs _).mem_iff.1 (hC ▸ hp))).1
  rw [← hC] at hon1 han hn2
  have hCl := o_vb rcD (fun _ => rfl) C
  have hgetC := o_yl C
  have ewi : IntKind.i64.wrap ((i : Int) + 1) = ((i + 1 : Nat) : Int) := by rw [w64 (by omega) (by omega)]; omega
  simp only [stD] at hof han
  generalize hNL : spD rcD (next (s1, s2, s3)) = NL at *
  have hb6 : i * 6 + 6 ≤ A.length * 6 := by omega
  have hb7 : i * 6 < A.length * 6 := by omega
  refine A10 (fs hi2 (fs hi3 (fs hg (fs hADl (fs hb6 hb7))))) ?_; try with_reducible exact tt
  refine CallS.g [1] (hof) (R0 ?_); try with_reducible exact tt
  refine CallS.g [4] (han) (R0 ?_); try with_reducible exact tt
  refine AW.loopG (α := Nat) (fun j => setS (List.replicate 40 .junk) [(1, .fn (.func f) [.p 1 0]), (5, .mp 2), (7, .p 3 0), (12, .d (.sl A.length (spD rcD A))), (13, .d (.int .i64 A.length)), (14, .d (.int .i64 (i : Nat))), (22, .d (.sl C.length (spD rcD C))), (23, .d (.int .i64 C.length)), (24, .d (.int .i64 (j : Nat)))]) (fun j => [some ⟨1000391, LL.map .d⟩, some ⟨T1, [.d x0, .d x1, .d x2]⟩, some ⟨1000391, (spD rcD (innQ q (outQ next A i) (C.take j))).map .d⟩, some ⟨75, [.d (.int .i64 s1), .d (.int .i64 s2), .d (.bool s3), .d N1, .d N2, .d N3]⟩]) (fun j => j ≤ C.length) (fun j => C.length - j) 0 ?_ (Nat.zero_le _) ?_ ?_ ?_
  ·intro j hj; simp
  ·simp
  ·simp [innQ]
  rintro j hj
  simp
  by_cases hj2 : j < C.length
  ·have hj3 : (j : Int) < C.length := by omega
   obtain ⟨t1, t2, t3, r, M1, M2, M3, hpc, hM, hgc⟩ := hgetC j hj2
   have hinn := o_ya q (outQ next A i) C j hj2
   have hgr := hCm _ (List.getElem_mem hj2)
   rw [hpc] at hinn hgr
   simp only at hinn hgr
   have hqr := hgq.mul hgr
   have hgi := o_ye (q := q) (B := B) hgo (C.take j) (fun p hp => by
    have := hgq.mul (hCm p (List.mem_of_mem_take hp))
    rwa [Nat.mul_one] at this)
   have hget2 := (o_yd hgi (t1, t2, t3)).le (C := 80 * B) (by
    have e1 : (C.take j).length ≤ 2 := by rw [List.length_take]; omega
    have e2 := Nat.mul_le_mul_right B e1
    have e3 : i * 2 * B ≤ 78 * B := Nat.mul_le_mul_right _ (by omega)
    omega)
   have hq1 := hgq.rs hD hB hBD
   have hr1 := hgr.rs hG (Nat.le_refl _) hGs
   have hmul := o_oi q r hq1 hr1
   have hadd := o_wm (innQ q (outQ next A i) (C.take j)) (t1, t2, t3) (q * r) (hget2.rs hDG (by omega) hsz) ((hqr.le (C := 80 * B) (by omega)).rs hDG (by omega) hsz)
   have ewj : IntKind.i64.wrap ((j : Int) + 1) = ((j + 1 : Nat) : Int) := by rw [w64 (by omega) (by omega)]; omega
   have hc6 : j * 6 + 6 ≤ C.length * 6 := by omega
   have hc7 : j * 6 < C.length * 6 := by omega
   rw [← hinn] at hadd
   rw [o_wj q, o_wj r, o_wj (q * r), hN, hM] at hmul
   rw [o_wj (q * r)] at hadd
   obtain ⟨P1, P2, P3, hP⟩ : ∃ P1 P2 P3, rcD (q * r) = [P1, P2, P3] := ⟨_, _, _, rfl⟩
   rw [hP] at hmul hadd
   simp only [spO, stD] at hadd
   refine A10 (fs hj2 (fs hj3 (fs hgc (fs hCl (fs hc6 hc7))))) ?_; try with_reducible exact tt
   refine CallS.pu (hmul) (R0 ?_); try with_reducible exact tt
   refine CallS.g [2] (hadd) (R0 ?_); try with_reducible exact tt
   refine A10 ewj ?_; try with_reducible exact tt
   refine ⟨j + 1, 2, 2, ⟨by omega, by omega, by omega, by omega⟩, by omega, by omega, ?_, ?_⟩
   ·simp [swT, swH, sw, Ob.sw, V.ren, V.rens]
   ·simp [swT, swH, sw, Ob.sw, V.ren, V.rens]
  ·have h2 : j = C.length := by omega
   subst h2
   rw [List.take_length, ← hon1]
   refine A00 ?_; try with_reducible exact tt
   refine A10 ewi ?_; try with_reducible exact tt
   refine ⟨i + 1, 2, 2, ⟨by omega, by omega, by omega, by omega⟩, by omega, by omega, ?_, ?_⟩
   ·simp [swT, swH, sw, Ob.sw, V.ren, V.rens]
   ·simp [swT, swH, sw, Ob.sw, V.ren, V.rens]
 ·have h2 : i = A.length := by omega
  subst h2
  refine A00 ?_; try with_reducible exact tt
set_option maxHeartbeats 4000000 in
theorem o_z3 {f : FuncId} {next : St → Sp} {T1 T2 : TypeId} {x0 x1 x2 y0 y1 y2 : D} (ho1 : T1 < 1000000) (ho2 : T2 < 1000000) (P : St → Prop) (l : Sp) (G D B : Nat) (hu : Uq l) (hok : ∀ p ∈ nzQ l, P p.1) (hnz : nzQ l ≠ []) (h12 : (nzQ l).length ≤ 40) (hl : l.length ≤ 1000000) (hD : 0 < D) (hB : 1 ≤ B) (hgl : ∀ p ∈ l, Gr D B p.2) (hG : 0 < G) (hf : ∀ s : St, P s → NextOK next G s ∧ Eqn Tryz.prog f [.d (.agg (stD s)), .p 0 0, .p 1 0] [⟨T1, [.d x0, .d x1, .d x2]⟩, ⟨T2, [.d y0, .d y1, .d y2]⟩] (.mp 2) [⟨T1, [.d x0, .d x1, .d x2]⟩, ⟨T2, [.d y0, .d y1, .d y2]⟩, spO (next s)]) (hsz : size (80 * B * (D * G)) ≤ 100000) :
  Eqn Tryz.prog o_8v [.mp 0, .fn (.func f) [.p 1 0, .p 2 0]] [spO l, ⟨T1, [.d x0, .d x1, .d x2]⟩, ⟨T2, [.d y0, .d y1, .d y2]⟩] (.mp 3) [spO l, ⟨T1, [.d x0, .d x1, .d x2]⟩, ⟨T2, [.d y0, .d y1, .d y2]⟩, spO (timesQ next l)] := by
 refine Eqn.gen [0, 1, 2, 3] o_8x (by simp) (by simp) (by rfl) (by decide) (by simp) (by simp [spO, ho1, ho2]) ?_
 obtain ⟨A, hA⟩ : ∃ A, A = atQ l := ⟨_, rfl⟩
 have hAl : A.length ≤ 40 := by rw [hA, (o_vs l).length_eq]; exact h12
 have hA0 : 1 ≤ A.length := by
  rw [hA, (o_vs l).length_eq]
  rcases Nat.eq_zero_or_pos (nzQ l).length with e | e
  ·exact absurd (List.eq_nil_of_length_eq_zero e) hnz
  ·exact e
 have hAm : ∀ p ∈ A, p ∈ l := fun p hp => (List.mem_filter.1 ((o_vs l).mem_iff.1 (hA ▸ hp))).1
 have hAz : ∀ p ∈ A, p ∈ nzQ l := fun p hp => (o_vs l).mem_iff.1 (hA ▸ hp)
 have hDG : 0 < D * G := Nat.mul_pos hD hG
 have hBD : size (B * D) ≤ 100000 := by
  refine Nat.le_trans (o_kn ?_) hsz
  calc B * D = B * D * 1 := (Nat.mul_one _).symm
   _ ≤ B * D * (80 * G) := Nat.mul_le_mul_left _ (by omega)
   _ = 80 * B * (D * G) := by simp [Nat.mul_comm, Nat.mul_left_comm, Nat.mul_assoc]
 have hat := o_y7 l hu hnz h12 hl (fun p hp => (hgl p hp).rs hD hB hBD)
 have hGs : size (1 * G) ≤ 100000 := by
  refine Nat.le_trans (o_kn ?_) hsz
  calc 1 * G ≤ (80 * B * D) * G := Nat.mul_le_mul_right _ (Nat.mul_pos (by omega) hD)
   _ = 80 * B * (D * G) := by rw [Nat.mul_assoc]
 have hgn : ∀ s : St, P s → ∀ p ∈ next s, Gr G 1 p.2 := fun s hs => (hf s hs).1.gr
 have hnl : ∀ s : St, P s → (atQ (next s)).length ≤ 2 := fun s hs => Nat.le_trans (o_yj _) (hf s hs).1.len
 have hout := o_yf (D := D) (E := G) (B := B) (J := 2) (next := next) (A := A) (fun p hp => hgl p (hAm p hp)) (fun p hp => ⟨hgn p.1 (hok p (hAz p hp)), hnl p.1 (hok p (hAz p hp))⟩)
 have hon := o_yb next A
 have hoa : outQ next A A.length = timesQ next l := by rw [hA]; exact o_yc next l
 have hADl := o_vb rcD (fun _ => rfl) A
 have hget := o_yl A
 rw [← hoa]
 rw [← hA] at hat
 have hcl : ∀ s : St, P s → Eqn Tryz.prog f [.d (.agg (stD s)), .p 0 0, .p 1 0] [⟨T1, [.d x0, .d x1, .d x2]⟩, ⟨T2, [.d y0, .d y1, .d y2]⟩] (.mp 2) [⟨T1, [.d x0, .d x1, .d x2]⟩, ⟨T2, [.d y0, .d y1, .d y2]⟩, spO (next s)] ∧ Eqn Tryz.prog o_8j [.mp 0] [spO (next s)] (.d (.sl (atQ (next s)).length (spD rcD (atQ (next s))))) [spO (next s)] := fun s hs => by
  obtain ⟨hn, hh⟩ := hf s hs
  refine ⟨hh, o_y7 _ hn.uq hn.nz ?_ ?_ fun p hp => (hgn s hs p hp).rs hG (Nat.le_refl _) hGs⟩
  ·exact Nat.le_trans (List.length_filter_le _ _) (Nat.le_trans hn.len (by omega))
  ·exact Nat.le_trans hn.len (by omega)
 have hAok : ∀ p ∈ A, P p.1 := fun p hp => hok p (hAz p hp)
 clear hA hoa hnz hf
 simp only [o_8w, spO] at hat hcl ⊢
 generalize hLl : spD rcD l = LL at *
 refine A00 ?_; try with_reducible exact tt
 refine CallS.g [0] (hat) (R0 ?_); try with_reducible exact tt
 refine AW.loopG (α := Nat) (fun i => setS (List.replicate 40 .junk) [(1, .fn (.func f) [.p 1 0, .p 2 0]), (5, .mp 3), (12, .d (.sl A.length (spD rcD A))), (13, .d (.int .i64 A.length)), (14, .d (.int .i64 (i : Nat)))]) (fun i => [some ⟨1000391, LL.map .d⟩, some ⟨T1, [.d x0, .d x1, .d x2]⟩, some ⟨T2, [.d y0, .d y1, .d y2]⟩, some ⟨1000391, (spD rcD (outQ next A i)).map .d⟩]) (fun i => i ≤ A.length) (fun i => A.length - i) 0 ?_ (Nat.zero_le _) ?_ ?_ ?_
 ·intro i hi; simp
 ·simp
 ·simp [outQ, spD]
 rintro i hi
 simp
 by_cases hi2 : i < A.length
 ·have hi3 : (i : Int) < A.length := by omega
  obtain ⟨s1, s2, s3, q, N1, N2, N3, hp, hN, hg⟩ := hget i hi2
  have hsk := hAok _ (List.getElem_mem hi2)
  rw [hp] at hsk
  obtain ⟨hof, han⟩ := hcl (s1, s2, s3) hsk
  have hgq : Gr D B q := by have := hgl _ (hAm _ (List.getElem_mem hi2)); rw [hp] at this; exact this
  have hon1 := hon i hi2
  rw [hp] at hon1
  simp only at hon1
  have hgo := hout i hi
  have hn2 := hnl (s1, s2, s3) hsk
  have hgn2 := hgn (s1, s2, s3) hsk
  obtain ⟨C, hC⟩ : ∃ C, C = atQ (next (s1, s2, s3)) := ⟨_, rfl⟩
  have hCm : ∀ p ∈ C, Gr G 1 p.2 := fun p hp => hgn2 p (List.mem_filter.1 ((o_vs _).mem_iff.1 (hC ▸ hp))).1
  rw [← hC] at hon1 han hn2
  have hCl := o_vb rcD (fun _ => rfl) C
  have hgetC := o_yl C
  have ewi : IntKind.i64.wrap ((i : Int) + 1) = ((i + 1 : Nat) : Int) := by rw [w64 (by omega) (by omega)]; omega
  simp only [stD] at hof han
  generalize hNL : spD rcD (next (s1, s2, s3)) = NL at *
  have hb6 : i * 6 + 6 ≤ A.length * 6 := by omega
  have hb7 : i * 6 < A.length * 6 := by omega
  refine A10 (fs hi2 (fs hi3 (fs hg (fs hADl (fs hb6 hb7))))) ?_; try with_reducible exact tt
  refine CallS.g [1, 2] (hof) (R0 ?_); try with_reducible exact tt
  refine CallS.g [5] (han) (R0 ?_); try with_reducible exact tt
  refine AW.loopG (α := Nat) (fun j => setS (List.replicate 40 .junk) [(1, .fn (.func f) [.p 1 0, .p 2 0]), (5, .mp 3), (7, .p 4 0), (12, .d (.sl A.length (spD rcD A))), (13, .d (.int .i64 A.length)), (14, .d (.int .i64 (i : Nat))), (22, .d (.sl C.length (spD rcD C))), (23, .d (.int .i64 C.length)), (24, .d (.int .i64 (j : Nat)))]) (fun j => [some ⟨1000391, LL.map .d⟩, some ⟨T1, [.d x0, .d x1, .d x2]⟩, some ⟨T2, [.d y0, .d y1, .d y2]⟩, some ⟨1000391, (spD rcD (innQ q (outQ next A i) (C.take j))).map .d⟩, some ⟨75, [.d (.int .i64 s1), .d (.int .i64 s2), .d (.bool s3), .d N1, .d N2, .d N3]⟩]) (fun j => j ≤ C.length) (fun j => C.length - j) 0 ?_ (Nat.zero_le _) ?_ ?_ ?_
  ·intro j hj; simp
  ·simp
  ·simp [innQ]
  rintro j hj
  simp
  by_cases hj2 : j < C.length
  ·have hj3 : (j : Int) < C.length := by omega
   obtain ⟨t1, t2, t3, r, M1, M2, M3, hpc, hM, hgc⟩ := hgetC j hj2
   have hinn := o_ya q (outQ next A i) C j hj2
   have hgr := hCm _ (List.getElem_mem hj2)
   rw [hpc] at hinn hgr
   simp only at hinn hgr
   have hqr := hgq.mul hgr
   have hgi := o_ye (q := q) (B := B) hgo (C.take j) (fun p hp => by
    have := hgq.mul (hCm p (List.mem_of_mem_take hp))
    rwa [Nat.mul_one] at this)
   have hget2 := (o_yd hgi (t1, t2, t3)).le (C := 80 * B) (by
    have e1 : (C.take j).length ≤ 2 := by rw [List.length_take]; omega
    have e2 := Nat.mul_le_mul_right B e1
    have e3 : i * 2 * B ≤ 78 * B := Nat.mul_le_mul_right _ (by omega)
    omega)
   have hq1 := hgq.rs hD hB hBD
   have hr1 := hgr.rs hG (Nat.le_refl _) hGs
   have hmul := o_oi q r hq1 hr1
   have hadd := o_wm (innQ q (outQ next A i) (C.take j)) (t1, t2, t3) (q * r) (hget2.rs hDG (by omega) hsz) ((hqr.le (C := 80 * B) (by omega)).rs hDG (by omega) hsz)
   have ewj : IntKind.i64.wrap ((j : Int) + 1) = ((j + 1 : Nat) : Int) := by rw [w64 (by omega) (by omega)]; omega
   have hc6 : j * 6 + 6 ≤ C.length * 6 := by omega
   have hc7 : j * 6 < C.length * 6 := by omega
   rw [← hinn] at hadd
   rw [o_wj q, o_wj r, o_wj (q * r), hN, hM] at hmul
   rw [o_wj (q * r)] at hadd
   obtain ⟨P1, P2, P3, hP⟩ : ∃ P1 P2 P3, rcD (q * r) = [P1, P2, P3] := ⟨_, _, _, rfl⟩
   rw [hP] at hmul hadd
   simp only [spO, stD] at hadd
   refine A10 (fs hj2 (fs hj3 (fs hgc (fs hCl (fs hc6 hc7))))) ?_; try with_reducible exact tt
   refine CallS.pu (hmul) (R0 ?_); try with_reducible exact tt
   refine CallS.g [3] (hadd) (R0 ?_); try with_reducible exact tt
   refine A10 ewj ?_; try with_reducible exact tt
   refine ⟨j + 1, 3, 3, ⟨by omega, by omega, by omega, by omega⟩, by omega, by omega, ?_, ?_⟩
   ·simp [swT, swH, sw, Ob.sw, V.ren, V.rens]
   ·simp [swT, swH, sw, Ob.sw, V.ren, V.rens]
  ·have h2 : j = C.length := by omega
   subst h2
   rw [List.take_length, ← hon1]
   refine A00 ?_; try with_reducible exact tt
   refine A10 ewi ?_; try with_reducible exact tt
   refine ⟨i + 1, 3, 3, ⟨by omega, by omega, by omega, by omega⟩, by omega, by omega, ?_, ?_⟩
   ·simp [swT, swH, sw, Ob.sw, V.ren, V.rens]
   ·simp [swT, swH, sw, Ob.sw, V.ren, V.rens]
 ·have h2 : i = A.length := by omega
  subst h2
  refine A00 ?_; try with_reducible exact tt
end
section
open Go.RowKit
theorem o_z4 (n : Nat) : wD (n : Int) = .agg [natW n, .bool false] := by
 unfold wD
 rw [Int.natAbs_natCast]
 congr 4
theorem o_z5 (p q : Nat) (h0 : 0 < q) (hp : size p ≤ 900000) (hq : size q ≤ 900000) : Eqn Tryz.prog o_87 [.d (.agg [natW p, .bool false]), .d (.agg [natW q, .bool false])] [] (.tup [.d (rD (mkRat p q)), .d (.int .i64 0)]) [] := by
 refine Eqn.pure o_89 Plain.ok ?_
 have ha := o_mf q false
 have hp1 := o_mf p false
 have hn1 := o_mg p false
 have hn2 := o_mg q false
 have hz := o_k4 q
 have hq0 : (q == 0) = false := by simp; omega
 rw [hq0] at hz
 have h4 := o_o8 false p (p : Int) rfl
 have h5 := o_of (p : Int) q h0 (by rw [Int.natAbs_natCast]; exact hp) hq
 rw [o_z4] at h4 h5
 simp only [o_88, rD] at h5 ⊢
 refine G0 ?_; try with_reducible exact tt
 refine CallS.pu (ha) (R0 ?_); try with_reducible exact tt
 refine CallS.pu (hz) (R0 ?_); try with_reducible exact tt
 refine AW.cond rfl (fun h => ?_) (fun h => ?_)
 ·simp at h
 refine G0 ?_; try with_reducible exact tt
 refine CallS.pu (hn1) (R0 ?_); try with_reducible exact tt
 refine CallS.pu (hn2) (R0 ?_); try with_reducible exact tt
 refine CallS.pu (hp1) (R0 ?_); try with_reducible exact tt
 refine CallS.pu (h4) (R0 ?_); try with_reducible exact tt
 refine CallS.pu (ha) (R0 ?_); try with_reducible exact tt
 refine CallS.pu (h5) (R0 ?_); try with_reducible exact tt
theorem o_z6 (x y : Rat) (hx : RS x 100000) (hy : RS y 100000) (hx0 : 0 ≤ x.num) (hy0 : 0 < y.num) : Eqn Tryz.prog o_ek [.d (rD x), .d (rD y)] [] (.tup [.d (rD (x / y)), .d (.int .i64 0)]) [] := by
 refine Eqn.pure o_em Plain.ok ?_
 have x1 := hx.1; have x2 := hx.2; have y1 := hy.1; have y2 := hy.2
 obtain ⟨u, hu⟩ : ∃ u : Nat, x.num = (u : Int) := ⟨x.num.natAbs, by omega⟩
 obtain ⟨v, hv⟩ : ∃ v : Nat, y.num = (v : Int) := ⟨y.num.natAbs, by omega⟩
 have hu2 : x.num.natAbs = u := by omega
 have hv2 : y.num.natAbs = v := by omega
 have h1 := o_ob x.num y.den (by omega) (by rw [Int.natAbs_natCast]; omega)
 have h2 := o_ob y.num x.den (by omega) (by rw [Int.natAbs_natCast]; omega)
 have h3 := o_oh x (by omega)
 have h4 := o_oh y (by omega)
 rw [hu2] at x1; rw [hv2] at y1
 have s1 := o_o4 u y.den
 have s2 := o_o4 v x.den
 have h5 := o_z5 (u * y.den) (v * x.den) (Nat.mul_pos (by omega) x.den_pos) (by omega) (by omega)
 have e : mkRat ((u * y.den : Nat) : Int) (v * x.den) = x / y := by
  have hd := o_y8 x.den_pos
  have hd2 := o_y8 y.den_pos
  have hv0 : (v : Rat) ≠ 0 := o_y8 (by omega)
  have ex : x = (u : Rat) / (x.den : Rat) := by
   have h := Rat.mkRat_self x
   rw [Rat.mkRat_eq_div, hu] at h
   exact h.symm
  have ey : y = (v : Rat) / (y.den : Rat) := by
   have h := Rat.mkRat_self y
   rw [Rat.mkRat_eq_div, hv] at h
   exact h.symm
  rw [Rat.mkRat_eq_div]
  have k1 : (((u * y.den : Nat) : Int) : Rat) = (u : Rat) * (y.den : Rat) := by push_cast; rfl
  have k2 : ((v * x.den : Nat) : Rat) = (v : Rat) * (x.den : Rat) := by simp
  rw [k1, k2]
  generalize hxd : (x.den : Rat) = xd at *
  generalize hyd : (y.den : Rat) = yd at *
  generalize (u : Rat) = uu at *
  generalize (v : Rat) = vv at *
  rw [ex, ey]
  grind
 rw [e] at h5
 rw [hu] at h1; rw [hv] at h2
 rw [← Int.natCast_mul, o_z4, o_z4, o_z4] at h1 h2
 rw [o_z4] at h3 h4
 simp only [o_el, rD, hu2, hv2, hu, hv] at h1 h2 h3 h4 h5 ⊢
 refine G0 ?_; try with_reducible exact tt
 refine CallS.pu (h4) (R0 ?_); try with_reducible exact tt
 refine CallS.pu (h1) (R0 ?_); try with_reducible exact tt
 refine CallS.pu (h3) (R0 ?_); try with_reducible exact tt
 refine CallS.pu (h2) (R0 ?_); try with_reducible exact tt
 refine CallS.pu (h5) (R0 ?_); try with_reducible exact tt
end
section
open Go.RowKit
theorem o_z7 : ∀ a, a < 3 → ∀ x, x < 15 → (placeY a x).shift ≤ (placeY a (x + 1)).shift := by decide
theorem o_z8 {k a w r x : Nat} (h : GoodS k a w) (hk : k ≠ 1) (hr : r ≤ x) (hx : x ≤ 15) : expOf k a r ≤ expOf k a x := by
 unfold expOf
 split
 ·exact Nat.div_le_div_right hr
 ·have ha : a < 3 := by have := h.1; omega
  have key : ∀ d, r + d ≤ 15 → (placeY a r).shift ≤ (placeY a (r + d)).shift := by
   intro d
   induction d with
   | zero => intro _; exact Nat.le_refl _
   | succ d ih => intro hd; exact Nat.le_trans (ih (by omega)) (o_z7 a ha (r + d) (by omega))
  have := key (x - r) (by omega)
  rwa [show r + (x - r) = x by omega] at this
theorem o_z9 (e : Nat) : mkRat 1 (2 ^ e) * ((2 ^ e : Nat) : Rat) = 1 := by
 rw [Rat.mkRat_eq_div]
 have := Rat.div_mul_cancel (a := ((1 : Int) : Rat)) (o_y8 (Nat.two_pow_pos e))
 simpa using this
theorem o_za {e : Nat} (he : e ≤ 63) : Gr (2 ^ 63) 1 (mkRat 1 (2 ^ e)) := by
 refine ⟨2 ^ (63 - e), ?_, by rw [Nat.one_mul]; exact Nat.pow_le_pow_right (by decide) (by omega)⟩
 have e1 := o_z9 e
 have e2 : ((2 ^ 63 : Nat) : Rat) = ((2 ^ e : Nat) : Rat) * ((2 ^ (63 - e) : Nat) : Rat) := by
  have : 2 ^ 63 = 2 ^ e * 2 ^ (63 - e) := by rw [← Nat.pow_add]; congr 1; omega
  rw [this]; simp
 rw [e2, ← Rat.mul_assoc, e1]; grind
theorem o_zb {e f : Nat} (h : f ≤ e) : mkRat 1 (2 ^ e) / mkRat 1 (2 ^ f) = mkRat 1 (2 ^ (e - f)) := by
 have h1 := o_z9 e
 have h2 := o_z9 f
 have h3 := o_z9 (e - f)
 have h4 : ((2 ^ e : Nat) : Rat) = ((2 ^ f : Nat) : Rat) * ((2 ^ (e - f) : Nat) : Rat) := by
  have : 2 ^ e = 2 ^ f * 2 ^ (e - f) := by rw [← Nat.pow_add]; congr 1; omega
  rw [this]; simp
 rw [h4] at h1
 generalize mkRat 1 (2 ^ e) = x at *
 generalize mkRat 1 (2 ^ f) = y at *
 generalize mkRat 1 (2 ^ (e - f)) = z at *
 generalize ((2 ^ f : Nat) : Rat) = u at *
 generalize ((2 ^ (e - f) : Nat) : Rat) = v at *
 have hy : y ≠ 0 := by intro hy; subst hy; simp at h2
 have : x = z * y := by grind
 rw [this]
 exact Rat.mul_div_cancel hy
theorem o_zc {a : Nat} (ha : 1 ≤ a) (n : Nat) : chM a n ≠ 0 := by
 unfold chM
 have h : mkRat (a : Int) (a + 1) ≠ 0 := by
  rw [Rat.mkRat_eq_div]
  have h1 : ((a : Int) : Rat) ≠ 0 := o_y8 (by omega : 0 < a)
  have h2 := o_y8 (by omega : 0 < a + 1)
  intro e
  have := Rat.div_mul_cancel (a := ((a : Int) : Rat)) h2
  rw [e] at this
  simp at this
  exact h1 (by simpa using this.symm)
 induction n with
 | zero => simp
 | succ n ih =>
  rw [Rat.pow_succ]
  intro e
  rcases Rat.mul_eq_zero.1 e with e | e
  ·exact ih e
  ·exact h e
theorem o_zd (q : Rat) (m : Nat) : ∀ n, q ^ (m + n) = q ^ m * q ^ n
 | 0 => by simp
 | n + 1 => by rw [← Nat.add_assoc, Rat.pow_succ, Rat.pow_succ, o_zd q m n, Rat.mul_assoc]
theorem o_ze {a : Nat} (ha : 1 ≤ a) {r x : Nat} (hr : r ≤ x) : chM a x / chM a r = chM a (x - r) := by
 have h := o_zc ha r
 have e : chM a x = chM a (x - r) * chM a r := by
  unfold chM
  rw [← o_zd, show x - r + r = x by omega]
 rw [e]
 exact Rat.mul_div_cancel h
theorem gs_a {k a w : Nat} (h : GoodS k a w) (hk : k = 1) : 1 ≤ a ∧ a ≤ 4 := by
 rcases h.1 with ⟨-, h1, h2⟩ | ⟨h1, -⟩ | ⟨h1, -⟩
 ·exact ⟨h1, h2⟩
 ·omega
 ·omega
theorem o_zf {k a w x : Nat} (h : GoodS k a w) (hx : x ≤ 15) : chP k a x ≠ 0 := by
 unfold chP
 split
 ·rename_i hk
  exact o_zc (gs_a h hk).1 x
 ·intro e
  have := o_z9 (expOf k a x)
  rw [e] at this
  simp at this
def ratC (k a r x : Nat) : Rat := if r ≤ x then chP k a x / chP k a r else 0
theorem o_zg {k a w : Nat} (h : GoodS k a w) : ∃ G : Nat, 0 < G ∧ G ≤ 2 ^ 63 ∧ (∀ x, x ≤ 15 → Gr G 1 (chP k a x)) ∧ ∀ r x, x ≤ 15 → Gr G 1 (ratC k a r x) := by
 by_cases hk : k = 1
 ·obtain ⟨G, h1, h2, h3⟩ := o_y9 h
  refine ⟨G, h1, h2, h3, fun r x hx => ?_⟩
  unfold ratC
  split
  ·rename_i hr
   have := h3 (x - r) (by omega)
   subst hk
   rw [chP, if_pos rfl] at this ⊢
   rw [chP, if_pos rfl, o_ze (gs_a h rfl).1 hr]
   exact this
  ·exact Gr.zero _ _
 ·refine ⟨2 ^ 63, by decide, Nat.le_refl _, fun x hx => ?_, fun r x hx => ?_⟩
  ·rw [chP, if_neg hk]
   have := o_qw h hk hx
   exact o_za (by omega)
  ·unfold ratC
   split
   ·rename_i hr
    rw [chP, if_neg hk, chP, if_neg hk, o_zb (o_z8 h hk hr hx)]
    have := o_qw h hk hx
    exact o_za (by omega)
   ·exact Gr.zero _ _
theorem o_zh {G : Nat} (hG : 0 < G) {q : Rat} (h : Gr G 1 q) : 0 ≤ q ∧ q ≤ 1 := by
 have hp : (0 : Rat) < (G : Rat) := by exact_mod_cast hG
 obtain ⟨z, h1, h2⟩ := h
 refine ⟨?_, ?_⟩
 ·apply Classical.byContradiction
  intro hn
  have hz : (0 : Rat) ≤ (z : Rat) := by exact_mod_cast Nat.zero_le z
  have := Rat.mul_lt_mul_of_pos_right (Rat.not_le.1 hn) hp
  grind
 ·apply Classical.byContradiction
  intro hn
  have hz : (z : Rat) ≤ (G : Rat) := by exact_mod_cast (by omega : z ≤ G)
  have := Rat.mul_lt_mul_of_pos_right (Rat.not_le.1 hn) hp
  grind
theorem o_zi {k a w r x : Nat} (h : GoodS k a w) (hx : x ≤ 15) : RS (ratC k a r x) 1000 := by
 obtain ⟨G, h1, h2, -, h3⟩ := o_zg h
 exact (h3 r x hx).rs h1 (Nat.le_refl _) (Nat.le_trans (o_md (Nat.lt_of_le_of_lt (by omega) (by decide : 2 ^ 63 < 2 ^ 64))) (by omega))
end
section
open Go.RowKit
def RO (q : Rat) : Ob := ⟨47, [.d (natW q.num.natAbs), .d (.bool (decide (q.num < 0))), .d (natW (q.den - 1))]⟩
def SO (s : St) : Ob := ⟨64, [.d (.int .i64 s.1), .d (.int .i64 s.2.1), .d (.bool s.2.2)]⟩
theorem o_zj {G : Nat} (hG : 0 < G) {q : Rat} (h : Gr G 1 q) : 0 ≤ q.num := by
 have := (o_zh hG h).1
 exact Rat.num_nonneg.2 this
theorem o_zk {k a w : Nat} (h : GoodS k a w) (s : St) (hs : s.1 ≤ topC w) (r : Nat) (hr : r ≤ s.1) (hrt : r < topC w) : Eqn Tryz.prog o_eh [.d (.agg (stD s)), .p 0 0, .p 1 0] [PO k a w, RO (chP k a r)] (.mp 2) [PO k a w, RO (chP k a r), spO (stepQ (topC w) (ratC k a r) s)] := by
 have h15 : topC w ≤ 15 := by have := Nat.pow_le_pow_right (n := 2) (by omega) h.2.2; unfold topC; omega
 have hl := o_wx k a w
 obtain ⟨G, hG, hG63, hc1, hc2⟩ := o_zg h
 have hGs : size (1 * G) ≤ 1000 := Nat.le_trans (o_md (Nat.lt_of_le_of_lt (by omega) (by decide : 2 ^ 63 < 2 ^ 64))) (by omega)
 have hrs := o_zi (r := r) (x := s.1) h (by omega)
 have hst : stepQ (topC w) (ratC k a r) s = onQ w s (ratC k a r s.1) := rfl
 rw [hst]
 have hrc : ratC k a r s.1 = chP k a s.1 / chP k a r := by unfold ratC; rw [if_pos hr]
 have hy0 : 0 < (chP k a r).num := by
  have h1 := o_zj hG (hc1 r (by omega))
  have h2 : (chP k a r).num ≠ 0 := fun e => o_zf h (x := r) (by omega) (Rat.num_eq_zero.1 e)
  omega
 have key : ∃ x0 x1 x2 : D, Sub1 (.d (.agg [x0, x1, x2])) (.d (rD (if s.1 = topC w then 0 else chP k a s.1))) ∧ Eqn Tryz.prog o_by [.d (parD k a w), .d (.int .i64 s.1)] [] (.tup [.d (.agg [x0, x1, x2]), .d (.int .i64 0)]) [] := by
  by_cases e : s.1 = topC w
  ·refine ⟨_, _, _, by rw [if_pos e]; exact o_wk, ?_⟩
   have := o_ww h
   rw [show 2 ^ w - 1 = s.1 from e.symm] at this
   exact this
  ·refine ⟨_, _, _, by rw [if_neg e]; exact Sub1.refl _, o_wv h (by unfold topC at *; omega)⟩
 obtain ⟨x0, x1, x2, hX, hch⟩ := key
 have key2 : ∃ q : Rat, RS q 1000 ∧ onQ w s q = onQ w s (ratC k a r s.1) ∧ Eqn Tryz.prog o_ek [.d (.agg [x0, x1, x2]), .d (rD (chP k a r))] [] (.tup [.d (rD q), .d (.int .i64 0)]) [] := by
  have hyr := ((hc1 r (by omega)).rs hG (Nat.le_refl _) hGs).le (show 1000 ≤ 100000 by omega)
  by_cases e : s.1 = topC w
  ·rw [if_pos e] at hX
   refine ⟨0, ⟨by decide, by decide⟩, by unfold onQ; rw [if_pos e, if_pos e], ?_⟩
   have := o_z6 0 (chP k a r) ⟨by decide, by decide⟩ hyr (by decide) hy0
   rw [show (0 : Rat) / chP k a r = 0 by grind] at this
   exact this.sub (Subs.cons hX (Subs.refl _))
  ·rw [if_neg e] at hX
   refine ⟨ratC k a r s.1, hrs, rfl, ?_⟩
   have := o_z6 (chP k a s.1) (chP k a r) (((hc1 s.1 (by omega)).rs hG (Nat.le_refl _) hGs).le (by omega)) hyr (o_zj hG (hc1 s.1 (by omega))) hy0
   rw [← hrc] at this
   exact this.sub (Subs.cons hX (Subs.refl _))
 obtain ⟨q, hq, hqo, hdv⟩ := key2
 have hon := o_x9 h s hs q hq (rD q) (Sub1.refl _) ⟨_, _, _, rfl⟩
 rw [hqo] at hon
 refine Eqn.gen [0, 1, 5] o_ej (by simp) (by simp) (by rfl) (by decide) (by simp) (by simp [spO, PO, RO]) ?_
 simp only [o_ei, spO, stD, parD, PO, RO, rD] at hl hch hdv hon ⊢
 generalize spD rcD _ = L at *
 generalize natW (chP k a r).num.natAbs = Y0 at *
 generalize natW ((chP k a r).den - 1) = Y2 at *
 generalize decide ((chP k a r).num < 0) = Y1 at *
 generalize natW q.num.natAbs = Z0 at *
 generalize natW (q.den - 1) = Z2 at *
 generalize decide (q.num < 0) = Z1 at *
 refine A00 ?_; try with_reducible exact tt
 refine CallS.pu (hl) (R0 ?_); try with_reducible exact tt
 refine CallS.pu (hch) (R0 ?_); try with_reducible exact tt
 refine A00 ?_; try with_reducible exact tt
 refine CallS.pu (hdv) (R0 ?_); try with_reducible exact tt
 refine A00 ?_; try with_reducible exact tt
 refine CallS.nX (hon) (R0 ?_); try with_reducible exact tt
theorem o_zl (s o : St) : Eqn Tryz.prog o_en [.d (.agg (stD s)), .p 0 0] [SO o] (.mp 1) [SO o, spO [((s.1, s.2.1, s.2.2 || o.2.2), 1)]] := by
 have hsu := o_wq (s.1, s.2.1, s.2.2 || o.2.2)
 refine Eqn.gen [0, 2] o_ep (by simp) (by simp) (by rfl) (by decide) (by simp) (by simp [spO, SO]) ?_
 obtain ⟨s1, s2, s3⟩ := s
 obtain ⟨o1, o2, o3⟩ := o
 simp only [o_eo, spO, stD, SO] at hsu ⊢
 generalize spD rcD _ = L at *
 cases s3
 ·simp only [Bool.false_or] at hsu
  refine A00 ?_; try with_reducible exact tt
  refine CallS.nX (hsu) (R0 ?_); try with_reducible exact tt
 ·simp only [Bool.true_or] at hsu
  refine A00 ?_; try with_reducible exact tt
  refine CallS.nX (hsu) (R0 ?_); try with_reducible exact tt
end
section
open Go.RowKit
theorem o_zm {P P' : St → Prop} {next : St → Sp} (hn : ∀ s, P s → kyQ P' (nzQ (next s))) {l : Sp} (h : kyQ P l) : kyQ P' (timesQ next l) := by
 have key : ∀ (k out : Sp), kyQ P' out → kyQ P k → kyQ P' (k.foldl (fun out a => innQ a.2 out (atQ (next a.1))) out) := by
  intro k
  induction k with
  | nil => intro out h _; exact h
  | cons a k ih =>
   intro out ho hk
   refine ih _ (o_ys ho fun p hp => hn _ (hk a (by simp)) p ((o_vs _).mem_iff.1 hp)) fun p hp => hk p (by simp [hp])
 exact key _ _ (fun p hp => by cases hp) (o_yt h)
def clQ (top k a : Nat) (s : St) : Nat → Sp
 | 0 => [(s, 1)]
 | r + 1 => timesQ (stepQ top (ratC k a r)) (clQ top k a s r)
def fullQ (f : Bool) (s : St) : Sp := [((s.1, s.2.1, s.2.2 || f), 1)]
def mgQ (top k a : Nat) (s o : St) : Sp := timesQ (fullQ o.2.2) (clQ top k a s o.1)
theorem o_zn {top k a : Nat} (s : St) : ∀ r, Uq (clQ top k a s r)
 | 0 => by simp [clQ, Uq]
 | r + 1 => o_w1 _ _
theorem o_zo {top k a : Nat} (s : St) : ∀ r, exQ (fun _ => 1) (clQ top k a s r) = 1
 | 0 => by simp only [clQ, exQ]; grind
 | r + 1 => by
  show exQ (fun _ => 1) (timesQ _ (clQ top k a s r)) = 1
  rw [o_w2]
  have : (fun t => exQ (fun _ => (1 : Rat)) (stepQ top (ratC k a r) t)) = fun _ => 1 := by
   funext t
   rw [(o_w5 (fun _ => 1) top _ t).2]
   split
   ·rfl
   ·grind
  rw [this, o_zo s r]
theorem o_zp {top k a : Nat} (s : St) (r : Nat) : nzQ (clQ top k a s r) ≠ [] := by
 intro h
 have h2 := o_zo (top := top) (k := k) (a := a) s r
 have h3 := o_vm (fun _ => (1 : Rat)) (clQ top k a s r)
 rw [show (clQ top k a s r).filter (fun p => decide (p.2 ≠ 0)) = nzQ (clQ top k a s r) from rfl, h] at h3
 rw [h2] at h3
 exact absurd h3 (by decide)
theorem o_zq {top k a : Nat} {s : St} (hs : okQ top s) : ∀ r, kyQ (reach top s.1 r) (clQ top k a s r)
 | 0 => fun p hp => by
  simp [clQ] at hp; subst hp
  obtain ⟨a, b, f⟩ := s
  obtain ⟨h1, h2, h3⟩ := hs
  simp only at h1 h2 h3
  subst h2
  cases f with
  | false => exact .inr ⟨rfl, Nat.le_refl _, Nat.le_refl _, h1⟩
  | true => left; rw [h3 rfl]
 | r + 1 => o_yu (fun t ht => o_yv ht) (o_zq hs r)
theorem o_zr {k a w : Nat} (h : GoodS k a w) (r : Nat) : (∀ x, x < topC w → 0 ≤ ratC k a r x) ∧ (∀ x, x < topC w → ratC k a r x ≤ 1) := by
 have h15 : topC w ≤ 15 := by have := Nat.pow_le_pow_right (n := 2) (by omega) h.2.2; unfold topC; omega
 obtain ⟨G, hG, -, -, hc⟩ := o_zg h
 exact ⟨fun x hx => (o_zh hG (hc r x (by omega))).1, fun x hx => (o_zh hG (hc r x (by omega))).2⟩
theorem o_zs {k a w : Nat} (h : GoodS k a w) {s : St} (hs : okQ (topC w) s) : ∀ r, oklQ (topC w) (clQ (topC w) k a s r)
 | 0 => fun p hp => by
  simp [clQ] at hp; subst hp
  exact ⟨hs, (by decide : (0 : Rat) ≤ 1)⟩
 | r + 1 => o_wc (fun s hs => o_wd (o_zr h r).1 (o_zr h r).2 hs) (o_zs h hs r)
theorem o_zt {k a w : Nat} (h : GoodS k a w) {s : St} (hs : okQ (topC w) s) : ∀ r, r ≤ topC w → kyQ (fun t => okQ (topC w) t ∧ r ≤ t.1) (clQ (topC w) k a s r)
 | 0, _ => fun p hp => by
  simp [clQ] at hp; subst hp
  exact ⟨hs, Nat.zero_le _⟩
 | r + 1, hr => by
  have h15 : topC w ≤ 15 := by have := Nat.pow_le_pow_right (n := 2) (by omega) h.2.2; unfold topC; omega
  refine o_zm (P := fun t => okQ (topC w) t ∧ r ≤ t.1) (fun t ht p hp => ?_) (o_zt h hs r (by omega))
  have hp1 : p ∈ stepQ (topC w) (ratC k a r) t := (List.mem_filter.1 hp).1
  have hp2 : p.2 ≠ 0 := by have := (List.mem_filter.1 hp).2; simpa using this
  refine ⟨(o_wd (o_zr h r).1 (o_zr h r).2 ht.1 p hp1).1, ?_⟩
  obtain ⟨u1, u2⟩ := ht
  rcases Nat.lt_or_ge r t.1 with hlt | hge
  ·unfold stepQ at hp1
   split at hp1
   ·simp at hp1; subst hp1; exact hlt
   ·unfold eitQ at hp1
    rcases o_w7 hp1 with hp1 | rfl
    ·rcases o_w7 hp1 with hp1 | rfl
     ·cases hp1
     ·show r + 1 ≤ t.1 + 1; omega
    ·exact hlt
  ·have e : t.1 = r := by omega
   have hne : ¬ t.1 = topC w := by omega
   have hc1 : ratC k a r t.1 = 1 := by
    unfold ratC
    rw [e, if_pos (Nat.le_refl _)]
    have := o_zf h (x := r) (by omega)
    grind
   unfold stepQ at hp1
   rw [if_neg hne, hc1] at hp1
   have hne2 : ¬ (t.1 + 1, t.2) = t := fun he => by have := congrArg (fun x : St => x.1) he; simp at this
   have e2 : eitQ 1 (t.1 + 1, t.2) t = [((t.1 + 1, t.2), 1), (t, 0)] := by
    unfold eitQ addQ
    have hne3 : ¬ t = (t.1 + 1, t.2) := fun e => hne2 e.symm
    have z1 : (0 : Rat) + 1 = 1 := Rat.zero_add 1
    have z2 : (0 : Rat) + (1 - 1) = 0 := by grind
    simp only [setQ, getQ, if_neg hne3, z1, z2]
   rw [e2] at hp1
   rcases List.mem_cons.1 hp1 with rfl | hp1
   ·show r + 1 ≤ t.1 + 1; omega
   ·rcases List.mem_cons.1 hp1 with rfl | hp1
    ·exact absurd rfl hp2
    ·cases hp1
theorem o_zu {k a w G : Nat} (h : GoodS k a w) (hc : ∀ r x, x ≤ 15 → Gr G 1 (ratC k a r x)) {s : St} (hs : okQ (topC w) s) : ∀ r, r ≤ 9 → ∀ p ∈ clQ (topC w) k a s r, Gr (G ^ r) (80 ^ r) p.2
 | 0, _ => fun p hp => by
  simp [clQ] at hp; subst hp
  exact Gr.one _
 | r + 1, hn => by
  have h15 : topC w ≤ 15 := by have := Nat.pow_le_pow_right (n := 2) (by omega) h.2.2; unfold topC; omega
  have ih := o_zu h hc hs r (by omega)
  have hl := o_yx (o_zn s r) (o_zq (k := k) (a := a) hs r)
  have hA : (atQ (clQ (topC w) k a s r)).length ≤ 40 := Nat.le_trans (o_yj _) (by omega)
  have hm : ∀ p ∈ atQ (clQ (topC w) k a s r), p ∈ clQ (topC w) k a s r := fun p hp => (List.mem_filter.1 ((o_vs _).mem_iff.1 hp)).1
  have := o_yf (D := G ^ r) (E := G) (B := 80 ^ r) (J := 2) (next := stepQ (topC w) (ratC k a r)) (A := atQ (clQ (topC w) k a s r)) (fun p hp => ih p (hm p hp)) (fun p hp => ⟨o_yk (fun x hx => hc r x (by omega)) p.1 (o_zs h hs r p (hm p hp)).1.1, Nat.le_trans (o_yj _) (o_yi _ _ _)⟩) _ (Nat.le_refl _)
  rw [o_yc] at this
  intro p hp
  rw [Nat.pow_succ]
  refine (this p hp).le ?_
  rw [Nat.pow_succ, Nat.mul_comm (80 ^ r) 80]
  exact Nat.mul_le_mul_right _ (by omega)
end
section
open Go.RowKit
theorem o_zv (f : Bool) (G : Nat) (s : St) : NextOK (fullQ f) G s where
 uq := by simp [fullQ, Uq]
 nz := by simp [fullQ, nzQ]
 len := by simp [fullQ]
 gr := fun p hp => by simp [fullQ] at hp; subst hp; exact Gr.one G
theorem o_zw {k a w G : Nat} (h : GoodS k a w) (hc : ∀ r x, x ≤ 15 → Gr G 1 (ratC k a r x)) (r : Nat) (s : St) (hs : s.1 ≤ topC w) : NextOK (stepQ (topC w) (ratC k a r)) G s where
 uq := (o_w5 (fun _ => 0) _ _ s).1
 nz := o_yg s
 len := o_yi _ _ _
 gr := o_yk (fun x hx => hc r x (by
  have : topC w ≤ 15 := by have := Nat.pow_le_pow_right (n := 2) (by omega) h.2.2; unfold topC; omega
  omega)) s hs
set_option maxHeartbeats 4000000 in
theorem o_zx {k a w : Nat} (h : GoodS k a w) (s o : St) (hs : okQ (topC w) s) (ho : o.1 ≤ topC w) (h7 : o.1 ≤ 7) : Eqn Tryz.prog o_ch [.d (parD k a w), .d (.agg (stD s)), .d (.agg (stD o))] [] (.mp 0) [spO (mgQ (topC w) k a s o)] := by
 have h15 : topC w ≤ 15 := by have := Nat.pow_le_pow_right (n := 2) (by omega) h.2.2; unfold topC; omega
 obtain ⟨G, hG, hG63, -, hc⟩ := o_zg h
 have hl := o_wx k a w
 have hsu := o_wq s
 have hfin : Eqn Tryz.prog o_8v [.mp 0, .fn (.func o_en) [.p 1 0]] [spO (clQ (topC w) k a s o.1), SO o] (.mp 2) [spO (clQ (topC w) k a s o.1), SO o, spO (mgQ (topC w) k a s o)] := by
  have hl := o_yx (o_zn s o.1) (o_zq (k := k) (a := a) hs o.1)
  exact o_z2 (by decide) (fun _ => True) (clQ (topC w) k a s o.1) G (G ^ o.1) (80 ^ o.1) (o_zn s _) (fun _ _ => trivial) (o_zp s _) (Nat.le_trans (List.length_filter_le _ _) (Nat.le_trans hl (by omega))) (Nat.le_trans hl (by omega)) (Nat.pow_pos hG) (Nat.pow_pos (by decide)) (o_zu h hc hs _ (by omega)) hG (fun t _ => ⟨o_zv _ _ _, o_zl t o⟩) (o_z0 hG63 (by omega)).1
 have hro : ∀ r, r < o.1 → Eqn Tryz.prog o_8v [.mp 0, .fn (.func o_eh) [.p 1 0, .p 2 0]] [spO (clQ (topC w) k a s r), PO k a w, RO (chP k a r)] (.mp 3) [spO (clQ (topC w) k a s r), PO k a w, RO (chP k a r), spO (clQ (topC w) k a s (r + 1))] := fun r hr => by
  have hl := o_yx (o_zn s r) (o_zq (k := k) (a := a) hs r)
  exact o_z3 (by decide) (by decide) (fun t => okQ (topC w) t ∧ r ≤ t.1) (clQ (topC w) k a s r) G (G ^ r) (80 ^ r) (o_zn s _) (fun p hp => o_zt h hs r (by omega) p (List.mem_filter.1 hp).1) (o_zp s _) (Nat.le_trans (List.length_filter_le _ _) (Nat.le_trans hl (by omega))) (Nat.le_trans hl (by omega)) (Nat.pow_pos hG) (Nat.pow_pos (by decide)) (o_zu h hc hs _ (by omega)) hG (fun t ht => ⟨o_zw h hc r t ht.1.1, o_zk h t ht.1.1 r ht.2 (by omega)⟩) (o_z0 hG63 (by omega)).1
 have hch : ∀ r, r < o.1 → Eqn Tryz.prog o_by [.d (parD k a w), .d (.int .i64 r)] [] (.tup [.d (rD (chP k a r)), .d (.int .i64 0)]) [] := fun r hr => o_wv h (by unfold topC at ho; omega)
 have hd0 : clQ (topC w) k a s 0 = [(s, 1)] := rfl
 rw [← hd0] at hsu
 obtain ⟨R, hR⟩ : ∃ R, R = mgQ (topC w) k a s o := ⟨_, rfl⟩
 rw [← hR] at hfin ⊢
 obtain ⟨o1, o2, o3⟩ := o
 simp only at ho h7 hfin hro hch
 generalize topC w = W at *
 refine Eqn.gen [4] o_cj (by simp) (by simp) (by rfl) (by decide) (by simp) (by simp [spO]) ?_
 simp only [o_ci, spO, stD, parD, PO, RO, SO, rD] at hl hsu hfin hro hch ⊢
 refine A00 ?_; try with_reducible exact tt
 refine CallS.nX (hsu) (R0 ?_); try with_reducible exact tt
 refine AW.loopG (α := Nat) (fun i => setS (List.replicate 32 .junk) [(3, .p 0 0), (5, .p 2 0), (7, .mp 3), (14, .d (.int .i64 o1)), (15, .d (.int .i64 (i : Nat)))]) (fun i => [some ⟨62, [.d (.int .i64 k), .d (.int .i64 a), .d (.int .i64 w)]⟩, none, some ⟨64, [.d (.int .i64 o1), .d (.int .i64 o2), .d (.bool o3)]⟩, some ⟨1000391, (spD rcD (clQ W k a s i)).map .d⟩]) (fun i => i ≤ o1) (fun i => o1 - i) 0 ?_ (Nat.zero_le _) ?_ ?_ ?_
 ·intro i hi; simp
 ·simp
 ·simp
 rintro i hi
 simp
 by_cases hi2 : i < o1
 ·have hi3 : (i : Int) < o1 := by omega
  have ew : IntKind.i64.wrap ((i : Int) + 1) = ((i + 1 : Nat) : Int) := by rw [w64 (by omega) (by omega)]; omega
  have ht := hro i hi2
  have hci := hch i hi2
  generalize natW (chP k a i).num.natAbs = Z0 at *
  generalize natW ((chP k a i).den - 1) = Z2 at *
  generalize decide ((chP k a i).num < 0) = Z1 at *
  refine A10 (fs hi2 hi3) ?_; try with_reducible exact tt
  refine CallS.pu (hl) (R0 ?_); try with_reducible exact tt
  refine CallS.pu (hci) (R0 ?_); try with_reducible exact tt
  refine A00 ?_; try with_reducible exact tt
  refine CallS.g [3, 0, 4] (ht) (R1 ew ?_); try with_reducible exact tt
  refine A10 ew ?_; try with_reducible exact tt
  refine ⟨i + 1, 3, 5, by omega, by omega, by omega, ?_, ?_⟩
  ·simp [swT, swH, sw, Ob.sw, V.ren, V.rens]
  ·simp [swT, swH, sw, Ob.sw, V.ren, V.rens]
 ·have h2 : i = o1 := by omega
  subst h2
  refine A00 ?_; try with_reducible exact tt
  refine CallS.g [3, 2] (hfin) (R0 ?_); try with_reducible exact tt
  done
end
section
open Go.RowKit
def stsD (l : List St) : List D := l.flatMap stD
theorem o_zy (l : List St) : (stsD l).length = l.length * 3 := by
 unfold stsD
 induction l with
 | nil => rfl
 | cons s l ih => rw [List.flatMap_cons, List.length_append, ih]; simp [stD]; omega
theorem o_zz (l : List St) (i : Nat) (hi : i < l.length) : ((stsD l).drop (i * 3)).take 3 = [.int .i64 l[i].1, .int .i64 l[i].2.1, .bool l[i].2.2] := o_pc (n := 3) (f := stD) (fun _ => rfl) l i hi
theorem o_100 {k a w : Nat} (h : GoodR k a w) (l : List St) (hl : l.length ≤ 1000000) (hw : ∀ s ∈ l, WellR k a w s.1 s.2.1 s.2.2) : Eqn Tryz.prog o_ee [.d (.sl l.length (stsD l)), .fn (.func o_ce) [.p 0 0]] [PO k a w] (.d (.int .i64 (-1))) [PO k a w] := by
 refine Eqn.gen [0] o_eg (by simp) (by simp) (by rfl) (by decide) (by simp) (by simp [PO]) ?_
 have hw1 : ∀ i (hi : i < l.length), Eqn Tryz.prog o_ce [.d (.agg [.int .i64 l[i].1, .int .i64 l[i].2.1, .bool l[i].2.2]), .p 0 0] [PO k a w] (.d (.bool false)) [PO k a w] := fun i hi => o_yn h l[i] (hw _ (List.getElem_mem hi))
 have hlen := o_zy l
 have hget := o_zz l
 simp only [o_ef, PO] at hw1 ⊢
 refine A00 ?_; try with_reducible exact tt
 refine AW.loopW (α := Nat) (fun i => setS (List.replicate 19 .junk) [(0, .d (.sl l.length (stsD l))), (1, .fn (.func o_ce) [.p 0 0]), (7, .d (.int .i64 l.length)), (8, .d (.int .i64 (i : Nat)))]) (fun i => [some ⟨62, [.d (.int .i64 k), .d (.int .i64 a), .d (.int .i64 w)]⟩]) (fun i => i ≤ l.length) (fun i => l.length - i) 1 (fun _ => rfl) (by simp) 0 (Nat.zero_le _) ?_ ?_ ?_
 ·simp
 ·simp
 rintro i hi
 simp
 by_cases hi2 : i < l.length
 ·have hi3 : (i : Int) < l.length := by omega
  have ew : IntKind.i64.wrap ((i : Int) + 1) = ((i + 1 : Nat) : Int) := by rw [w64 (by omega) (by omega)]; omega
  have h1 := hw1 i hi2
  have hg := hget i hi2
  have hb6 : i * 3 + 3 ≤ l.length * 3 := by omega
  have hb7 : i * 3 < l.length * 3 := by omega
  refine A10 (fs hi2 (fs hi3 (fs hlen (fs hg (fs hb6 hb7))))) ?_; try with_reducible exact tt
  refine CallS.g [0] (h1) (R0 ?_); try with_reducible exact tt
  refine A10 ew ?_; try with_reducible exact tt
  exact ⟨i + 1, by omega, by omega, Sub1.refl _⟩
 ·have h2 : i = l.length := by omega
  subst h2
  refine A00 ?_; try with_reducible exact tt
theorem o_101 {k a w : Nat} (h : GoodR k a w) (l : List St) (hl : l.length ≤ 1000000) (hw : ∀ s ∈ l, WellR k a w s.1 s.2.1 s.2.2) : Eqn Tryz.prog o_cb [.d (.sl l.length (stsD l)), .fn (.func o_ce) [.p 0 0]] [PO k a w] (.d (.bool false)) [PO k a w] := by
 refine Eqn.gen [0] o_cd (by simp) (by simp) (by rfl) (by decide) (by simp) (by simp [PO]) ?_
 have hi := o_100 h l hl hw
 simp only [o_cc, PO] at hi ⊢
 refine A00 ?_; try with_reducible exact tt
 refine CallS.g [0] (hi) (R0 ?_); try with_reducible exact tt
theorem o_102 {k a w : Nat} (h : GoodR k a w) (l : List St) (hl : l.length ≤ 1000000) (hw : ∀ s ∈ l, WellR k a w s.1 s.2.1 s.2.2) : Eqn Tryz.prog o_8m [.d (parD k a w), .d (.sl l.length (stsD l))] [] (.d (.int .i64 0)) [] := by
 refine Eqn.pure o_8o Plain.ok ?_
 have hc := o_rs h
 have hi := o_101 h l hl hw
 simp only [o_8n, PO, parD] at hc hi ⊢
 refine A00 ?_; try with_reducible exact tt
 refine CallS.pu (hc) (R0 ?_); try with_reducible exact tt
 refine A00 ?_; try with_reducible exact tt
 refine CallS.g [0] (hi) (R0 ?_); try with_reducible exact tt
 refine A00 ?_; try with_reducible exact tt
theorem o_103 {k a w : Nat} (h : GoodR k a w) (hk : k ≠ 4) (hw4 : w ≤ 4) (l : List St) (hl : l.length ≤ 1000000) (hw : ∀ s ∈ l, WellR k a w s.1 s.2.1 s.2.2) : Eqn Tryz.prog o_8d [.d (parD k a w), .d (.sl l.length (stsD l))] [] (.d (.int .i64 0)) [] := by
 refine Eqn.pure o_8f Plain.ok ?_
 have h1 := o_102 h l hl hw
 have h2 := o_yr (a := a) hk (show w ≤ 10 by omega)
 have h16 : 2 ^ w ≤ 16 := Nat.pow_le_pow_right (n := 2) (by omega) hw4
 generalize 2 ^ w = W at *
 have e1 : IntKind.i64.wrap (4 * (W : Int)) = 4 * (W : Int) := w64 (by omega) (by omega)
 have e2 : ¬ 512 < 4 * (W : Int) := by omega
 simp only [o_8e, parD] at h1 h2 ⊢
 refine A00 ?_; try with_reducible exact tt
 refine CallS.pu (h1) (R0 ?_); try with_reducible exact tt
 refine A00 ?_; try with_reducible exact tt
 refine CallS.pu (h2) (R1 (fs e1 e2) ?_); try with_reducible exact tt
 refine A10 (fs e1 e2) ?_; try with_reducible exact tt
theorem o_104 {k a w : Nat} (h : GoodS k a w) (s o : St) (hs : okQ (topC w) s) (ho : o.1 ≤ topC w) (h7 : o.1 ≤ 7) : Eqn Tryz.prog o_91 [.d (parD k a w), .d (.agg (stD s)), .d (.agg (stD o))] [] (.mp 0) [spO (mgQ (topC w) k a s o)] := by
 have hc := o_zx h s o hs ho h7
 have hk4 : ¬ (k : Int) = 4 := by have := h.1; omega
 have hk4' : ¬ k = 4 := by have := h.1; omega
 generalize mgQ (topC w) k a s o = R at *
 refine Eqn.gen [3] o_93 (by simp) (by simp) (by rfl) (by decide) (by simp) (by simp [spO]) ?_
 simp only [o_92, spO, stD, parD] at hc ⊢
 refine A10 (fs hk4 hk4') ?_; try with_reducible exact tt
 refine CallS.nX (hc) (R0 ?_); try with_reducible exact tt
end
section
open Go.RowKit
def psum (L : Sp) (i : Nat) : Rat := (L.take i).foldl (fun x p => x + p.2) 0
end
section
open Go.RowKit
def SQ (top : Nat) (c g : Nat → Rat) (k : Nat) : Rat := if k = top then g top else c k * g (k + 1) + (1 - c k) * g k
def SnQ (top : Nat) (c : Nat → Rat) : Nat → (Nat → Rat) → Nat → Rat
 | 0, g => g
 | n + 1, g => SnQ top c n (SQ top c g)
def WQ (top k a : Nat) : Nat → (Nat → Rat) → Nat → Rat
 | 0, g => g
 | b + 1, g => WQ top k a b (SQ top (ratC k a b) g)
def plQ (g : Nat → Rat) (s : St) : Rat := g s.1
theorem o_105 (top : Nat) (c g : Nat → Rat) (s : St) : exQ (plQ g) (stepQ top c s) = plQ (SQ top c g) s := by
 rw [(o_w5 (plQ g) top c s).2]
 unfold plQ SQ
 split
 ·rename_i e; rw [e]
 ·rfl
theorem o_106 (top : Nat) (c g : Nat → Rat) (l : Sp) : exQ (plQ g) (timesQ (stepQ top c) l) = exQ (plQ (SQ top c g)) l := by
 rw [o_w2]
 congr 1
 funext s
 exact o_105 top c g s
theorem ex_eq {top : Nat} {g h : St → Rat} (hgh : ∀ s, s.1 ≤ top → g s = h s) : ∀ {l : Sp}, (∀ p ∈ l, p.1.1 ≤ top) → exQ g l = exQ h l
 | [], _ => rfl
 | p :: l, hl => by
  simp only [exQ]
  rw [hgh p.1 (hl p (by simp)), ex_eq hgh (l := l) fun q hq => hl q (by simp [hq])]
def mrgdQ (top k a : Nat) (A B : Sp) : Sp := A.foldl (fun out x => B.foldl (fun out y => innQ (x.2 * y.2) out (atQ (mgQ top k a x.1 y.1))) out) []
theorem o_107 (g : St → Rat) (top k a : Nat) (x : St × Rat) : ∀ (B out : Sp), Uq out → Uq (B.foldl (fun out y => innQ (x.2 * y.2) out (atQ (mgQ top k a x.1 y.1))) out) ∧ exQ g (B.foldl (fun out y => innQ (x.2 * y.2) out (atQ (mgQ top k a x.1 y.1))) out) = exQ g out + x.2 * exQ (fun t => exQ g (mgQ top k a x.1 t)) B
 | [], out, h => ⟨h, by simp only [List.foldl_nil, exQ]; grind⟩
 | y :: B, out, h => by
  obtain ⟨h0, h3⟩ := o_vz g (x.2 * y.2) (atQ (mgQ top k a x.1 y.1)) out h
  obtain ⟨h1, h2⟩ := o_107 g top k a x B _ h0
  refine ⟨h1, ?_⟩
  rw [List.foldl_cons, h2, h3, o_vt]
  simp only [exQ]; grind
theorem o_108 (g : St → Rat) (top k a : Nat) (B : Sp) : ∀ (A out : Sp), Uq out → Uq (A.foldl (fun out x => B.foldl (fun out y => innQ (x.2 * y.2) out (atQ (mgQ top k a x.1 y.1))) out) out) ∧ exQ g (A.foldl (fun out x => B.foldl (fun out y => innQ (x.2 * y.2) out (atQ (mgQ top k a x.1 y.1))) out) out) = exQ g out + exQ (fun s => exQ (fun t => exQ g (mgQ top k a s t)) B) A
 | [], out, h => ⟨h, by simp only [List.foldl_nil, exQ]; grind⟩
 | x :: A, out, h => by
  obtain ⟨h0, h3⟩ := o_107 g top k a x B out h
  obtain ⟨h1, h2⟩ := o_108 g top k a B A _ h0
  refine ⟨h1, ?_⟩
  rw [List.foldl_cons, h2, h3]
  simp only [exQ]; grind
end
section
open Go.RowKit
def topI (top : Nat) (k : Nat) : Rat := if k = top then 1 else 0
def fulI (s : St) : Rat := if s.2.2 then 1 else 0
abbrev ofZ (top : Nat) (c : Nat → Rat) (n : Nat) : Sp := ofQ (stepQ top c) (0, 0, false) n
def lostQ (top : Nat) (c : Nat → Rat) : Nat → Rat
 | 0 => 0
 | n + 1 => lostQ top c n + exQ (plQ (topI top)) (ofZ top c n)
structure ValOK (top : Nat) (c V : Nat → Rat) : Prop where
 v0 : V 0 = 0
 step : ∀ k, k < top → c k * (V (k + 1) - V k) = 1
 c0 : ∀ k, k < top → 0 ≤ c k
 c1 : ∀ k, k < top → c k ≤ 1
section
variable {top : Nat} {c V : Nat → Rat}
theorem okz (top : Nat) : okQ top (0, 0, false) := ⟨Nat.zero_le _, rfl, by simp⟩
theorem o_109 (h : ValOK top c V) (n : Nat) : oklQ top (ofZ top c n) := o_we h.c0 h.c1 (okz top) n
theorem o_10a (n : Nat) : ofZ top c (n + 1) = timesQ (stepQ top c) (ofZ top c n) := rfl
theorem o_10b (g h : St → Rat) : ∀ l : Sp, exQ (fun t => g t - h t) l = exQ g l - exQ h l
 | [] => by simp only [exQ]; grind
 | p :: l => by simp only [exQ, o_10b g h l]; grind
theorem o_10c (g h : St → Rat) : ∀ l : Sp, exQ (fun t => g t + h t) l = exQ g l + exQ h l
 | [] => by simp only [exQ]; grind
 | p :: l => by simp only [exQ, o_10c g h l]; grind
theorem o_10d (h : ValOK top c V) (k : Nat) (hk : k ≤ top) : SQ top c V k = V k + 1 - topI top k := by
 unfold SQ topI
 by_cases e : k = top
 ·rw [if_pos e, if_pos e, e]; grind
 ·rw [if_neg e, if_neg e]
  have := h.step k (by omega)
  grind
theorem o_10e (h : ValOK top c V) (n : Nat) : exQ (plQ V) (ofZ top c (n + 1)) = exQ (plQ V) (ofZ top c n) + 1 - exQ (plQ (topI top)) (ofZ top c n) := by
 have h1 := o_wg (top := top) (c := c) (0, 0, false) n
 rw [o_10a, o_106]
 have e : exQ (plQ (SQ top c V)) (ofZ top c n) = exQ (fun t => (plQ V t + 1) - plQ (topI top) t) (ofZ top c n) :=
  ex_eq (top := top) (fun s hs => o_10d h s.1 hs) fun p hp => (o_109 h n p hp).1.1
 rw [e, o_10b (fun t => plQ V t + 1), o_10c (plQ V) (fun _ => 1), h1]
theorem o_10f (h : ValOK top c V) : ∀ n : Nat, exQ (plQ V) (ofZ top c n) + lostQ top c n = (n : Rat)
 | 0 => by
  have e : exQ (plQ V) (ofZ top c 0) = 1 * V 0 + 0 := rfl
  rw [e, h.v0, lostQ]
  simp
  grind
 | n + 1 => by
  have ih := o_10f h n
  have e : ((n + 1 : Nat) : Rat) = (n : Rat) + 1 := by simp
  rw [o_10e h n, lostQ, e, ← ih]
  grind
theorem o_10g (h : ValOK top c V) (n : Nat) : 0 ≤ exQ (plQ (topI top)) (ofZ top c n) := by
 have := o_w6 (g := fun _ => 0) (h := plQ (topI top)) (top := top) (fun s _ => by unfold plQ topI; split <;> decide) (o_109 h n)
 rwa [show exQ (fun _ => (0 : Rat)) (ofZ top c n) = 0 from by
  generalize ofZ top c n = l
  induction l with
  | nil => rfl
  | cons p l ih => simp only [exQ, ih]; grind] at this
theorem o_10h (h : ValOK top c V) : ∀ n, 0 ≤ lostQ top c n
 | 0 => Rat.le_refl
 | n + 1 => by
  have h1 := o_10h h n
  have h2 := o_10g h n
  rw [lostQ]; grind
theorem o_10i (h : ValOK top c V) (n : Nat) : exQ (plQ (topI top)) (ofZ top c n) ≤ exQ (plQ (topI top)) (ofZ top c (n + 1)) := by
 refine o_wf h.c0 h.c1 (okz top) n _ fun t ht => ?_
 unfold plQ topI
 by_cases e : t.1 = top
 ·rw [if_pos e, if_pos e]; exact Rat.le_refl
 ·rw [if_neg e, if_neg e]
  have h0 := h.c0 t.1 (by have := ht.1; omega)
  simp only
  split
  ·grind
  ·grind
theorem o_10j (h : ValOK top c V) (n : Nat) : exQ fulI (ofZ top c (n + 1)) = exQ (plQ (topI top)) (ofZ top c n) := by
 rw [o_10a, o_w2]
 have key : ∀ l : Sp, oklQ top l → exQ (fun s => exQ fulI (stepQ top c s)) l = exQ (plQ (topI top)) l := by
  intro l
  induction l with
  | nil => intro _; rfl
  | cons p l ih =>
   intro hl
   have hp := (hl p (by simp)).1
   simp only [exQ]
   rw [ih fun q hq => hl q (by simp [hq]), (o_w5 fulI top c p.1).2]
   obtain ⟨h1, h2, h3⟩ := hp
   unfold plQ topI fulI
   by_cases e : p.1.1 = top
   ·rw [if_pos e, if_pos e]; simp
   ·rw [if_neg e, if_neg e]
    have hf : p.1.2.2 = false := by
     cases hb : p.1.2.2 with
     | false => rfl
     | true => exact absurd (h3 hb) e
    simp only [hf, Bool.false_eq_true, if_false]
    grind
 exact key _ (o_109 h n)
theorem o_10k : exQ fulI (ofZ top c 0) = 0 := by
 have e : exQ fulI (ofZ top c 0) = 1 * 0 + 0 := rfl
 rw [e]; grind
theorem o_10l (h : ValOK top c V) (n : Nat) : exQ fulI (ofZ top c n) ≤ lostQ top c n ∧ (exQ fulI (ofZ top c n) = 0 ↔ lostQ top c n = 0) := by
 cases n with
 | zero => rw [o_10k, lostQ]; exact ⟨Rat.le_refl, Iff.rfl⟩
 | succ n =>
  rw [o_10j h n, lostQ]
  have h1 := o_10h h n
  have h2 := o_10g h n
  have key : ∀ n, exQ (plQ (topI top)) (ofZ top c n) = 0 → lostQ top c n = 0 := by
   intro n
   induction n with
   | zero => intro _; rfl
   | succ n ih =>
    intro hz
    have h3 := o_10i h n
    have h4 := o_10g h n
    have h5 : exQ (plQ (topI top)) (ofZ top c n) = 0 := by grind
    rw [lostQ, ih h5, h5]; grind
  refine ⟨by grind, fun hz => ?_, fun hz => ?_⟩
  ·rw [key n hz, hz]; grind
  ·grind
end
end
section
open Go.RowKit
theorem o_10m (g : St → Rat) (p : St × Rat) : ∀ l : Sp, exQ g (l ++ [p]) = exQ g l + p.2 * g p.1
 | [] => by simp [exQ, Rat.add_zero, Rat.zero_add]
 | x :: l => by
  rw [List.cons_append, exQ, exQ, o_10m g p l, Rat.add_assoc]
def sumQ (g : St → Rat) (L : Sp) (i : Nat) : Rat := exQ g (L.take i)
theorem o_10n (g : St → Rat) (L : Sp) (i : Nat) (h : i < L.length) : sumQ g L (i + 1) = sumQ g L i + L[i].2 * g L[i].1 := by
 unfold sumQ
 rw [List.take_add_one, List.getElem?_eq_getElem h, Option.toList, o_10m]
theorem o_10o (g : St → Rat) (L : Sp) : sumQ g L L.length = exQ g L := by unfold sumQ; rw [List.take_length]

theorem o_10p : rD 0 = .agg [natW 0, .bool false, natW 0] := by rfl
theorem sub_zero : Sub1 (.d (.agg [.nilsl, .bool false, .nilsl])) (.d (rD 0)) := by
 rw [o_10p]
 exact Sub1.aggd (Subs.cons Sub1.nil (Subs.cons (Sub1.refl _) (Subs.cons Sub1.nil (Subs.refl _))))
theorem o_10q (b : Bool) : Eqn Tryz.prog o_9s [.d (.bool b)] [] (.d (rD (if b then 1 else 0))) [] := by
 refine Eqn.pure o_9u Plain.ok ?_
 have ho := rof1
 simp only [o_9t]
 obtain ⟨O1, O2, O3, hO⟩ : ∃ O1 O2 O3, rD 1 = .agg [O1, O2, O3] := ⟨_, _, _, rfl⟩
 cases b with
 | true =>
  simp only [if_true, hO] at ho ⊢
  refine A00 ?_; try with_reducible exact tt
  refine CallS.pu (ho) (R0 ?_); try with_reducible exact tt
 | false =>
  rw [if_neg (by decide)]
  refine A00 ?_; try with_reducible exact tt
  exact sub_zero
theorem o_10r (s : St) (v : Rat) : Eqn Tryz.prog o_9j [.d (.agg (stD s)), .d (rD v)] [] (.d (rD v)) [] := by
 refine Eqn.pure o_9l Plain.ok ?_
 simp only [o_9k, stD, rD]
 refine A00 ?_; try with_reducible exact tt
theorem o_10s (s : St) (v : Rat) (hv : RS v 100000) : Eqn Tryz.prog o_9m [.d (.agg (stD s)), .d (rD v)] [] (.d (rD (v * v))) [] := by
 refine Eqn.pure o_9o Plain.ok ?_
 have hm := o_oi v v hv hv
 obtain ⟨V1, V2, V3, hV⟩ : ∃ V1 V2 V3, rD v = .agg [V1, V2, V3] := ⟨_, _, _, rfl⟩
 obtain ⟨O1, O2, O3, hO⟩ : ∃ O1 O2 O3, rD (v * v) = .agg [O1, O2, O3] := ⟨_, _, _, rfl⟩
 rw [hV, hO] at hm
 simp only [o_9n, stD, hV, hO]
 refine A00 ?_; try with_reducible exact tt
 refine CallS.pu (hm) (R0 ?_); try with_reducible exact tt
theorem o_10t (s : St) (v : Rat) : Eqn Tryz.prog o_9p [.d (.agg (stD s)), .d (rD v)] [] (.d (rD (if s.2.2 then 1 else 0))) [] := by
 refine Eqn.pure o_9r Plain.ok ?_
 have hm := o_10q s.2.2
 obtain ⟨V1, V2, V3, hV⟩ : ∃ V1 V2 V3, rD v = .agg [V1, V2, V3] := ⟨_, _, _, rfl⟩
 obtain ⟨O1, O2, O3, hO⟩ : ∃ O1 O2 O3, rD (if s.2.2 then 1 else 0) = .agg [O1, O2, O3] := ⟨_, _, _, rfl⟩
 rw [hO] at hm
 simp only [o_9q, stD, hV, hO]
 refine A00 ?_; try with_reducible exact tt
 refine CallS.pu (hm) (R0 ?_); try with_reducible exact tt
end
section
open Go.RowKit
set_option maxHeartbeats 4000000 in
theorem o_10u {f : FuncId} {W : St → Rat} {k a w : Nat} (h : GoodR k a w) (L : Sp) (hl : L.length ≤ 1000000) (hw : ∀ p ∈ L, WellR k a w p.1.1 p.1.2.1 p.1.2.2) (hf : ∀ p ∈ L, Eqn Tryz.prog f [.d (.agg (stD p.1)), .d (rD (valR k a w p.1.1 p.1.2.1))] [] (.d (rD (W p.1))) []) (hrs : ∀ p ∈ L, RS p.2 100000 ∧ RS (W p.1) 100000 ∧ RS (p.2 * W p.1) 100000) (hsum : ∀ i, i ≤ L.length → RS (sumQ W L i) 100000) :
  Eqn Tryz.prog o_9g [.d (parD k a w), .d (.sl L.length (spD rcD L)), .fn (.func f) []] [] (.tup [.d (rD (exQ W L)), .d (.int .i64 0)]) [] := by
 refine Eqn.pure o_9i (o_ki _ _) ?_
 have hch := o_rs h
 have hLl := o_vb rcD (fun _ => rfl) L
 have hget := o_yl L
 have hz : rcD (sumQ W L 0) = [natW 0, .bool false, natW 0] := by rfl
 rw [← o_10o W L]
 simp only [o_9h, parD] at hch ⊢
 refine A00 ?_; try with_reducible exact tt
 refine CallS.pu (hch) (R0 ?_); try with_reducible exact tt
 refine A00 ?_; try with_reducible exact tt
 refine AW.loopW (α := Nat) (fun i => setS (List.replicate 49 .junk) [(2, .fn (.func f) []), (3, .p 0 0), (6, .p 1 0), (9, .p 2 0), (20, .d (.sl L.length (spD rcD L))), (21, .d (.int .i64 L.length)), (22, .d (.int .i64 (i : Nat)))]) (fun i => [some ⟨62, [.d (.int .i64 k), .d (.int .i64 a), .d (.int .i64 w)]⟩, some ⟨47, [.d .nilsl, .d (.bool false), .d .nilsl]⟩, some ⟨47, (rcD (sumQ W L i)).map .d⟩]) (fun i => i ≤ L.length) (fun i => L.length - i) 3 (fun _ => rfl) (Nat.zero_le _) 0 (Nat.zero_le _) ?_ ?_ ?_
 ·simp
 ·simp [hz]
  exact Subs.cons Sub1.nil (Subs.cons (Sub1.refl _) (Subs.cons Sub1.nil (Subs.refl _)))
 rintro i hi
 simp
 by_cases hi2 : i < L.length
 ·have hi3 : (i : Int) < L.length := by omega
  have ew : IntKind.i64.wrap ((i : Int) + 1) = ((i + 1 : Nat) : Int) := by rw [w64 (by omega) (by omega)]; omega
  obtain ⟨s1, s2, s3, q, N1, N2, N3, hp, hN, hg⟩ := hget i hi2
  have hwi := hw _ (List.getElem_mem hi2)
  have hri := hrs _ (List.getElem_mem hi2)
  have hfi := hf _ (List.getElem_mem hi2)
  have hnx := o_10n W L i hi2
  have hsi := hsum i hi
  rw [hp] at hwi hri hfi hnx
  simp only at hwi hri hfi hnx
  have hv := o_sd h hwi
  have hm := o_oi q (W (s1, s2, s3)) hri.1 hri.2.1
  have had := o_oj (sumQ W L i) (q * W (s1, s2, s3)) hsi hri.2.2
  rw [← hnx] at had
  have hb6 : i * 6 + 6 ≤ L.length * 6 := by omega
  have hb7 : i * 6 < L.length * 6 := by omega
  simp only [parD, tsD, stD, o_wj] at hv hm had hfi
  obtain ⟨A1, A2, A3, hA⟩ : ∃ A1 A2 A3, rcD (sumQ W L i) = [A1, A2, A3] := ⟨_, _, _, rfl⟩
  obtain ⟨B1, B2, B3, hB⟩ : ∃ B1 B2 B3, rcD (sumQ W L (i + 1)) = [B1, B2, B3] := ⟨_, _, _, rfl⟩
  obtain ⟨V1, V2, V3, hV⟩ : ∃ V1 V2 V3, rcD (valR k a w s1 s2) = [V1, V2, V3] := ⟨_, _, _, rfl⟩
  obtain ⟨W1, W2, W3, hW⟩ : ∃ W1 W2 W3, rcD (W (s1, s2, s3)) = [W1, W2, W3] := ⟨_, _, _, rfl⟩
  obtain ⟨M1, M2, M3, hM⟩ : ∃ M1 M2 M3, rcD (q * W (s1, s2, s3)) = [M1, M2, M3] := ⟨_, _, _, rfl⟩
  rw [hV] at hv hfi
  rw [hW] at hfi hm
  rw [hM, hN] at hm
  rw [hA, hB, hM] at had
  rw [hA]
  refine A10 (fs hi2 (fs hi3 (fs hLl (fs hg (fs hb6 hb7))))) ?_; try with_reducible exact tt
  refine CallS.pu (hv) (R0 ?_); try with_reducible exact tt
  refine A00 ?_; try with_reducible exact tt
  refine CallS.pu (hfi) (R0 ?_); try with_reducible exact tt
  refine CallS.pu (hm) (R0 ?_); try with_reducible exact tt
  refine CallS.pu (had) (R0 ?_); try with_reducible exact tt
  refine A10 ew ?_; try with_reducible exact tt
  refine ⟨i + 1, by omega, by omega, ?_, ?_⟩
  ·exact Sub1.int (by omega)
  ·rw [hB]; exact Subs.refl _
 ·have h2 : i = L.length := by omega
  subst h2
  obtain ⟨A1, A2, A3, hA⟩ : ∃ A1 A2 A3, rcD (sumQ W L L.length) = [A1, A2, A3] := ⟨_, _, _, rfl⟩
  rw [o_wj, hA]
  refine A00 ?_; try with_reducible exact tt
end
section
open Go.RowKit
def vlQ (k a w : Nat) (s : St) : Rat := valR k a w s.1 s.2.1
def vvQ (k a w : Nat) (s : St) : Rat := vlQ k a w s * vlQ k a w s
structure TailRS (k a w : Nat) (L : Sp) : Prop where
 len : L.length ≤ 1000000
 well : ∀ p ∈ L, WellR k a w p.1.1 p.1.2.1 p.1.2.2
 p : ∀ p ∈ L, RS p.2 100000 ∧ RS (vlQ k a w p.1) 100000 ∧ RS (vvQ k a w p.1) 100000 ∧ RS (p.2 * vlQ k a w p.1) 100000 ∧ RS (p.2 * vvQ k a w p.1) 100000
 s : ∀ i, i ≤ L.length → RS (sumQ (vlQ k a w) L i) 1000 ∧ RS (sumQ (vvQ k a w) L i) 1000 ∧ RS (sumQ fulI L i) 1000
 m : RS (exQ (vlQ k a w) L * exQ (vlQ k a w) L) 1000
def varQ (k a w : Nat) (L : Sp) : Rat := exQ (vvQ k a w) L - exQ (vlQ k a w) L * exQ (vlQ k a w) L
def stD3 (k a w : Nat) (L : Sp) : List D := rcD (exQ (vlQ k a w) L) ++ (rcD (varQ k a w L) ++ rcD (exQ fulI L))
theorem o_10v (s : St) : RS (fulI s) 100000 := by
 unfold fulI
 split
 ·exact o_wn.le (by omega)
 ·exact ⟨by decide, by decide⟩
set_option maxHeartbeats 4000000 in
theorem o_10w {k a w : Nat} (h : GoodR k a w) (L : Sp) (hr : TailRS k a w L) :
  Eqn Tryz.prog o_74 [.d (parD k a w), .d (.sl L.length (spD rcD L))] [] (.tup [.d (.agg (stD3 k a w L)), .d (.int .i64 0)]) [] := by
 refine Eqn.pure o_76 (o_ki _ _) ?_
 have h1 := o_10u (W := vlQ k a w) h L hr.len hr.well (fun p _ => o_10r p.1 _) (fun p hp => ⟨(hr.p p hp).1, (hr.p p hp).2.1, (hr.p p hp).2.2.2.1⟩) (fun i hi => (hr.s i hi).1.le (by omega))
 have h2 := o_10u (W := vvQ k a w) h L hr.len hr.well (fun p hp => o_10s p.1 _ (hr.p p hp).2.1) (fun p hp => ⟨(hr.p p hp).1, (hr.p p hp).2.2.1, (hr.p p hp).2.2.2.2⟩) (fun i hi => (hr.s i hi).2.1.le (by omega))
 have h3 := o_10u (W := fulI) h L hr.len hr.well (fun p hp => o_10t p.1 _) (fun p hp => ⟨(hr.p p hp).1, o_10v _, by
   unfold fulI
   split
   ·rw [Rat.mul_one]; exact (hr.p p hp).1
   ·rw [Rat.mul_zero]; exact ⟨by decide, by decide⟩⟩) (fun i hi => (hr.s i hi).2.2.le (by omega))
 have s1 : RS (exQ (vlQ k a w) L) 100000 := by rw [← o_10o]; exact (hr.s _ (Nat.le_refl _)).1.le (by omega)
 have s2 : RS (exQ (vvQ k a w) L) 100000 := by rw [← o_10o]; exact (hr.s _ (Nat.le_refl _)).2.1.le (by omega)
 have hm := o_oi _ _ s1 s1
 have hs := o_ok _ _ s2 (hr.m.le (by omega))
 rw [show exQ (vvQ k a w) L - exQ (vlQ k a w) L * exQ (vlQ k a w) L = varQ k a w L from rfl] at hs
 have hLl := o_vb rcD (fun _ => rfl) L
 simp only [o_75, parD, stD3, o_wj] at h1 h2 h3 hm hs ⊢
 generalize exQ (vlQ k a w) L = M at *
 generalize exQ (vvQ k a w) L = M2 at *
 generalize exQ fulI L = F at *
 generalize varQ k a w L = V at *
 obtain ⟨A1, A2, A3, hA⟩ : ∃ A1 A2 A3, rcD M = [A1, A2, A3] := ⟨_, _, _, rfl⟩
 obtain ⟨B1, B2, B3, hB⟩ : ∃ B1 B2 B3, rcD M2 = [B1, B2, B3] := ⟨_, _, _, rfl⟩
 obtain ⟨C1, C2, C3, hC⟩ : ∃ C1 C2 C3, rcD F = [C1, C2, C3] := ⟨_, _, _, rfl⟩
 obtain ⟨V1, V2, V3, hV⟩ : ∃ V1 V2 V3, rcD V = [V1, V2, V3] := ⟨_, _, _, rfl⟩
 obtain ⟨S1, S2, S3, hS⟩ : ∃ S1 S2 S3, rcD (M * M) = [S1, S2, S3] := ⟨_, _, _, rfl⟩
 rw [hA] at h1 hm ⊢
 rw [hB] at h2 hs
 rw [hC] at h3 ⊢
 rw [hV] at hs ⊢
 rw [hS] at hm hs
 generalize spD rcD L = LL at *
 refine A00 ?_; try with_reducible exact tt
 refine CallS.pu (h1) (R0 ?_); try with_reducible exact tt
 refine A00 ?_; try with_reducible exact tt
 refine CallS.pu (h2) (R0 ?_); try with_reducible exact tt
 refine A00 ?_; try with_reducible exact tt
 refine CallS.pu (h3) (R0 ?_); try with_reducible exact tt
 refine A00 ?_; try with_reducible exact tt
 refine CallS.pu (hm) (R0 ?_); try with_reducible exact tt
 refine CallS.pu (hs) (R0 ?_); try with_reducible exact tt
end
section
open Go.RowKit
theorem o_10x {top k i : Nat} {l : Sp} (hu : Uq l) (h : kyQ (reach top k i) l) : l.length ≤ top + 2 := by
 have h1 : (l.map (·.1)).length ≤ ((top, 0, true) :: (List.range (top + 1)).map fun j => (j, 0, false) : List St).length := by
  refine List.Nodup.length_le_of_subset hu fun t ht => ?_
  obtain ⟨p, hp, rfl⟩ := List.mem_map.1 ht
  rcases h p hp with e | ⟨e, e1, e2, e3⟩
  ·rw [e]; simp
  ·refine List.mem_cons_of_mem _ (List.mem_map.2 ⟨p.1.1, List.mem_range.2 (by omega), ?_⟩)
   rw [← e]
 simpa using h1
theorem o_10y {G top : Nat} {c : Nat → Rat} (h7 : top ≤ 15) (h0 : ∀ k, k < top → 0 ≤ c k) (h1 : ∀ k, k < top → c k ≤ 1) (hc : ∀ x, x < top → Gr G 1 (c x)) {s : St} (hs : okQ top s) : ∀ n, ∀ p ∈ ofQ (stepQ top c) s n, Gr (G ^ n) (80 ^ n) p.2
 | 0 => fun p hp => by
  simp [ofQ] at hp; subst hp
  exact Gr.one _
 | n + 1 => by
  have ih := o_10y h7 h0 h1 hc hs n
  have hl := o_10x (o_w3 _ s n) (o_yw (c := c) hs n)
  have hA : (atQ (ofQ (stepQ top c) s n)).length ≤ 40 := Nat.le_trans (o_yj _) (by omega)
  have hm : ∀ p ∈ atQ (ofQ (stepQ top c) s n), p ∈ ofQ (stepQ top c) s n := fun p hp => (List.mem_filter.1 ((o_vs _).mem_iff.1 hp)).1
  have := o_yf (D := G ^ n) (E := G) (B := 80 ^ n) (J := 2) (next := stepQ top c) (A := atQ (ofQ (stepQ top c) s n)) (fun p hp => ih p (hm p hp)) (fun p hp => ⟨o_yk hc p.1 (o_we h0 h1 hs n p (hm p hp)).1.1, Nat.le_trans (o_yj _) (o_yi _ _ _)⟩) _ (Nat.le_refl _)
  rw [o_yc] at this
  intro p hp
  rw [Nat.pow_succ]
  refine (this p hp).le ?_
  rw [Nat.pow_succ, Nat.mul_comm (80 ^ n) 80]
  exact Nat.mul_le_mul_right _ (by omega)
theorem o_10z {G n : Nat} (hG : G ≤ 2 ^ 63) (hn : n ≤ 100) : size (80 * 80 ^ n * (G ^ n * G)) ≤ 100000 ∧ size (80 ^ n * G ^ n) ≤ 100000 := by
 have h1 : size G ≤ 1 := o_md (Nat.lt_of_le_of_lt hG (by decide))
 have h2 : size 80 ≤ 1 := o_md (by decide)
 have a1 := o_yz 80 h2 n
 have a2 := o_yz G h1 n
 have a3 := o_o4 (80 * 80 ^ n) (G ^ n * G)
 have a4 := o_o4 80 (80 ^ n)
 have a5 := o_o4 (G ^ n) G
 have a6 := o_o4 (80 ^ n) (G ^ n)
 omega
set_option maxHeartbeats 4000000 in
theorem o_110 {k a w : Nat} (h : GoodS k a w) (w3 : w ≤ 4) (s : St) (hw : WellR k a w s.1 s.2.1 s.2.2) (hs : okQ (topC w) s) (n : Nat) (hn : n ≤ 15) : Eqn Tryz.prog o_6s [.d (parD k a w), .d (.agg (stD s)), .d (.int .i64 n)] [] (.tup [.d (.sl (atQ (dstQ k a w s n)).length (spD rcD (atQ (dstQ k a w s n)))), .d (.int .i64 0)]) [] := by
 refine Eqn.pure o_6u Plain.ok ?_
 have hk4 : k ≠ 4 := by have := h.1; omega
 have w4 := h.2.2
 have hg : GoodR k a w := .inr ⟨hk4, o_rb h⟩
 have h15 : topC w ≤ 15 := by have := Nat.pow_le_pow_right (n := 2) (by omega) h.2.2; unfold topC; omega
 have hwr := o_yq hg s hw
 have hst := o_yr (a := a) hk4 (show w ≤ 10 by omega)
 have hsu := o_wq s
 obtain ⟨c0, c1⟩ := o_z1 h
 obtain ⟨G, hG, hG63, hc⟩ := o_y9 h
 have h16 : 2 ^ w ≤ 16 := Nat.pow_le_pow_right (n := 2) (by omega) w3
 have h7 : topC w ≤ 15 := by unfold topC; omega
 have hti : ∀ i, i ≤ 14 → Eqn Tryz.prog o_8v [.mp 0, .fn (.func o_8y) [.p 1 0]] [spO (dstQ k a w s i), PO k a w] (.mp 2) [spO (dstQ k a w s i), PO k a w, spO (dstQ k a w s (i + 1))] := fun i hi => by
  have hl := o_10x (o_w3 _ s i) (o_yw (c := chP k a) hs i)
  exact o_ym h (dstQ k a w s i) G (G ^ i) (80 ^ i) (o_w3 _ s i) (o_we c0 c1 hs i) (o_yy s i) (Nat.le_trans (List.length_filter_le _ _) (Nat.le_trans hl (by omega))) (Nat.le_trans hl (by omega)) (Nat.pow_pos hG) (Nat.pow_pos (by decide)) (o_10y h7 c0 c1 (fun x hx => hc x (by omega)) hs i) hG hc (o_10z hG63 (by omega)).1
 have hat : Eqn Tryz.prog o_8j [.mp 0] [spO (dstQ k a w s n)] (.d (.sl (atQ (dstQ k a w s n)).length (spD rcD (atQ (dstQ k a w s n))))) [spO (dstQ k a w s n)] := by
  have hl := o_10x (o_w3 _ s n) (o_yw (c := chP k a) hs n)
  exact o_y7 _ (o_w3 _ s n) (o_yy s n) (Nat.le_trans (List.length_filter_le _ _) (Nat.le_trans hl (by omega))) (Nat.le_trans hl (by omega)) (fun p hp => (o_10y h7 c0 c1 (fun x hx => hc x (by omega)) hs n p hp).rs (Nat.pow_pos hG) (Nat.pow_pos (by decide)) (o_10z hG63 (by omega)).2)
 have hd0 : dstQ k a w s 0 = [(s, 1)] := rfl
 rw [← hd0] at hsu
 have e1 : IntKind.i64.wrap ((n : Int) + 1) = ((n + 1 : Nat) : Int) := by rw [w64 (by omega) (by omega)]; omega
 obtain ⟨W, hW⟩ : ∃ W, W = 2 ^ w := ⟨_, rfl⟩
 rw [← hW] at hst h16
 have hmul : (n + 1) * W ≤ 16 * 16 := Nat.mul_le_mul (by omega) h16
 have e2 : IntKind.i64.wrap (((n + 1 : Nat) : Int) * (W : Int)) = (((n + 1) * W : Nat) : Int) := by rw [← Int.natCast_mul]; exact w64 (by omega) (by omega)
 obtain ⟨M, hM⟩ : ∃ M, M = (n + 1) * W := ⟨_, rfl⟩
 rw [← hM] at e2 hmul
 obtain ⟨n1, hn1⟩ : ∃ n1, n1 = n + 1 := ⟨_, rfl⟩
 rw [← hn1] at e1 e2
 have g1 : ¬ (n : Int) < 0 := by omega
 have g2 : ¬ (64 : Int) < n := by omega
 have g3 : ¬ (512 : Int) < M := by omega
 have g4 : ¬ 512 < M := by omega
 have g5 : ¬ 64 < n := by omega
 generalize hA : atQ (dstQ k a w s n) = A at *
 simp only [o_6t, stD, parD, spO, PO] at hwr hst hsu hti hat ⊢
 refine A00 ?_; try with_reducible exact tt
 refine CallS.pf 2 3 ⟨64, [.d (.int .i64 s.1), .d (.int .i64 s.2.1), .d (.bool s.2.2)]⟩ [.int .i64 s.1, .int .i64 s.2.1, .bool s.2.2] (hwr) (by first | rfl | (simp [g1, g2, g5]; done)) (R1 (fs g1 (fs g2 g5)) ?_); try with_reducible exact tt
 refine A10 (fs g1 (fs g2 (fs g5 e1))) ?_; try with_reducible exact tt
 refine CallS.pu (hst) (R1 (fs e2 (fs g3 g4)) ?_); try with_reducible exact tt
 refine A10 (fs e2 (fs g3 g4)) ?_; try with_reducible exact tt
 refine CallS.nX (hsu) (R0 ?_); try with_reducible exact tt
 refine AW.loopG (α := Nat) (fun i => setS (List.replicate 43 .junk) [(3, .p 0 0), (9, .mp 3), (34, .d (.int .i64 n)), (35, .d (.int .i64 (i : Nat)))]) (fun i => [some ⟨62, [.d (.int .i64 k), .d (.int .i64 a), .d (.int .i64 w)]⟩, none, none, some ⟨1000391, (spD rcD (dstQ k a w s i)).map .d⟩]) (fun i => i ≤ n) (fun i => n - i) 0 ?_ (Nat.zero_le _) ?_ ?_ ?_
 ·intro i hi; simp
 ·simp
 ·simp
 rintro i hi
 simp
 by_cases hi2 : i < n
 ·have hi3 : (i : Int) < n := by omega
  have ew : IntKind.i64.wrap ((i : Int) + 1) = ((i + 1 : Nat) : Int) := by rw [w64 (by omega) (by omega)]; omega
  have ht := hti i (by omega)
  refine A10 (fs hi2 hi3) ?_; try with_reducible exact tt
  refine CallS.g [3, 0] (ht) (R1 ew ?_); try with_reducible exact tt
  refine A10 ew ?_; try with_reducible exact tt
  refine ⟨i + 1, 3, 4, by omega, by omega, by omega, ?_, ?_⟩
  ·simp [swT, swH, sw, Ob.sw, V.ren, V.rens]
  ·simp [swT, swH, sw, Ob.sw, V.ren, V.rens]
 ·have h2 : i = n := by omega
  subst h2
  refine A00 ?_; try with_reducible exact tt
  refine CallS.g [3] (hat) (R0 ?_); try with_reducible exact tt
  done
end
section
open Go.RowKit
theorem o_111 {top : Nat} {t : St} (h : okQ top t) : reach top 0 top t := by
 obtain ⟨a, b, f⟩ := t
 obtain ⟨h1, h2, h3⟩ := h
 simp only at h1 h2 h3
 subst h2
 cases f with
 | false => exact .inr ⟨rfl, Nat.zero_le _, by simp only; omega, h1⟩
 | true => left; rw [h3 rfl]
theorem o_112 {top : Nat} {l : Sp} (hu : Uq l) (h : oklQ top l) : l.length ≤ top + 2 := o_10x hu (k := 0) (i := top) fun p hp => o_111 (h p hp).1
theorem mg_uq {top k a : Nat} (s o : St) : Uq (mgQ top k a s o) := o_w1 _ _
theorem o_113 {top k a : Nat} (s o : St) : exQ (fun _ => 1) (mgQ top k a s o) = 1 := by
 unfold mgQ
 rw [o_w2]
 have : (fun t => exQ (fun _ => (1 : Rat)) (fullQ o.2.2 t)) = fun _ => 1 := by
  funext t
  unfold fullQ
  simp only [exQ]; grind
 rw [this, o_zo]
theorem o_114 {l : Sp} (h2 : exQ (fun _ => 1) l = 1) : nzQ l ≠ [] := by
 intro h
 have h3 := o_vm (fun _ => (1 : Rat)) l
 rw [show l.filter (fun p => decide (p.2 ≠ 0)) = nzQ l from rfl, h] at h3
 rw [h2] at h3
 exact absurd h3 (by decide)
theorem mg_nz {top k a : Nat} (s o : St) : nzQ (mgQ top k a s o) ≠ [] := o_114 (o_113 s o)
theorem o_115 {next : St → Sp} {l : Sp} (hn : ∀ p ∈ l, ∀ q ∈ next p.1, 0 ≤ q.2) (h : ∀ p ∈ l, 0 ≤ p.2) : ∀ p ∈ timesQ next l, 0 ≤ p.2 := by
 have hget : ∀ (l : Sp) (s : St), (∀ p ∈ l, 0 ≤ p.2) → 0 ≤ getQ l s := by
  intro l s
  induction l with
  | nil => intro _; exact Rat.le_refl
  | cons p l ih =>
   intro h
   unfold getQ
   split
   ·exact h p (by simp)
   ·exact ih fun q hq => h q (by simp [hq])
 have hin : ∀ (q : Rat) (k out : Sp), 0 ≤ q → (∀ p ∈ out, 0 ≤ p.2) → (∀ p ∈ k, 0 ≤ p.2) → ∀ p ∈ innQ q out k, 0 ≤ p.2 := by
  intro q k
  induction k with
  | nil => intro out _ h _; exact h
  | cons b k ih =>
   intro out hq ho hk
   refine ih (addQ out b.1 (q * b.2)) hq (fun p hp => ?_) fun p hp => hk p (by simp [hp])
   rcases o_w7 hp with hp | rfl
   ·exact ho p hp
   ·have h1 := hget out b.1 ho
    have h2 := Rat.mul_nonneg hq (hk b (by simp))
    show 0 ≤ getQ out b.1 + q * b.2
    grind
 have key : ∀ (k out : Sp), (∀ p ∈ out, 0 ≤ p.2) → (∀ p ∈ k, 0 ≤ p.2 ∧ ∀ q ∈ next p.1, 0 ≤ q.2) → ∀ p ∈ k.foldl (fun out a => innQ a.2 out (atQ (next a.1))) out, 0 ≤ p.2 := by
  intro k
  induction k with
  | nil => intro out h _; exact h
  | cons a k ih =>
   intro out ho hk
   obtain ⟨h1, h2⟩ := hk a (by simp)
   exact ih _ (hin _ _ _ h1 ho fun p hp => h2 p (List.mem_filter.1 ((o_vs _).mem_iff.1 hp)).1) fun p hp => hk p (by simp [hp])
 refine key _ _ (fun p hp => by cases hp) fun p hp => ?_
 have hp' := (List.mem_filter.1 ((o_vs l).mem_iff.1 hp)).1
 exact ⟨h p hp', hn p hp'⟩
theorem mg_ok {k a w : Nat} (h : GoodS k a w) {s o : St} (hs : okQ (topC w) s) (ho : okQ (topC w) o) : oklQ (topC w) (mgQ (topC w) k a s o) := by
 have hup := o_zt h hs o.1 ho.1
 have h1 : kyQ (okQ (topC w)) (mgQ (topC w) k a s o) := by
  refine o_zm (P := fun t => okQ (topC w) t ∧ o.1 ≤ t.1) (fun t ht p hp => ?_) hup
  have hp1 : p ∈ fullQ o.2.2 t := (List.mem_filter.1 hp).1
  simp [fullQ] at hp1
  subst hp1
  obtain ⟨⟨a1, a2, a3⟩, a4⟩ := ht
  refine ⟨a1, a2, fun hf => ?_⟩
  simp only [Bool.or_eq_true] at hf
  rcases hf with hf | hf
  ·exact a3 hf
  ·have := ho.2.2 hf
   show t.1 = topC w
   omega
 have h2 : ∀ p ∈ mgQ (topC w) k a s o, 0 ≤ p.2 := o_115 (fun p hp q hq => by
  simp [fullQ] at hq; subst hq
  exact (by decide : (0 : Rat) ≤ 1)) fun p hp => (o_zs h hs o.1 p hp).2
 exact fun p hp => ⟨h1 p hp, h2 p hp⟩
theorem mg_gr {k a w G : Nat} (h : GoodS k a w) (hc : ∀ r x, x ≤ 15 → Gr G 1 (ratC k a r x)) {s o : St} (hs : okQ (topC w) s) (ho : o.1 ≤ 7) : ∀ p ∈ mgQ (topC w) k a s o, Gr (G ^ o.1 * G) (80 * 80 ^ o.1) p.2 := by
 have hl := o_yx (o_zn s o.1) (o_zq (k := k) (a := a) hs o.1)
 have hA : (atQ (clQ (topC w) k a s o.1)).length ≤ 40 := Nat.le_trans (o_yj _) (by omega)
 have hm : ∀ p ∈ atQ (clQ (topC w) k a s o.1), p ∈ clQ (topC w) k a s o.1 := fun p hp => (List.mem_filter.1 ((o_vs _).mem_iff.1 hp)).1
 have := o_yf (D := G ^ o.1) (E := G) (B := 80 ^ o.1) (J := 2) (next := fullQ o.2.2) (A := atQ (clQ (topC w) k a s o.1)) (fun p hp => o_zu h hc hs o.1 (by omega) p (hm p hp)) (fun p hp => ⟨(o_zv o.2.2 G p.1).gr, Nat.le_trans (o_yj _) (o_zv o.2.2 G p.1).len⟩) _ (Nat.le_refl _)
 rw [o_yc] at this
 intro p hp
 exact (this p hp).le (Nat.mul_le_mul_right _ (by omega))
theorem o_116 {k a w : Nat} (h : GoodS k a w) {o : St} (h1 : o.1 ≤ 7) {s : St} (hs : okQ (topC w) s) (ho : okQ (topC w) o) : Eqn Tryz.prog o_8j [.mp 0] [spO (mgQ (topC w) k a s o)] (.d (.sl (atQ (mgQ (topC w) k a s o)).length (spD rcD (atQ (mgQ (topC w) k a s o))))) [spO (mgQ (topC w) k a s o)] := by
 have h8 : 2 ^ w ≤ 16 := Nat.pow_le_pow_right (n := 2) (by omega) h.2.2
 have h7 : topC w ≤ 15 := by unfold topC; omega
 obtain ⟨G, hG, hG63, -, hc⟩ := o_zg h
 have hl := o_112 (mg_uq (top := topC w) (k := k) (a := a) s o) (mg_ok h hs ho)
 refine o_y7 _ (mg_uq s o) (mg_nz s o) (Nat.le_trans (List.length_filter_le _ _) (by omega)) (by omega) fun p hp => (mg_gr h hc hs (by omega) p hp).rs (Nat.mul_pos (Nat.pow_pos hG) hG) (Nat.mul_pos (by decide) (Nat.pow_pos (by decide))) (o_10z hG63 (by omega)).1
end
section
open Go.RowKit
theorem Gr.scale {D B : Nat} {q : Rat} (E : Nat) (h : Gr D B q) : Gr (D * E) B q := by
 obtain ⟨z, h1, h2⟩ := h
 refine ⟨z * E, ?_, ?_⟩
 ·have e1 : ((z * E : Nat) : Rat) = (z : Rat) * (E : Rat) := by simp
  have e2 : ((D * E : Nat) : Rat) = (D : Rat) * (E : Rat) := by simp
  rw [e1, e2, ← h1]; grind
 ·rw [← Nat.mul_assoc]; exact Nat.mul_le_mul_right _ h2
theorem o_117 {k a w G : Nat} (h : GoodS k a w) (hc : ∀ r x, x ≤ 15 → Gr G 1 (ratC k a r x)) {s o : St} (hs : okQ (topC w) s) (ho : o.1 ≤ 7) : ∀ p ∈ mgQ (topC w) k a s o, Gr (G ^ 8) (80 ^ 8) p.2 := fun p hp => by
 have h1 := (mg_gr h hc hs ho p hp).scale (G ^ (7 - o.1))
 have e : G ^ o.1 * G * G ^ (7 - o.1) = G ^ 8 := by
  rw [← Nat.pow_succ, ← Nat.pow_add]; congr 1; omega
 rw [e] at h1
 refine h1.le ?_
 rw [Nat.mul_comm, ← Nat.pow_succ]
 exact Nat.pow_le_pow_right (by decide) (by omega)
def inMQ (top k a : Nat) (x : St × Rat) (B : Sp) (out : Sp) (j : Nat) : Sp := (B.take j).foldl (fun out y => innQ (x.2 * y.2) out (atQ (mgQ top k a x.1 y.1))) out
def outMQ (top k a : Nat) (A B : Sp) (i : Nat) : Sp := (A.take i).foldl (fun out x => B.foldl (fun out y => innQ (x.2 * y.2) out (atQ (mgQ top k a x.1 y.1))) out) []
theorem o_118 (top k a : Nat) (x : St × Rat) (B out : Sp) (j : Nat) (h : j < B.length) : inMQ top k a x B out (j + 1) = innQ (x.2 * B[j].2) (inMQ top k a x B out j) (atQ (mgQ top k a x.1 B[j].1)) := by
 unfold inMQ; rw [List.take_add_one, List.getElem?_eq_getElem h, Option.toList, List.foldl_append]; rfl
theorem o_119 (top k a : Nat) (x : St × Rat) (B out : Sp) : inMQ top k a x B out B.length = B.foldl (fun out y => innQ (x.2 * y.2) out (atQ (mgQ top k a x.1 y.1))) out := by unfold inMQ; rw [List.take_length]
theorem o_11a (top k a : Nat) (A B : Sp) (i : Nat) (h : i < A.length) : outMQ top k a A B (i + 1) = inMQ top k a A[i] B (outMQ top k a A B i) B.length := by
 rw [o_119]
 unfold outMQ; rw [List.take_add_one, List.getElem?_eq_getElem h, Option.toList, List.foldl_append]; rfl
theorem o_11b (top k a : Nat) (A B : Sp) : outMQ top k a A B A.length = mrgdQ top k a A B := by unfold outMQ mrgdQ; rw [List.take_length]
end
section
open Go.RowKit
theorem o_11c {k a w : Nat} (h : GoodS k a w) {x : St × Rat} (hx : okQ (topC w) x.1 ∧ 0 ≤ x.2) {B out : Sp} (ho : oklQ (topC w) out) (hB : oklQ (topC w) B) : ∀ j, j ≤ B.length → oklQ (topC w) (inMQ (topC w) k a x B out j)
 | 0, _ => by simpa [inMQ] using ho
 | j + 1, hj => by
  have hj' : j < B.length := hj
  rw [o_118 _ k a x B out j hj']
  have hb := hB B[j] (List.getElem_mem hj')
  exact o_wb (Rat.mul_nonneg hx.2 hb.2) (o_11c h hx ho hB j (by omega)) (o_wa (mg_ok h hx.1 hb.1))
theorem o_11d {k a w : Nat} (h : GoodS k a w) {A B : Sp} (hA : oklQ (topC w) A) (hB : oklQ (topC w) B) : ∀ i, i ≤ A.length → oklQ (topC w) (outMQ (topC w) k a A B i)
 | 0, _ => fun p hp => by simp [outMQ] at hp
 | i + 1, hi => by
  have hi' : i < A.length := hi
  rw [o_11a _ k a A B i hi']
  exact o_11c h (hA A[i] (List.getElem_mem hi')) (o_11d h hA hB i (by omega)) hB _ (Nat.le_refl _)
end
section
open Go.RowKit
theorem o_11e (n : Nat) (h0 : 0 < n) (hn : n ≤ 100000) : Eqn Tryz.prog o_dn [.d .nilsl, .d (.int .i64 n)] [] (.own 0 6 0) [⟨75, []⟩] := by
 refine Eqn.gen [0] o_dp (by simp) (by simp) (by rfl) (by decide) (by simp) (by simp) ?_
 simp only [o_do]
 have g1 : ¬ (n : Int) < 0 := by omega
 have g2 : (0 : Int) < n := by omega
 have e0 : IntKind.i64.wrap 0 = 0 := w64 (by omega) (by omega)
 have e1 : IntKind.i64.wrap (0 - 0) = 0 := w64 (by omega) (by omega)
 have e2 : IntKind.i64.wrap ((n : Int) - 0) = n := by rw [w64 (by omega) (by omega)]; omega
 have e3 : IntKind.i64.wrap (n : Int) = n := w64 (by omega) (by omega)
 refine A10 (fs g1 (fs g2 (fs h0 (fs e0 (fs e1 (fs e2 e3)))))) ?_; try with_reducible exact tt
theorem o_11f (la lb : Nat) (A B : List D) (ha : A.length = la * 6) (hb : B.length = lb * 6) (h0 : 0 < la) (h1 : 0 < lb) (hla : la ≤ 1000) (hlb : lb ≤ 1000) : Eqn Tryz.prog o_b1 [.d (.sl 2 [.sl la A, .sl lb B])] [] (.own 0 6 (la + lb)) [⟨75, (A ++ B).map .d⟩] := by
 refine Eqn.gen [2] o_b3 (by simp) (by simp) (by rfl) (by decide) (by simp) (by intro ob h; simp only [List.mem_singleton] at h; subst h; exact o_5w _ _) ?_
 simp only [o_b2]
 have hg := o_11e (la + lb) (by omega) (by omega)
 have e1 : IntKind.i64.wrap (0 + (la : Int)) = la := by rw [w64 (by omega) (by omega)]; omega
 have e1' : IntKind.i64.wrap (la : Int) = la := w64 (by omega) (by omega)
 have e2 : IntKind.i64.wrap ((la : Int) + lb) = ((la + lb : Nat) : Int) := by rw [w64 (by omega) (by omega)]; omega
 have g1 : ¬ (la : Int) < 0 := by omega
 have g2 : ¬ ((la + lb : Nat) : Int) < 0 := by omega
 have l0 : la ≠ 0 := by omega
 have l1 : lb ≠ 0 := by omega
 obtain ⟨n, hn⟩ : ∃ n, n = la + lb := ⟨_, rfl⟩
 rw [← hn] at hg e2 g2 ⊢
 have w1 : IntKind.i64.wrap (0 + 1) = 1 := by decide
 have w2 : IntKind.i64.wrap (1 + 1) = 2 := by decide
 refine A00 ?_; try with_reducible exact tt
 refine AW.rounds 3 ?_
 refine A10 (fs e1 (fs e1' (fs e2 (fs g1 (fs g2 (fs w1 w2)))))) ?_; try with_reducible exact tt
 refine CallS.nX (hg) (hO' := o_5g []) (R0 ?_); try with_reducible exact tt
 refine AW.rounds 3 ?_
 refine A10 (fs ha (fs hb (fs l0 (fs l1 (fs w1 w2))))) ?_; try with_reducible exact tt
 first
 | (refine ⟨by rw [hn]; exact Sub1.refl _, Subs.of ?_⟩; rw [← List.map_append, o_5v])
 | (rw [hn]; exact Sub1.refl _)
end
section
open Go.RowKit
def inG (mg : St → St → Sp) (x : St × Rat) (B : Sp) (out : Sp) (j : Nat) : Sp := (B.take j).foldl (fun out y => innQ (x.2 * y.2) out (atQ (mg x.1 y.1))) out
def outG (mg : St → St → Sp) (A B : Sp) (i : Nat) : Sp := (A.take i).foldl (fun out x => B.foldl (fun out y => innQ (x.2 * y.2) out (atQ (mg x.1 y.1))) out) []
def mrgG (mg : St → St → Sp) (A B : Sp) : Sp := A.foldl (fun out x => B.foldl (fun out y => innQ (x.2 * y.2) out (atQ (mg x.1 y.1))) out) []
theorem o_11g (mg : St → St → Sp) (x : St × Rat) (B out : Sp) (j : Nat) (h : j < B.length) : inG mg x B out (j + 1) = innQ (x.2 * B[j].2) (inG mg x B out j) (atQ (mg x.1 B[j].1)) := by
 unfold inG; rw [List.take_add_one, List.getElem?_eq_getElem h, Option.toList, List.foldl_append]; rfl
theorem o_11h (mg : St → St → Sp) (x : St × Rat) (B out : Sp) : inG mg x B out B.length = B.foldl (fun out y => innQ (x.2 * y.2) out (atQ (mg x.1 y.1))) out := by unfold inG; rw [List.take_length]
theorem o_11i (mg : St → St → Sp) (A B : Sp) (i : Nat) (h : i < A.length) : outG mg A B (i + 1) = inG mg A[i] B (outG mg A B i) B.length := by
 rw [o_11h]
 unfold outG; rw [List.take_add_one, List.getElem?_eq_getElem h, Option.toList, List.foldl_append]; rfl
theorem o_11j (mg : St → St → Sp) (A B : Sp) : outG mg A B A.length = mrgG mg A B := by unfold outG mrgG; rw [List.take_length]
theorem o_11k {mg : St → St → Sp} {D C M J : Nat} {x : St × Rat} {B out : Sp} (ho : ∀ p ∈ out, Gr D C p.2) (hB : ∀ y ∈ B, (∀ p ∈ atQ (mg x.1 y.1), Gr D M (x.2 * y.2 * p.2)) ∧ (atQ (mg x.1 y.1)).length ≤ J) : ∀ j, j ≤ B.length → ∀ p ∈ inG mg x B out j, Gr D (C + j * J * M) p.2
 | 0, _ => fun p hp => by
  simp [inG] at hp
  exact (ho p hp).le (by omega)
 | j + 1, hj => by
  have hj' : j < B.length := hj
  rw [o_11g mg x B out j hj']
  obtain ⟨h1, h2⟩ := hB B[j] (List.getElem_mem hj')
  intro p hp
  refine (o_ye (o_11k ho hB j (by omega)) _ h1 p hp).le ?_
  have := Nat.mul_le_mul_right M h2
  have e : (j + 1) * J * M = j * J * M + J * M := by rw [Nat.add_mul j 1 J, Nat.one_mul, Nat.add_mul]
  omega
theorem o_11l {mg : St → St → Sp} {D M J L : Nat} {A B : Sp} (hBL : B.length ≤ L) (hAB : ∀ x ∈ A, ∀ y ∈ B, (∀ p ∈ atQ (mg x.1 y.1), Gr D M (x.2 * y.2 * p.2)) ∧ (atQ (mg x.1 y.1)).length ≤ J) : ∀ i, i ≤ A.length → ∀ p ∈ outG mg A B i, Gr D (i * (L * J) * M) p.2
 | 0, _ => fun p hp => by simp [outG] at hp
 | i + 1, hi => by
  have hi' : i < A.length := hi
  rw [o_11i mg A B i hi']
  intro p hp
  refine (o_11k (o_11l hBL hAB i (by omega)) (hAB A[i] (List.getElem_mem hi')) B.length (Nat.le_refl _) p hp).le ?_
  have h1 := Nat.mul_le_mul_right M (Nat.mul_le_mul_right J hBL)
  have e : (i + 1) * (L * J) * M = i * (L * J) * M + L * J * M := by rw [Nat.add_mul i 1 (L * J), Nat.one_mul, Nat.add_mul]
  omega
structure MrgOK (k a w : Nat) (mg : St → St → Sp) (A B : Sp) (D M J L : Nat) : Prop where
 dp : 0 < D
 mp : 1 ≤ M
 jp : 1 ≤ J
 lp : 1 ≤ L
 j2 : J ≤ 1000
 a1 : 1 ≤ A.length
 a2 : A.length ≤ 1000
 b1 : 1 ≤ B.length
 b2 : B.length ≤ L
 l2 : L ≤ 1000
 xs : ∀ x ∈ A, 0 ≤ x.2 ∧ RS x.2 40000
 ys : ∀ y ∈ B, 0 ≤ y.2 ∧ RS y.2 40000
 gr : ∀ x ∈ A, ∀ y ∈ B, (∀ p ∈ atQ (mg x.1 y.1), Gr D M (x.2 * y.2 * p.2)) ∧ (atQ (mg x.1 y.1)).length ≤ J
 rs : ∀ x ∈ A, ∀ y ∈ B, ∀ p ∈ atQ (mg x.1 y.1), RS p.2 100000
 sz : size ((A.length + 2) * (L * J) * M * D) ≤ 100000
 cost : Eqn Tryz.prog o_8d [.d (parD k a w), .d (.sl (A.length + B.length) (stsD ((A ++ B).map (·.1))))] [] (.d (.int .i64 0)) []
 call : ∀ x ∈ A, ∀ y ∈ B, Eqn Tryz.prog o_91 [.d (parD k a w), .d (.agg (stD x.1)), .d (.agg (stD y.1))] [] (.mp 0) [spO (mg x.1 y.1)] ∧ Eqn Tryz.prog o_8j [.mp 0] [spO (mg x.1 y.1)] (.d (.sl (atQ (mg x.1 y.1)).length (spD rcD (atQ (mg x.1 y.1))))) [spO (mg x.1 y.1)]
 out : Eqn Tryz.prog o_8j [.mp 0] [spO (mrgG mg A B)] (.d (.sl (atQ (mrgG mg A B)).length (spD rcD (atQ (mrgG mg A B))))) [spO (mrgG mg A B)]
def slC (la lb : Nat) (A B C : List D) (n i : Nat) : List V := setS (List.replicate 100 .junk) [(1, .d (.sl la A)), (2, .d (.sl lb B)), (3, .p 0 0), (8, if i = 0 then .d .nilsl else .own 1 3 i), (9, .d (.bool false)), (23, .d (.sl n C)), (24, .d (.int .i64 n)), (25, .d (.int .i64 (i : Nat)))]
def hpC (k a w : Nat) (S : List St) (i : Nat) : List (Option Ob) := [some ⟨62, [.d (.int .i64 k), .d (.int .i64 a), .d (.int .i64 w)]⟩] ++ if i = 0 then [] else [some ⟨64, (stsD (S.take i)).map .d⟩]
theorem o_11m (S : List St) (i : Nat) (h : i < S.length) : stsD (S.take (i + 1)) = stsD (S.take i) ++ stD S[i] := by
 unfold stsD; rw [List.take_add_one, List.getElem?_eq_getElem h, Option.toList, List.flatMap_append]; simp
theorem o_11n {x : Rat} (h : 0 ≤ x) : ¬ cmpQ x 0 < 0 := by
 unfold cmpQ
 rw [if_neg (Rat.not_lt.2 h)]
 split <;> decide
set_option maxHeartbeats 4000000 in
theorem o_11o {k a w : Nat} {mg : St → St → Sp} {A B : Sp} {G M J L : Nat} (h : MrgOK k a w mg A B G M J L) : Eqn Tryz.prog o_7s [.d (parD k a w), .d (.sl A.length (spD rcD A)), .d (.sl B.length (spD rcD B))] [] (.tup [.d (.sl (atQ (mrgG mg A B)).length (spD rcD (atQ (mrgG mg A B)))), .d (.int .i64 0)]) [] := by
 refine Eqn.pure o_7u Plain.ok ?_
 have ha := o_vb rcD (fun _ => rfl) A
 have hb := o_vb rcD (fun _ => rfl) B
 have hcon := o_11f A.length B.length (spD rcD A) (spD rcD B) ha hb h.a1 h.b1 h.a2 (Nat.le_trans h.b2 h.l2)
 have hAB : spD rcD A ++ spD rcD B = spD rcD (A ++ B) := by simp [spD]
 rw [hAB] at hcon
 have hc := o_vb rcD (fun _ => rfl) (A ++ B)
 have hcl : (A ++ B).length = A.length + B.length := List.length_append
 have hget := o_yl (A ++ B)
 have hgA := o_yl A
 have hgB := o_yl B
 have hA2 := h.a2
 have hB2 := h.b2
 have hL2 := h.l2
 have hJ2 := h.j2
 have hout := h.out
 have hgo := o_11l h.b2 h.gr
 have hnn : ∀ p ∈ A ++ B, 0 ≤ p.2 ∧ RS p.2 40000 := fun p hp => by
  rcases List.mem_append.1 hp with hp | hp
  ·exact h.xs p hp
  ·exact h.ys p hp
 have hcost := h.cost
 have hn1 : A.length + B.length ≤ 2000 := by have := h.a2; have := h.b2; have := h.l2; omega
 have hsl : ((A ++ B).map (·.1)).length = (A ++ B).length := List.length_map _
 have hsg : ∀ i (hi : i < (A ++ B).length), ((A ++ B).map (·.1))[i]'(by rw [hsl]; exact hi) = (A ++ B)[i].1 := fun i hi => List.getElem_map _
 have hsn := o_11m ((A ++ B).map (·.1))
 have hsll := fun i => o_zy (((A ++ B).map (·.1)).take i)
 rw [← hcl] at hcon hcost hn1
 generalize hSS : (A ++ B).map (·.1) = S at *
 generalize hBB : A ++ B = AB at *
 generalize spD rcD A = CA at *
 generalize spD rcD B = CB at *
 obtain ⟨n, hn⟩ : ∃ n, n = AB.length := ⟨_, rfl⟩
 rw [← hn] at hcon hcost hn1 hc hcl hsl
 have htk : (spD rcD AB).take (n * 6) = spD rcD AB := List.take_of_length_le (by omega)
 simp only [o_7t, parD] at hcost ⊢
 refine A00 ?_; try with_reducible exact tt
 refine CallS.gf 1 1 ⟨_, [.d (.sl A.length CA), .d (.sl B.length CB)]⟩ [.sl A.length CA, .sl B.length CB] [] (hcon) (R0 ?_); try with_reducible exact tt
 refine AW.freeze 2 6 ⟨75, (spD rcD AB).map .d⟩ (spD rcD AB) (by simp) rfl ?_
 simp [frzH, htk]
 refine AW.loopG (α := Nat) (fun i => slC A.length B.length CA CB (spD rcD AB) n i) (fun i => hpC k a w S i) (fun i => i ≤ n) (fun i => n - i) 0 ?_ (Nat.zero_le _) ?_ ?_ ?_
 ·intro i hi; unfold hpC; split <;> simp
 ·simp [slC, hpC]
 ·simp [hpC]
 rintro i hi
 by_cases hi2 : i < n
 ·have hi3 : (i : Int) < n := by omega
  obtain ⟨s1, s2, s3, q, N1, N2, N3, hp, hN, hg⟩ := hget i (by omega)
  obtain ⟨hq0, hqr⟩ := hnn _ (List.getElem_mem (by omega : i < AB.length))
  rw [hp] at hq0 hqr
  have hsi := hsn i (by omega)
  rw [hsg i (by omega), hp] at hsi
  have hlen := hsll i
  rw [List.length_take, Nat.min_eq_left (by omega)] at hlen
  have ho := rof0
  have hcm := o_ol q 0 (hqr.le (by omega)) ⟨by decide, by decide⟩
  have hcn := o_11n hq0
  generalize cmpQ q 0 = z at *
  have hz0 : rcD 0 = [natW 0, .bool false, natW 0] := rfl
  rw [o_wj, o_wj, hN] at hcm
  rw [o_wj] at ho
  rw [hz0] at hcm ho
  have ew : IntKind.i64.wrap ((i : Int) + 1) = ((i + 1 : Nat) : Int) := by rw [w64 (by omega) (by omega)]; omega
  have hb6 : i * 6 + 6 ≤ n * 6 := by omega
  have hb7 : i * 6 < n * 6 := by omega
  have ht3 : (stsD (S.take i)).length = i * 3 := hlen
  by_cases h0 : i = 0
  ·subst h0
   simp only [slC, hpC, if_true]
   simp only [Nat.zero_mul, List.drop_zero] at hg
   simp
   refine A12 (fs hi2 (fs hi3 (fs hg (fs hc (fs hb6 (fs hb7 (fs ew hcn))))))) ho hcm ?_; try with_reducible exact tt
   refine ⟨1, 1, 3, ⟨by omega, by omega⟩, by omega, by omega, ?_, ?_⟩
   ·simp [slC, hpC, swT, swH, sw, Ob.sw, V.ren, V.rens]
   ·rw [hsi]
    simp [slC, hpC, swT, swH, sw, Ob.sw, V.ren, V.rens, stsD, stD]
  ·have hcs : ([.int .i64 s1, .int .i64 s2, .bool s3] : List D).map V.d = [.d (.int .i64 s1), .d (.int .i64 s2), .d (.bool s3)] := rfl
   simp only [slC, hpC, if_neg h0]
   simp
   refine A12 (fs hi2 (fs hi3 (fs hg (fs hc (fs hb6 (fs hb7 (fs ew (fs hcn (fs ht3 h0))))))))) ho hcm ?_; try with_reducible exact tt
   refine ⟨i + 1, 1, 4, ⟨by omega, by omega⟩, by omega, by omega, ?_, ?_⟩
   ·simp [slC, hpC, swT, swH, sw, Ob.sw, V.ren, V.rens]
   ·rw [hsi]
    simp [slC, hpC, swT, swH, sw, Ob.sw, V.ren, V.rens, stD]
    all_goals (rw [← hcs, ← List.map_append, o_5v]; exact ⟨Subs.refl _, o_5w _ _⟩)
 ·have h2 : i = n := by omega
  subst h2
  have h0 : ¬ i = 0 := by have := h.a1; omega
  have hSt : S.take i = S := List.take_of_length_le (by omega)
  have hsl3 := o_zy S
  have htk3 : (stsD S).take (i * 3) = stsD S := List.take_of_length_le (by omega)
  simp only [slC, hpC, if_neg h0, hSt]
  simp
  refine AW.freeze 1 3 ⟨64, (stsD S).map .d⟩ (stsD S) (by simp) rfl ?_
  simp [frzH, htk3]
  refine A01 hcost ?_; try with_reducible exact tt
  rw [← o_11j] at hout ⊢
  refine AW.loopG (α := Nat) (fun j => setS (List.replicate 100 .junk) [(1, .d (.sl A.length CA)), (2, .d (.sl B.length CB)), (3, .p 0 0), (13, .mp 2), (59, .d (.sl A.length CA)), (60, .d (.int .i64 A.length)), (61, .d (.int .i64 (j : Nat)))]) (fun j => [some ⟨62, [.d (.int .i64 k), .d (.int .i64 a), .d (.int .i64 w)]⟩, none, some ⟨1000391, (spD rcD (outG mg A B j)).map .d⟩]) (fun j => j ≤ A.length) (fun j => A.length - j) 0 ?_ (Nat.zero_le _) ?_ ?_ ?_
  ·intro i hi; simp
  ·simp
  ·simp [outG, spD]
  clear hget hcon hcost hnn hsl hsg hsn hsll hSt hsl3 htk3 htk hc hBB hSS
  rintro u hu
  simp
  by_cases hu2 : u < A.length
  ·have hu3 : (u : Int) < A.length := by omega
   obtain ⟨x1, x2, x3, xq, X1, X2, X3, hpx, hX, hgx⟩ := hgA u hu2
   have hxm : ((x1, x2, x3), xq) ∈ A := by rw [← hpx]; exact List.getElem_mem hu2
   have hxr := (h.xs _ hxm).2
   have hgou := hgo u hu
   have hon := o_11i mg A B u hu2
   rw [hpx] at hon
   have hx6 : u * 6 + 6 ≤ A.length * 6 := by omega
   have hx7 : u * 6 < A.length * 6 := by omega
   have ewu : IntKind.i64.wrap ((u : Int) + 1) = ((u + 1 : Nat) : Int) := by rw [w64 (by omega) (by omega)]; omega
   refine A10 (fs hu2 (fs hu3 (fs hgx (fs ha (fs hx6 hx7))))) ?_; try with_reducible exact tt
   refine AW.loopG (α := Nat) (fun j => setS (List.replicate 100 .junk) [(1, .d (.sl A.length CA)), (2, .d (.sl B.length CB)), (3, .p 0 0), (13, .mp 2), (15, .p 3 0), (59, .d (.sl A.length CA)), (60, .d (.int .i64 A.length)), (61, .d (.int .i64 (u : Nat))), (65, .d (.sl B.length CB)), (66, .d (.int .i64 B.length)), (67, .d (.int .i64 (j : Nat)))]) (fun j => [some ⟨62, [.d (.int .i64 k), .d (.int .i64 a), .d (.int .i64 w)]⟩, none, some ⟨1000391, (spD rcD (inG mg ((x1, x2, x3), xq) B (outG mg A B u) j)).map .d⟩, some ⟨75, [.d (.int .i64 x1), .d (.int .i64 x2), .d (.bool x3), .d X1, .d X2, .d X3]⟩]) (fun j => j ≤ B.length) (fun j => B.length - j) 0 ?_ (Nat.zero_le _) ?_ ?_ ?_
   ·intro i hi; simp
   ·simp
   ·simp [inG]
   rintro v hv
   simp
   by_cases hv2 : v < B.length
   ·have hv3 : (v : Int) < B.length := by omega
    obtain ⟨y1, y2, y3, yq, Y1, Y2, Y3, hpy, hY, hgy⟩ := hgB v hv2
    have hym : ((y1, y2, y3), yq) ∈ B := by rw [← hpy]; exact List.getElem_mem hv2
    have hyr := (h.ys _ hym).2
    obtain ⟨hme, hat⟩ := h.call _ hxm _ hym
    obtain ⟨hgC, hJ⟩ := h.gr _ hxm _ hym
    have hrC := h.rs _ hxm _ hym
    have hin := o_11k hgou (fun y hy => h.gr _ hxm y hy) v hv
    have hon2 := o_11g mg ((x1, x2, x3), xq) B (outG mg A B u) v hv2
    rw [hpy] at hon2
    simp only at hme hat hgC hJ hrC hon2
    have hy6 : v * 6 + 6 ≤ B.length * 6 := by omega
    have hy7 : v * 6 < B.length * 6 := by omega
    have ewv : IntKind.i64.wrap ((v : Int) + 1) = ((v + 1 : Nat) : Int) := by rw [w64 (by omega) (by omega)]; omega
    have hq := o_oi xq yq (hxr.le (by omega)) (hyr.le (by omega))
    have hqr := (RS.mul hxr hyr).le (M := 100000) (by omega)
    obtain ⟨C, hC⟩ : ∃ C, C = atQ (mg (x1, x2, x3) (y1, y2, y3)) := ⟨_, rfl⟩
    rw [← hC] at hat hgC hJ hrC hon2
    have hCl := o_vb rcD (fun _ => rfl) C
    have hgetC := o_yl C
    have hJ1 : u * (L * J) * M + v * J * M + J * M ≤ (A.length + 2) * (L * J) * M := by
     have k1 : v * J ≤ L * J := Nat.mul_le_mul_right J (by omega)
     have k2 : J ≤ L * J := Nat.le_mul_of_pos_left J h.lp
     have k3 := Nat.mul_le_mul_right M k1
     have k4 := Nat.mul_le_mul_right M k2
     have k5 : u * (L * J) * M ≤ A.length * (L * J) * M := Nat.mul_le_mul_right M (Nat.mul_le_mul_right _ hu)
     have k6 : (A.length + 2) * (L * J) * M = A.length * (L * J) * M + 2 * (L * J * M) := by rw [Nat.add_mul A.length 2, Nat.add_mul, Nat.mul_assoc 2]
     rw [k6]
     omega
    have hCAP : 1 ≤ (A.length + 2) * (L * J) * M := Nat.mul_pos (Nat.mul_pos (by omega) (Nat.mul_pos h.lp h.jp)) h.mp
    have hM1 : M ≤ (A.length + 2) * (L * J) * M := Nat.le_mul_of_pos_left M (Nat.mul_pos (by omega) (Nat.mul_pos h.lp h.jp))
    have hsz := h.sz
    generalize (A.length + 2) * (L * J) * M = CAP at *
    simp only [spO, stD, parD] at hme hat
    rw [o_wj xq, o_wj yq, hX, hY, o_wj] at hq
    obtain ⟨Q1, Q2, Q3, hQ⟩ : ∃ Q1 Q2 Q3, rcD (xq * yq) = [Q1, Q2, Q3] := ⟨_, _, _, rfl⟩
    rw [hQ] at hq
    refine A10 (fs hv2 (fs hv3 (fs hgy (fs hb (fs hy6 hy7))))) ?_; try with_reducible exact tt
    refine CallS.nX (hme) (R0 ?_); try with_reducible exact tt
    refine CallS.g [5] (hat) (R0 ?_); try with_reducible exact tt
    refine AW.loopG (α := Nat) (fun j => setS (List.replicate 100 .junk) [(1, .d (.sl A.length CA)), (2, .d (.sl B.length CB)), (3, .p 0 0), (13, .mp 2), (15, .p 3 0), (17, .p 4 0), (59, .d (.sl A.length CA)), (60, .d (.int .i64 A.length)), (61, .d (.int .i64 (u : Nat))), (65, .d (.sl B.length CB)), (66, .d (.int .i64 B.length)), (67, .d (.int .i64 (v : Nat))), (77, .d (.sl C.length (spD rcD C))), (78, .d (.int .i64 C.length)), (79, .d (.int .i64 (j : Nat)))]) (fun j => [some ⟨62, [.d (.int .i64 k), .d (.int .i64 a), .d (.int .i64 w)]⟩, none, some ⟨1000391, (spD rcD (innQ (xq * yq) (inG mg ((x1, x2, x3), xq) B (outG mg A B u) v) (C.take j))).map .d⟩, some ⟨75, [.d (.int .i64 x1), .d (.int .i64 x2), .d (.bool x3), .d X1, .d X2, .d X3]⟩, some ⟨75, [.d (.int .i64 y1), .d (.int .i64 y2), .d (.bool y3), .d Y1, .d Y2, .d Y3]⟩]) (fun j => j ≤ C.length) (fun j => C.length - j) 0 ?_ (Nat.zero_le _) ?_ ?_ ?_
    ·intro i hi; simp
    ·simp
    ·simp [innQ]
    rintro j hj
    simp
    by_cases hj2 : j < C.length
    ·have hj3 : (j : Int) < C.length := by omega
     obtain ⟨t1, t2, t3, r, M1, M2, M3, hpc, hMM, hgc⟩ := hgetC j hj2
     have hinn := o_ya (xq * yq) (inG mg ((x1, x2, x3), xq) B (outG mg A B u) v) C j hj2
     have hgr := hgC _ (List.getElem_mem hj2)
     have hrr := hrC _ (List.getElem_mem hj2)
     rw [hpc] at hinn hgr hrr
     simp only at hinn hgr hrr
     have hgi := o_ye (q := xq * yq) hin (C.take j) (fun p hp => hgC p (List.mem_of_mem_take hp))
     have hget2 := (o_yd hgi (t1, t2, t3)).le (C := CAP) (by
      have e1 : (C.take j).length * M ≤ J * M := Nat.mul_le_mul_right M (by rw [List.length_take]; omega)
      omega)
     have hmul := o_oi r (xq * yq) hrr hqr
     rw [Rat.mul_comm r] at hmul
     have hadd := o_wm (innQ (xq * yq) (inG mg ((x1, x2, x3), xq) B (outG mg A B u) v) (C.take j)) (t1, t2, t3) (xq * yq * r) (hget2.rs h.dp hCAP hsz) ((hgr.le hM1).rs h.dp hCAP hsz)
     have ewj : IntKind.i64.wrap ((j : Int) + 1) = ((j + 1 : Nat) : Int) := by rw [w64 (by omega) (by omega)]; omega
     have hc6 : j * 6 + 6 ≤ C.length * 6 := by omega
     have hc7 : j * 6 < C.length * 6 := by omega
     rw [← hinn] at hadd
     rw [o_wj r, o_wj (xq * yq), o_wj (xq * yq * r), hQ, hMM] at hmul
     rw [o_wj (xq * yq * r)] at hadd
     obtain ⟨P1, P2, P3, hP⟩ : ∃ P1 P2 P3, rcD (xq * yq * r) = [P1, P2, P3] := ⟨_, _, _, rfl⟩
     rw [hP] at hmul hadd
     simp only [spO, stD] at hadd
     refine A12 (fs hj2 (fs hj3 (fs hgc (fs hCl (fs hc6 hc7))))) hq hmul ?_; try with_reducible exact tt
     refine CallS.g [2] (hadd) (R0 ?_); try with_reducible exact tt
     refine A10 ewj ?_; try with_reducible exact tt
     refine ⟨j + 1, 2, 2, ⟨by omega, by omega⟩, by omega, by omega, ?_, ?_⟩
     ·simp [swT, swH, sw, Ob.sw, V.ren, V.rens]
     ·simp [swT, swH, sw, Ob.sw, V.ren, V.rens]
    ·have h2 : j = C.length := by omega
     subst h2
     rw [List.take_length, ← hon2]
     refine A10 ewv ?_; try with_reducible exact tt
     refine ⟨v + 1, 2, 2, ⟨by omega, by omega⟩, by omega, by omega, ?_, ?_⟩
     ·simp [swT, swH, sw, Ob.sw, V.ren, V.rens]
     ·simp [swT, swH, sw, Ob.sw, V.ren, V.rens]
   ·have h2 : v = B.length := by omega
    subst h2
    rw [← hon]
    refine A10 ewu ?_; try with_reducible exact tt
    refine ⟨u + 1, 2, 2, ⟨by omega, by omega⟩, by omega, by omega, ?_, ?_⟩
    ·simp [swT, swH, sw, Ob.sw, V.ren, V.rens]
    ·simp [swT, swH, sw, Ob.sw, V.ren, V.rens]
  ·have h2 : u = A.length := by omega
   subst h2
   simp only [spO] at hout
   refine A00 ?_; try with_reducible exact tt
   refine CallS.g [2] (hout) (R0 ?_); try with_reducible exact tt
   done
end
section
open Go.RowKit
theorem wellQ {k a w : Nat} (h : GoodS k a w) {t : St} (ht : okQ (topC w) t) : WellR k a w t.1 t.2.1 t.2.2 := .inr ⟨by have := h.1; omega, ht.2.1, ht.1, ht.2.2⟩
end
section
open Go.RowKit
end
section
open Go.RowKit
theorem at_eq {l K N : Sp} (hu : Uq l) (hN : nzQ l = N) (hp : K.Perm N) (hs : K.Pairwise fun a b => ltS a.1 b.1 = true) : atQ l = K := (o_vx hu (hN ▸ hp) hs).symm
def hf2 : Rat := mkRat 1 2
theorem dst2 : atQ (dstQ 1 1 2 (0, 0, false) 2) = [((1, 0, false), hf2), ((2, 0, false), hf2)] := by
 have c0 : stepQ (topC 2) (chP 1 1) (0, 0, false) = [((1, 0, false), 1), ((0, 0, false), 0)] := by kernel_rfl
 have c1 : stepQ (topC 2) (chP 1 1) (1, 0, false) = [((2, 0, false), hf2), ((1, 0, false), hf2)] := by kernel_rfl
 have a0 : atQ [(((0, 0, false) : St), (1 : Rat))] = [((0, 0, false), 1)] := at_eq (N := [((0, 0, false), 1)]) (by unfold Uq; decide) (by kernel_rfl) (List.Perm.refl _) (by decide)
 have a1 : atQ [(((1, 0, false) : St), (1 : Rat)), ((0, 0, false), 0)] = [((1, 0, false), 1)] := at_eq (N := [((1, 0, false), 1)]) (by unfold Uq; decide) (by kernel_rfl) (List.Perm.refl _) (by decide)
 have a2 : atQ [(((1, 0, false) : St), (1 : Rat))] = [((1, 0, false), 1)] := at_eq (N := [((1, 0, false), 1)]) (by unfold Uq; decide) (by kernel_rfl) (List.Perm.refl _) (by decide)
 have a3 : atQ [(((2, 0, false) : St), hf2), ((1, 0, false), hf2)] = [((1, 0, false), hf2), ((2, 0, false), hf2)] := at_eq (N := [((2, 0, false), hf2), ((1, 0, false), hf2)]) (by unfold Uq; decide) (by kernel_rfl) (List.Perm.swap _ _ _) (by decide)
 have a4 : atQ [(((1, 0, false) : St), hf2), ((2, 0, false), hf2)] = [((1, 0, false), hf2), ((2, 0, false), hf2)] := at_eq (N := [((1, 0, false), hf2), ((2, 0, false), hf2)]) (by unfold Uq; decide) (by kernel_rfl) (List.Perm.refl _) (by decide)
 have d1 : dstQ 1 1 2 (0, 0, false) 1 = [((1, 0, false), 1)] := by
  show timesQ _ [((0, 0, false), 1)] = _
  unfold timesQ
  rw [a0]
  simp only [List.foldl_cons, List.foldl_nil]
  rw [c0, a1]
  kernel_rfl
 have d2 : dstQ 1 1 2 (0, 0, false) 2 = [((1, 0, false), hf2), ((2, 0, false), hf2)] := by
  show timesQ _ (dstQ 1 1 2 (0, 0, false) 1) = _
  rw [d1]
  unfold timesQ
  rw [a2]
  simp only [List.foldl_cons, List.foldl_nil]
  rw [c1, a3]
  kernel_rfl
 rw [d2, a4]
end
section
open Go.RowKit
def dlQ (s t : St) : Rat := if t = s then 1 else 0
def gA (top : Nat) : Nat → St → Rat
 | 0, _ => 0
 | i + 1, t => (gA top i t + dlQ (top - i, 0, true) t) + dlQ (top - i, 0, false) t
def gM (top i : Nat) (t : St) : Rat := gA top i t + dlQ (top - i, 0, true) t
def accQ (l : Sp) (top : Nat) : Nat → Rat
 | 0 => 0
 | i + 1 => (accQ l top i + getQ l (top - i, 0, true)) + getQ l (top - i, 0, false)
def midQ (l : Sp) (top i : Nat) : Rat := accQ l top i + getQ l (top - i, 0, true)
end
section
open Go.RowKit
end
section
open Go.RowKit
theorem o_11p : ∀ {l : Sp}, Uq l → ∀ p ∈ l, getQ l p.1 = p.2
 | q :: l, hu, p, hp => by
  unfold Uq at hu
  rw [List.map_cons, List.nodup_cons] at hu
  unfold getQ
  rcases List.mem_cons.1 hp with rfl | hp
  ·simp
  ·rw [if_neg fun e => hu.1 (List.mem_map.2 ⟨p, hp, e⟩)]
   exact o_11p hu.2 p hp
theorem o_11q : ∀ {l : Sp} {t : St}, getQ l t ≠ 0 → (t, getQ l t) ∈ l
 | [], t, h => by simp [getQ] at h
 | q :: l, t, h => by
  unfold getQ at h ⊢
  split
  ·rename_i e
   simp [e]
  ·rename_i e
   rw [if_neg e] at h
   exact List.mem_cons_of_mem _ (o_11q h)
theorem o_11r {l : Sp} (h : Uq l) : l.Nodup := by
 unfold Uq at h
 rw [List.nodup_iff_pairwise_ne, List.pairwise_map] at h
 exact List.nodup_iff_pairwise_ne.2 (h.imp fun hne e => hne (by rw [e]))
theorem o_11s {A B : Sp} (hA : Uq A) (hB : Uq B) (h : ∀ t, getQ A t = getQ B t) : atQ A = atQ B := by
 have key : ∀ {A B : Sp}, Uq A → (∀ t, getQ A t = getQ B t) → ∀ p, p ∈ nzQ A → p ∈ nzQ B := fun {A B} hA h p hp => by
  obtain ⟨h1, h2⟩ := List.mem_filter.1 hp
  have h3 := o_11p hA p h1
  have h4 : p.2 ≠ 0 := by simpa using h2
  rw [h] at h3
  have h5 := o_11q (l := B) (t := p.1) (by rw [h3]; exact h4)
  rw [h3] at h5
  exact List.mem_filter.2 ⟨h5, h2⟩
 have hp : (nzQ A).Perm (nzQ B) := (List.perm_ext_iff_of_nodup (o_11r (o_vu hA)) (o_11r (o_vu hB))).2 fun p => ⟨key hA h p, key hB (fun t => (h t).symm) p⟩
 refine o_vx hB ((o_vs A).trans hp) ?_
 have h2 : (atQ A).Pairwise fun a b => leP a b = true := List.pairwise_mergeSort o_vq o_vr _
 have h3 : (atQ A).Pairwise fun a b => a.1 ≠ b.1 := by
  have := o_vv hA
  unfold Uq at this
  rwa [List.nodup_iff_pairwise_ne, List.pairwise_map] at this
 refine (h2.and h3).imp ?_
 rintro a b ⟨h4, h5⟩
 unfold leP at h4
 rcases o_vp a.1 b.1 with h | h | h
 ·exact h
 ·exact absurd h h5
 ·rw [h] at h4; simp [h5] at h4
theorem o_11t {k a x : Nat} (h : chP k a 0 = 1) : ratC k a 0 x = chP k a x := by
 unfold ratC
 rw [if_pos (Nat.zero_le _), h, Rat.div_def]
 have : (1 : Rat)⁻¹ = 1 := by decide +kernel
 rw [this, Rat.mul_one]
theorem o_11u (g : St → Rat) (s : St) : exQ g (fullQ false s) = g s := by
 simp only [fullQ, exQ, Bool.or_false]
 grind
theorem o_11v {k a top : Nat} (h0 : chP k a 0 = 1) (g : St → Rat) (s : St) : exQ g (mgQ top k a s (1, 0, false)) = exQ g (stepQ top (chP k a) s) := by
 have e : ratC k a 0 = chP k a := funext fun x => o_11t h0
 show exQ g (timesQ (fullQ false) (timesQ (stepQ top (ratC k a 0)) [(s, 1)])) = _
 rw [o_w2, o_w2, e]
 simp only [exQ, o_11u]
 show 1 * exQ g (stepQ top (chP k a) s) + 0 = _
 rw [Rat.one_mul, Rat.add_zero]
theorem o_11w {k a w : Nat} (h : GoodS k a w) : chP k a 0 = 1 := by
 unfold chP
 split
 ·unfold chM; rw [Rat.pow_zero]
 ·have : expOf k a 0 = 0 := by
   unfold expOf
   split
   ·simp
   ·simp [placeY]
  rw [this]
  rfl
theorem o_11x {k a w : Nat} (h0 : chP k a 0 = 1) (s : St) (n : Nat) : atQ (mrgdQ (topC w) k a (atQ (dstQ k a w s n)) [(((1, 0, false) : St), (1 : Rat))]) = atQ (dstQ k a w s (n + 1)) := by
 have hu : Uq (mrgdQ (topC w) k a (atQ (dstQ k a w s n)) [(((1, 0, false) : St), (1 : Rat))]) := (o_108 (fun _ => 1) _ _ _ _ _ [] (by simp [Uq])).1
 have hx : ∀ g : St → Rat, exQ g (mrgdQ (topC w) k a (atQ (dstQ k a w s n)) [(((1, 0, false) : St), (1 : Rat))]) = exQ g (dstQ k a w s (n + 1)) := fun g => by
  unfold mrgdQ
  rw [(o_108 g (topC w) k a _ _ [] (by simp [Uq])).2, o_vt]
  show _ = exQ g (timesQ (stepQ (topC w) (chP k a)) (dstQ k a w s n))
  rw [o_w2]
  have e1 : exQ g [] = 0 := rfl
  have : (fun s => exQ (fun t => exQ g (mgQ (topC w) k a s t)) [(((1, 0, false) : St), (1 : Rat))]) = fun s => exQ g (stepQ (topC w) (chP k a) s) := funext fun s => by
   simp only [exQ]
   rw [o_11v h0]
   grind
  rw [this, e1, Rat.zero_add]
 refine o_11s hu (o_w3 _ _ _) fun t => ?_
 rw [o_vy t _ hu, show getQ (dstQ k a w s (n + 1)) t = _ from o_vy t _ (o_w3 _ s (n + 1))]
 exact hx _
end
section
open Go.RowKit
def oneQ : Sp := [((1, 0, false), 1)]
theorem o_11y {k a w : Nat} (h : GoodS k a w) : 1 ≤ topC w := by
 have h1 : 1 ≤ w := by have := h.2.1; omega
 have := Nat.pow_le_pow_right (n := 2) (by omega) h1
 unfold topC; omega
theorem o_11z {k a w : Nat} (h : GoodS k a w) {s : St} (hs : okQ (topC w) s) (n : Nat) : 1 ≤ (atQ (dstQ k a w s n)).length ∧ (atQ (dstQ k a w s n)).length ≤ 17 := by
 have h8 : 2 ^ w ≤ 16 := Nat.pow_le_pow_right (n := 2) (by omega) h.2.2
 have h7 : topC w ≤ 15 := by unfold topC; omega
 refine ⟨?_, Nat.le_trans (o_yj _) (Nat.le_trans (o_10x (o_w3 _ _ n) (o_yw (c := chP k a) hs n)) (by omega))⟩
 rw [(o_vs _).length_eq]
 rcases Nat.eq_zero_or_pos (nzQ (dstQ k a w s n)).length with e | e
 ·exact absurd (List.eq_nil_of_length_eq_zero e) (o_yy _ _)
 ·exact e
theorem o_120 {k a w : Nat} (h : GoodS k a w) {s : St} (hs : okQ (topC w) s) (n : Nat) (hn : n ≤ 15) : ∃ G M, MrgOK k a w (mgQ (topC w) k a) (atQ (dstQ k a w s n)) oneQ G M 17 1 := by
 have h8 : 2 ^ w ≤ 16 := Nat.pow_le_pow_right (n := 2) (by omega) h.2.2
 have h7 : topC w ≤ 15 := by unfold topC; omega
 have ht := o_11y h
 obtain ⟨c0, c1⟩ := o_z1 h
 obtain ⟨G0, hG, hG63, hc, hr⟩ := o_zg h
 have gA := o_10y h7 c0 c1 (fun x hx => hc x (by omega)) hs n
 have okA := o_we (c := chP k a) c0 c1 hs n
 obtain ⟨qA, lA⟩ := o_11z h hs n
 have mem : ∀ p ∈ atQ (dstQ k a w s n), p ∈ dstQ k a w s n := fun p hp => (List.mem_filter.1 ((o_vs _).mem_iff.1 hp)).1
 have sG : size G0 ≤ 1 := o_md (Nat.lt_of_le_of_lt hG63 (by decide))
 have s24 : size 80 ≤ 1 := o_md (by decide)
 have pG := fun n => o_yz G0 sG n
 have p24 := fun n => o_yz 80 s24 n
 obtain ⟨A, hA⟩ : ∃ A, A = atQ (dstQ k a w s n) := ⟨_, rfl⟩
 have okA' : oklQ (topC w) A := by rw [hA]; exact o_wa okA
 have oko : okQ (topC w) (1, 0, false) := ⟨ht, rfl, by simp⟩
 have rA : ∀ p ∈ A, RS p.2 40000 ∧ Gr (G0 ^ n) (80 ^ n) p.2 := fun p hp => ⟨(gA p (mem p (hA ▸ hp))).rs (Nat.pow_pos hG) (Nat.pow_pos (by decide)) (by
  have := o_o4 (80 ^ n) (G0 ^ n); have := pG n; have := p24 n; omega), gA p (mem p (hA ▸ hp))⟩
 rw [← hA] at lA qA
 obtain ⟨G, hGe⟩ : ∃ G, G = G0 ^ n * G0 ^ 8 := ⟨_, rfl⟩
 obtain ⟨M, hMe⟩ : ∃ M, M = 80 ^ n * 80 ^ 8 := ⟨_, rfl⟩
 have Gp : 0 < G := by rw [hGe]; exact Nat.mul_pos (Nat.pow_pos hG) (Nat.pow_pos hG)
 have Mp : 1 ≤ M := by rw [hMe]; exact Nat.mul_pos (Nat.pow_pos (by decide)) (Nat.pow_pos (by decide))
 have Gs : size G ≤ 30 := by
  rw [hGe]
  have := o_o4 (G0 ^ n) (G0 ^ 8); have := pG n; have := pG 8; omega
 have Ms : size M ≤ 30 := by
  rw [hMe]
  have := o_o4 (80 ^ n) (80 ^ 8); have := p24 n; have := p24 8; omega
 have B1 : ∀ y ∈ oneQ, y = (((1, 0, false) : St), (1 : Rat)) := fun y hy => by simpa [oneQ] using hy
 have mgm : ∀ x ∈ A, ∀ p ∈ atQ (mgQ (topC w) k a x.1 (1, 0, false)), p ∈ mgQ (topC w) k a x.1 (1, 0, false) := fun x hx p hp => (List.mem_filter.1 ((o_vs _).mem_iff.1 hp)).1
 have hgr : ∀ x ∈ A, ∀ y ∈ oneQ, (∀ p ∈ atQ (mgQ (topC w) k a x.1 y.1), Gr G M (x.2 * y.2 * p.2)) ∧ (atQ (mgQ (topC w) k a x.1 y.1)).length ≤ 17 := fun x hx y hy => by
  rw [B1 y hy]
  refine ⟨fun p hp => ?_, Nat.le_trans (o_yj _) (Nat.le_trans (o_112 (mg_uq _ _) (mg_ok h (okA' x hx).1 oko)) (by omega))⟩
  rw [hGe, hMe, Rat.mul_one]
  exact (rA x hx).2.mul (o_117 h hr (okA' x hx).1 (by simp) p (mgm x hx p hp))
 have hgo := o_11l (mg := mgQ (topC w) k a) (L := 1) (B := oneQ) (by simp [oneQ]) hgr A.length (Nat.le_refl _)
 rw [o_11j] at hgo
 have e81 : A.length * (1 * 17) * M ≤ 400 * M := Nat.mul_le_mul_right M (by omega)
 have hout : ∀ p ∈ mrgG (mgQ (topC w) k a) A oneQ, Gr G (400 * M) p.2 := fun p hp => (hgo p hp).le e81
 have sz1 : size (100000 * M * G) ≤ 1000 := by
  have := o_o4 (100000 * M) G; have := o_o4 100000 M
  have : size 100000 ≤ 1 := o_md (by decide)
  omega
 have hat : atQ (mrgG (mgQ (topC w) k a) A oneQ) = atQ (dstQ k a w s (n + 1)) := by
  rw [hA]; exact o_11x (o_11w h) s n
 have hu : Uq (mrgG (mgQ (topC w) k a) A oneQ) := (o_108 (fun _ => 1) _ _ _ _ _ [] (by simp [Uq])).1
 have hnz : nzQ (mrgG (mgQ (topC w) k a) A oneQ) ≠ [] := fun e => by
  have h1 := congrArg List.length hat
  rw [(o_vs _).length_eq, e] at h1
  have := (o_11z h hs (n + 1)).1
  simp at h1
  omega
 have hnl : (nzQ (mrgG (mgQ (topC w) k a) A oneQ)).length ≤ 40 := by
  rw [← (o_vs _).length_eq, hat]
  have := (o_11z h hs (n + 1)).2
  omega
 refine ⟨G, M, ?_⟩
 rw [← hA]
 refine ⟨Gp, Mp, by omega, by omega, by omega, qA, by omega, by simp [oneQ], by simp [oneQ], by omega, fun x hx => ⟨(okA' x hx).2, (rA x hx).1⟩, fun y hy => ?_, hgr, fun x hx y hy p hp => ?_, ?_, ?_, fun x hx y hy => ?_, ?_⟩
 ·rw [B1 y hy]; exact ⟨by decide, o_wn.le (by omega)⟩
 ·rw [B1 y hy] at hp
  refine (o_117 h hr (okA' x hx).1 (by simp) p (mgm x hx p hp)).rs (Nat.pow_pos hG) (Nat.pow_pos (by decide)) ?_
  have := o_o4 (80 ^ 8) (G0 ^ 8); have := pG 8; have := p24 8; omega
 ·refine Nat.le_trans (o_kn ?_) (Nat.le_trans sz1 (by omega))
  refine Nat.mul_le_mul_right G (Nat.mul_le_mul_right M ?_)
  omega
 ·have hl : ((A ++ oneQ).map (·.1)).length = A.length + oneQ.length := by simp
  have := o_103 (.inr ⟨by have := h.1; omega, o_rb h⟩) (by have := h.1; omega) h.2.2 ((A ++ oneQ).map (·.1)) (by simp [oneQ]; omega) (fun s hs => ?_)
  ·rwa [hl] at this
  ·obtain ⟨p, hp, rfl⟩ := List.mem_map.1 hs
   rcases List.mem_append.1 hp with hp | hp
   ·exact wellQ h (okA' p hp).1
   ·rw [B1 p hp]; exact wellQ h oko
 ·rw [B1 y hy]
  exact ⟨o_104 h x.1 (1, 0, false) (okA' x hx).1 ht (by simp), o_116 h (by simp) (okA' x hx).1 oko⟩
 ·have hlen : (mrgG (mgQ (topC w) k a) A oneQ).length ≤ 1000000 := by
   have hoko : oklQ (topC w) (mrgG (mgQ (topC w) k a) A oneQ) := by
    have := o_11d h okA' (B := oneQ) (fun y hy => by rw [B1 y hy]; exact ⟨oko, by decide⟩) A.length (Nat.le_refl _)
    rwa [o_11b] at this
   have := o_112 hu hoko
   omega
  refine o_y7 _ hu hnz hnl hlen fun p hp => ?_
  refine (hout p hp).rs Gp (Nat.mul_pos (by decide) Mp) (Nat.le_trans (o_kn ?_) (Nat.le_trans sz1 (by omega)))
  exact Nat.mul_le_mul_right G (Nat.mul_le_mul_right M (by omega))
end
end Go.Proofs.YtjbcbbfhcbnncaaGreatDoor.Am
