/- Parts of the proof: RtA, RtB, DecT, RtC, FlatM, Float3, Rise1, Val1, MorM, Mor1, SortL, DecP, YuP, Reg5, ChainG, ChainH, AmLaw, Reg6, AmCu, AmTT, TabL, PmfM, PmfN, Pmf1, Pmf4, Pmf2, Pmf3, Pmf5, Pmf6, Pmf7, SortK, SortM, SortO, Pmf8, PmfG, Pmf9, PmfA, PmfB, PmfK, PmfC, PmfI, PmfJ, Mor3, Mor4, PmfO, PmfP, PmfQ, PmfU, PcA, PmfR, PmfS, PmfT, PmfV, PmfW, PmfY, PmfZ, PmfCa, PmfCb, PmfCc, PmfD, PmfE, PmfF, PmfCd, PcB, TailN, PcC, PcD. -/
import Derived.Test.YtmpjlkclkhnpfaaGreatDoorPf
set_option linter.unusedVariables false
set_option linter.unusedSimpArgs false
set_option maxRecDepth 100000
namespace Go.Proofs.YtmpjlkclkhnpfaaGreatDoor.Am
section
open Go.RowKit
def txtZ (z : Int) : ByteArray := if z < 0 then ⟨#[45]⟩ ++ txt z.natAbs else txt z.natAbs
def txtQ (q : Rat) : ByteArray := if q.den = 1 then txtZ q.num else txtZ q.num ++ ⟨#[47]⟩ ++ txt q.den
theorem o_vm (n : Nat) : (txt n).size = ndig n := by
 unfold txt bst
 show ((decN n).map UInt8.ofNat).toArray.size = ndig n
 simp [o_mr]
theorem o_vn {n E : Nat} (h : n < 2 ^ E) (h0 : 0 < E) : (txt n).size ≤ E := by
 rw [o_vm]
 exact o_mk n E (Nat.lt_of_lt_of_le h (Nat.pow_le_pow_left (by decide) E)) h0
theorem o_vo (n : Nat) : n < 2 ^ (64 * size n) := by
 have h := o_jo (o_kk n)
 rw [o_kj] at h
 rw [Nat.pow_mul]
 exact h
theorem o_vp {n : Nat} (h : size n ≤ 1000) : (txt n).size ≤ 64000 := by
 obtain ⟨k, hk⟩ : ∃ k, k = 64000 := ⟨_, rfl⟩
 rw [← hk]
 exact o_vn (Nat.lt_of_lt_of_le (o_vo n) (Nat.pow_le_pow_right (by decide) (by omega))) (by omega)
theorem o_vq {z : Int} (h : size z.natAbs ≤ 1000) : (txtZ z).size ≤ 64001 := by
 have := o_vp h
 unfold txtZ
 split
 ·rw [ByteArray.size_append]
  show 1 + _ ≤ _
  omega
 ·omega
theorem o_vr (z : Int) (h : size z.natAbs ≤ 1000) : Eqn Tryz.prog o_8g [.d (wD z)] [] (.d (.str (txtZ z))) [] := by
 refine Eqn.pure o_8i (o_58 _) ?_
 have h1 := o_pc z.natAbs h
 have hs := o_vp h
 have e : txtZ z = if z < 0 then ⟨#[45]⟩ ++ txt z.natAbs else txt z.natAbs := rfl
 simp only [o_8h, wD]
 by_cases hz : z < 0
 ·rw [if_pos hz] at e
  rw [e]
  have hd : decide (z < 0) = true := by simp [hz]
  have hl : (⟨#[45]⟩ : ByteArray).size = 1 := rfl
  rw [hd]
  generalize txt z.natAbs = S at *
  generalize natW z.natAbs = N at *
  refine A11 hl h1 ?_; try with_reducible exact tt
 ·rw [if_neg hz] at e
  rw [e]
  have hd : decide (z < 0) = false := by simp; omega
  rw [hd]
  generalize txt z.natAbs = S at *
  generalize natW z.natAbs = N at *
  refine A01 h1 ?_; try with_reducible exact tt
theorem o_vs (q : Rat) (h : RS q 1000) : Eqn Tryz.prog o_6s [.d (rD q)] [] (.d (.str (txtQ q))) [] := by
 refine Eqn.pure o_6u (o_58 _) ?_
 have hwh : Eqn Tryz.prog o_8d [.d (rD q)] [] (.d (.bool (q.den - 1 == 0))) [] := by
  refine Eqn.pure o_8f Plain.ok ?_
  have hz := o_ku (q.den - 1)
  simp only [o_8e, rD]
  generalize (q.den - 1 == 0) = b at *
  generalize natW (q.den - 1) = N at *
  refine A01 hz ?_; try with_reducible exact tt
 have hpos := q.den_pos
 have h1 := o_vr q.num h.1
 have h2 := o_r2 q (by have := h.2; omega)
 have h3 := o_pc q.den h.2
 have s1 := o_vq h.1
 have s2 := o_vp h.2
 have e : txtQ q = if q.den = 1 then txtZ q.num else txtZ q.num ++ ⟨#[47]⟩ ++ txt q.den := rfl
 simp only [o_6t, rD, wD] at *
 by_cases hd : q.den = 1
 ·rw [if_pos hd] at e
  rw [e]
  rw [show (q.den - 1 == 0) = true by simp; omega] at hwh
  generalize txtZ q.num = S at *
  generalize natW (q.den - 1) = N2 at *
  generalize natW q.num.natAbs = N at *
  generalize decide (q.num < 0) = b at *
  refine A02 hwh h1 ?_; try with_reducible exact tt
 ·rw [if_neg hd] at e
  rw [e]
  rw [show (q.den - 1 == 0) = false by simp; omega] at hwh
  generalize txtZ q.num = S at *
  generalize txt q.den = S2 at *
  generalize natW q.den = N3 at *
  generalize natW (q.den - 1) = N2 at *
  generalize natW q.num.natAbs = N at *
  generalize decide (q.num < 0) = b at *
  have hl : (⟨#[47]⟩ : ByteArray).size = 1 := rfl
  refine A14 hl hwh h1 h2 h3 ?_; try with_reducible exact tt
end
section
open Go.RowKit
theorem o_vt {x E : Nat} (h : x < 2 ^ E) : x < 10000 ^ E := Nat.lt_of_lt_of_le h (Nat.pow_le_pow_left (by decide) E)
theorem sizeB {x E m : Nat} (h : x < 2 ^ E) (hm : E ≤ 13 * m) : sizeD x ≤ m := by
 refine o_vg (Nat.lt_of_lt_of_le h (Nat.le_trans (Nat.pow_le_pow_right (by decide) hm) ?_))
 rw [Nat.pow_mul]
 exact Nat.pow_le_pow_left (by decide) m
theorem o_vu {x y E F : Nat} (hx : x < 2 ^ E) (hy : y < 2 ^ F) : x * y < 2 ^ (E + F) := by
 rw [Nat.pow_add]
 exact Nat.mul_lt_mul'' hx hy
theorem o_vv {x y E : Nat} (hx : x < 2 ^ E) (hy : y < 2 ^ E) : x + y < 2 ^ (E + 1) := by
 rw [Nat.pow_succ]; omega
theorem o_vw {x E F : Nat} (hx : x < 2 ^ E) (h : E ≤ F) : x < 2 ^ F := Nat.lt_of_lt_of_le hx (Nat.pow_le_pow_right (by decide) h)
set_option maxHeartbeats 1000000 in
theorem o_vx (x y E : Nat) (hE : E ≤ 50000) (hx : x < 2 ^ E) (hy : y < 2 ^ E) : Eqn Tryz.prog o_dc [.d (nD x), .d (nD y)] [] (.d (nD (Nat.gcd x y))) [] := by
 refine Eqn.pure o_de Plain.ok ?_
 obtain ⟨g, hg⟩ : ∃ g, g = Nat.gcd x y := ⟨_, rfl⟩
 rw [← hg]
 simp only [o_dd]
 refine A00 ?_; try with_reducible exact tt
 refine AW.loopT (α := Nat × Nat) 0 (fun s => [(0, .d (nD s.1)), (1, .d (nD s.2))]) (fun _ => []) (fun s => s.1 < 2 ^ E ∧ s.2 < 2 ^ E ∧ Nat.gcd s.1 s.2 = g) (fun s => s.2) (x, y) ?_ ?_ ⟨hx, hy, hg.symm⟩ ?_ ?_ ?_
 ·simp
 ·simp
 ·simp
 ·simp
 rintro ⟨a, b⟩ ⟨ha, hb, hgab⟩
 simp only at ha hb hgab
 simp
 by_cases hb0 : b = 0
 ·subst hb0
  rw [Nat.gcd_zero_right] at hgab
  subst hgab
  rw [o_v1]
  generalize qA : nD a = A at *
  obtain ⟨nA, lA, rfl⟩ : ∃ n l, A = D.sl n l := ⟨_, _, qA.symm⟩
  clear qA
  refine A00 ?_; try with_reducible exact tt
 ·have hdiv := o_vj a b E (by omega) hE (o_vt ha) (o_vt hb)
  have hm : a % b < b := Nat.mod_lt _ (by omega)
  have hgr : Nat.gcd b (a % b) = g := by rw [← hgab, Nat.gcd_comm a b, Nat.gcd_rec b a, Nat.gcd_comm]
  have hsz : sizeD b ≠ 0 := fun h => hb0 (o_sc.1 (List.eq_nil_of_length_eq_zero h))
  have hsz2 : 0 < sizeD b := by omega
  have hsz3 : (0 : Int) < sizeD b := by omega
  generalize a % b = r at *
  generalize a / b = q at *
  simp only [nD] at hdiv ⊢
  refine A11 (fs hsz2 hsz3) hdiv ?_; try with_reducible exact tt
  exact ⟨b, r, ⟨hb, Nat.lt_trans hm hb, hgr⟩, hm, ⟨Sub1.refl _, Sub1.refl _⟩⟩
def zW (p m : Nat) : D := .agg [nD p, nD m]
theorem o_vy (p m q n E : Nat) (hE : E ≤ 200000) (h1 : p < 2 ^ E) (h2 : m < 2 ^ E) (h3 : q < 2 ^ E) (h4 : n < 2 ^ E) : Eqn Tryz.prog o_e6 [.d (zW p m), .d (zW q n)] [] (.d (zW (p + q) (m + n))) [] := by
 refine Eqn.pure o_e8 Plain.ok ?_
 have a1 := o_v8 p q (sizeB h1 (by omega)) (sizeB h3 (by omega))
 have a2 := o_v8 m n (sizeB h2 (by omega)) (sizeB h4 (by omega))
 simp only [o_e7, zW]
 generalize qD1 : nD (p + q) = D1 at *
 obtain ⟨nD1, lD1, rfl⟩ : ∃ n l, D1 = D.sl n l := ⟨_, _, qD1.symm⟩
 clear qD1
 generalize qD2 : nD (m + n) = D2 at *
 obtain ⟨nD2, lD2, rfl⟩ : ∃ n l, D2 = D.sl n l := ⟨_, _, qD2.symm⟩
 clear qD2
 generalize qD3 : nD p = D3 at *
 obtain ⟨nD3, lD3, rfl⟩ : ∃ n l, D3 = D.sl n l := ⟨_, _, qD3.symm⟩
 clear qD3
 generalize qD4 : nD m = D4 at *
 obtain ⟨nD4, lD4, rfl⟩ : ∃ n l, D4 = D.sl n l := ⟨_, _, qD4.symm⟩
 clear qD4
 generalize qD5 : nD q = D5 at *
 obtain ⟨nD5, lD5, rfl⟩ : ∃ n l, D5 = D.sl n l := ⟨_, _, qD5.symm⟩
 clear qD5
 generalize qD6 : nD n = D6 at *
 obtain ⟨nD6, lD6, rfl⟩ : ∃ n l, D6 = D.sl n l := ⟨_, _, qD6.symm⟩
 clear qD6
 refine A02 a1 a2 ?_; try with_reducible exact tt
theorem o_vz (p m : Nat) : Eqn Tryz.prog o_ec [.d (zW p m)] [] (.d (zW m p)) [] := by
 refine Eqn.pure o_ee Plain.ok ?_
 simp only [o_ed, zW]
 generalize qD3 : nD p = D3 at *
 obtain ⟨nD3, lD3, rfl⟩ : ∃ n l, D3 = D.sl n l := ⟨_, _, qD3.symm⟩
 clear qD3
 generalize qD4 : nD m = D4 at *
 obtain ⟨nD4, lD4, rfl⟩ : ∃ n l, D4 = D.sl n l := ⟨_, _, qD4.symm⟩
 clear qD4
 refine A00 ?_; try with_reducible exact tt
theorem o_w0 (p m q n E : Nat) (hE : E ≤ 200000) (h1 : p < 2 ^ E) (h2 : m < 2 ^ E) (h3 : q < 2 ^ E) (h4 : n < 2 ^ E) : Eqn Tryz.prog o_eo [.d (zW p m), .d (zW q n)] [] (.d (zW (p * q + m * n) (p * n + m * q))) [] := by
 refine Eqn.pure o_eq Plain.ok ?_
 have a1 := o_vf p q (sizeB h1 (by omega)) (sizeB h3 (by omega))
 have a2 := o_vf m n (sizeB h2 (by omega)) (sizeB h4 (by omega))
 have a3 := o_vf p n (sizeB h1 (by omega)) (sizeB h4 (by omega))
 have a4 := o_vf m q (sizeB h2 (by omega)) (sizeB h3 (by omega))
 have a5 := o_v8 (p * q) (m * n) (sizeB (o_vu h1 h3) (by omega)) (sizeB (o_vu h2 h4) (by omega))
 have a6 := o_v8 (p * n) (m * q) (sizeB (o_vu h1 h4) (by omega)) (sizeB (o_vu h2 h3) (by omega))
 simp only [o_ep, zW]
 generalize qD1 : nD (p * q + m * n) = D1 at *
 obtain ⟨nD1, lD1, rfl⟩ : ∃ n l, D1 = D.sl n l := ⟨_, _, qD1.symm⟩
 clear qD1
 generalize qD2 : nD (p * n + m * q) = D2 at *
 obtain ⟨nD2, lD2, rfl⟩ : ∃ n l, D2 = D.sl n l := ⟨_, _, qD2.symm⟩
 clear qD2
 generalize qD7 : nD (p * q) = D7 at *
 obtain ⟨nD7, lD7, rfl⟩ : ∃ n l, D7 = D.sl n l := ⟨_, _, qD7.symm⟩
 clear qD7
 generalize qD8 : nD (m * n) = D8 at *
 obtain ⟨nD8, lD8, rfl⟩ : ∃ n l, D8 = D.sl n l := ⟨_, _, qD8.symm⟩
 clear qD8
 generalize qD9 : nD (p * n) = D9 at *
 obtain ⟨nD9, lD9, rfl⟩ : ∃ n l, D9 = D.sl n l := ⟨_, _, qD9.symm⟩
 clear qD9
 generalize qD0 : nD (m * q) = D0 at *
 obtain ⟨nD0, lD0, rfl⟩ : ∃ n l, D0 = D.sl n l := ⟨_, _, qD0.symm⟩
 clear qD0
 generalize qD3 : nD p = D3 at *
 obtain ⟨nD3, lD3, rfl⟩ : ∃ n l, D3 = D.sl n l := ⟨_, _, qD3.symm⟩
 clear qD3
 generalize qD4 : nD m = D4 at *
 obtain ⟨nD4, lD4, rfl⟩ : ∃ n l, D4 = D.sl n l := ⟨_, _, qD4.symm⟩
 clear qD4
 generalize qD5 : nD q = D5 at *
 obtain ⟨nD5, lD5, rfl⟩ : ∃ n l, D5 = D.sl n l := ⟨_, _, qD5.symm⟩
 clear qD5
 generalize qD6 : nD n = D6 at *
 obtain ⟨nD6, lD6, rfl⟩ : ∃ n l, D6 = D.sl n l := ⟨_, _, qD6.symm⟩
 clear qD6
 refine A06 a1 a2 a3 a4 a5 a6 ?_; try with_reducible exact tt
theorem o_w1 (p m E : Nat) (hE : E ≤ 200000) (h1 : p < 2 ^ E) (h2 : m < 2 ^ E) : Eqn Tryz.prog o_dl [.d (zW p m)] [] (.d (.bool (decide (p < m)))) [] := by
 refine Eqn.pure o_dn Plain.ok ?_
 have a1 := o_v9 p m (sizeB h1 (by omega)) (sizeB h2 (by omega))
 simp only [o_dm, zW]
 have hz : decide (cmpZ p m < 0) = decide (p < m) := by unfold cmpZ; split <;> (try split) <;> simp <;> omega
 rw [← hz]
 generalize cmpZ p m = z at *
 generalize qD3 : nD p = D3 at *
 obtain ⟨nD3, lD3, rfl⟩ : ∃ n l, D3 = D.sl n l := ⟨_, _, qD3.symm⟩
 clear qD3
 generalize qD4 : nD m = D4 at *
 obtain ⟨nD4, lD4, rfl⟩ : ∃ n l, D4 = D.sl n l := ⟨_, _, qD4.symm⟩
 clear qD4
 refine A01 a1 ?_; try with_reducible exact tt
theorem o_w2 (p m E : Nat) (hE : E ≤ 200000) (h1 : p < 2 ^ E) (h2 : m < 2 ^ E) : Eqn Tryz.prog o_d9 [.d (zW p m)] [] (.d (nD ((p : Int) - m).natAbs)) [] := by
 refine Eqn.pure o_db Plain.ok ?_
 have a1 := o_v9 p m (sizeB h1 (by omega)) (sizeB h2 (by omega))
 simp only [o_da, zW]
 rcases Nat.lt_or_ge p m with h | h
 ·have a2 := o_va m p (by omega) (sizeB h2 (by omega)) (sizeB h1 (by omega))
  rw [show ((p : Int) - m).natAbs = m - p by omega]
  have hz : ¬ 0 ≤ cmpZ p m := by unfold cmpZ; rw [if_pos h]; decide
  have hz' : cmpZ p m < 0 := by omega
  generalize cmpZ p m = z at *
  generalize qD1 : nD (m - p) = D1 at *
  obtain ⟨nD1, lD1, rfl⟩ : ∃ n l, D1 = D.sl n l := ⟨_, _, qD1.symm⟩
  clear qD1
  generalize qD3 : nD p = D3 at *
  obtain ⟨nD3, lD3, rfl⟩ : ∃ n l, D3 = D.sl n l := ⟨_, _, qD3.symm⟩
  clear qD3
  generalize qD4 : nD m = D4 at *
  obtain ⟨nD4, lD4, rfl⟩ : ∃ n l, D4 = D.sl n l := ⟨_, _, qD4.symm⟩
  clear qD4
  refine A12 (fs hz hz') a1 a2 ?_; try with_reducible exact tt
 ·have a2 := o_va p m h (sizeB h1 (by omega)) (sizeB h2 (by omega))
  rw [show ((p : Int) - m).natAbs = p - m by omega]
  have hz : 0 ≤ cmpZ p m := by unfold cmpZ; rw [if_neg (by omega)]; split <;> decide
  have hz' : ¬ cmpZ p m < 0 := by omega
  generalize cmpZ p m = z at *
  generalize qD1 : nD (p - m) = D1 at *
  obtain ⟨nD1, lD1, rfl⟩ : ∃ n l, D1 = D.sl n l := ⟨_, _, qD1.symm⟩
  clear qD1
  generalize qD3 : nD p = D3 at *
  obtain ⟨nD3, lD3, rfl⟩ : ∃ n l, D3 = D.sl n l := ⟨_, _, qD3.symm⟩
  clear qD3
  generalize qD4 : nD m = D4 at *
  obtain ⟨nD4, lD4, rfl⟩ : ∃ n l, D4 = D.sl n l := ⟨_, _, qD4.symm⟩
  clear qD4
  refine A12 (fs hz hz') a1 a2 ?_; try with_reducible exact tt
theorem o_w3 (n : Nat) (h : n < 9223372036854775808) : Eqn Tryz.prog o_du [.d (.int .i64 n)] [] (.d (zW n 0)) [] := by
 refine Eqn.pure o_dw Plain.ok ?_
 have h1 := o_vl n (by omega)
 have e1 : IntKind.u64.wrap (n : Int) = n := by rw [IntKind.wrap_u64]; omega
 have e2 : (0 : Int) ≤ n := by omega
 have e3 : ¬ (n : Int) < 0 := by omega
 simp only [o_dv, zW]
 rw [o_v1]
 generalize qN : nD n = N at *
 obtain ⟨nN, lN, rfl⟩ : ∃ n l, N = D.sl n l := ⟨_, _, qN.symm⟩
 clear qN
 refine A10 (fs e1 (fs e2 e3)) ?_; try with_reducible exact tt
 refine CallS.pf 1 1 ⟨194, [.d (.int .u64 n)]⟩ [.int .u64 n] (h1) (by first | rfl | (simp [e1, e2, e3]; done)) (R1 (fs e1 (fs e2 e3)) ?_); try with_reducible exact tt
 exact Sub1.aggd (Subs.cons (Sub1.refl _) (Subs.cons Sub1.nil (Subs.refl _)))
end
section
open Go.RowKit
@[simp] theorem o_w4 : intsV [] = some [] := rfl
@[simp] theorem o_w5 (n : Int) : intsV [.d (.int .u8 n)] = some [n] := rfl
theorem o_w6 (n : Nat) : ∀ i, i ≤ sizeD n → dval ((decs n).take i) = n % 10000 ^ i := by
 intro i hi
 have h1 := o_ro ((decs n).take i) ((decs n).drop i)
 rw [List.take_append_drop, o_s8, List.length_take, Nat.min_eq_left (show i ≤ (decs n).length from hi)] at h1
 have h2 := o_s5 (o_s9 n) i
 generalize dval ((decs n).take i) = T at *
 generalize dval ((decs n).drop i) = R at *
 rw [h1, Nat.add_mul_mod_self_left, Nat.mod_eq_of_lt h2]
theorem o_w7 (n i : Nat) (hi : i < sizeD n) : (decs n).getD i 0 = n / 10000 ^ i % 10000 := by
 have h1 := o_rw (decs n) i
 rw [o_w6 n (i + 1) hi, o_w6 n i (by omega), Nat.pow_succ, Nat.mod_mul] at h1
 have hp : 0 < 10000 ^ i := Nat.pow_pos (by decide)
 have h2 : 10000 ^ i * (n / 10000 ^ i % 10000) = 10000 ^ i * (decs n).getD i 0 := by omega
 exact (Nat.eq_of_mul_eq_mul_left hp h2).symm
theorem o_w8 (n : Nat) : n < 10000 ^ sizeD n := by
 have := o_rq (o_s9 n)
 rwa [o_s8] at this
theorem o_w9 (n i : Nat) (hi : i < sizeD n) : 0 < n / 10000 ^ i := by
 rcases Nat.eq_zero_or_pos (n / 10000 ^ i) with h | h
 ·have hp : 0 < 10000 ^ i := Nat.pow_pos (by decide)
  have h1 : n < 10000 ^ i := (Nat.div_eq_zero_iff_lt hp).1 h
  have h2 := o_ru (ws := decs n) (m := i) (o_sa n) (by rw [o_s8]; exact h1)
  unfold sizeD at hi
  omega
 ·exact h
theorem pow4 (i : Nat) : 10000 ^ i = 10 ^ (4 * i) := by rw [Nat.pow_mul]
def dN (n i : Nat) : List Nat := if i < sizeD n then padN (4 * i) n else decN n
def qD (w k : Nat) : Nat := w / 10 ^ k
theorem o_wa (w k : Nat) : qD w (k + 1) = qD w k / 10 := by rw [qD, qD, Nat.div_div_eq_div_mul, Nat.pow_succ]
theorem o_wb (w k : Nat) : padN (k + 1) w = (48 + qD w k % 10) :: padN k w := by
 rw [Nat.add_comm, o_mb]; rfl
theorem o_wc (c : Nat) (l : List Nat) : bst [c] ++ bst l = bst (c :: l) := o_mo [c] l
theorem o_wd (c : Nat) : strOf [(c : Int)] = bst [c] := rfl
set_option maxHeartbeats 2000000 in
theorem o_we (n : Nat) (hn : sizeD n ≤ 10000) : Eqn Tryz.prog o_di [.d (nD n)] [] (.d (.str (txt n))) [] := by
 refine Eqn.pure o_dk Plain.ok ?_
 simp only [o_dj, nD]
 by_cases h0 : n = 0
 ·subst h0
  have e : sizeD 0 = 0 := rfl
  rw [e, o_p7]
  refine A00 ?_; try with_reducible exact tt
 have hL : 0 < sizeD n := by
  rcases Nat.eq_zero_or_pos (sizeD n) with h | h
  ·exact absurd (o_sc.1 (List.eq_nil_of_length_eq_zero h)) h0
  ·exact h
 have hL' : ¬ (sizeD n : Int) = 0 := by omega
 have hL2 : ¬ sizeD n = 0 := by omega
 have hdl : (dsD (decs n)).length = sizeD n := o_uy _
 have hget := fun i h => o_w7 n i h
 have hgd := fun i => o_uz (decs n) i
 obtain ⟨DS, hDS⟩ : ∃ DS, DS = dsD (decs n) := ⟨_, rfl⟩
 rw [← hDS] at hdl hgd ⊢
 refine A10 (fs hL' hL2) ?_; try with_reducible exact tt
 refine AW.loopT (α := Nat) 0 (fun i => [(3, .d (.str (bst (dN n i)))), (4, .d (.int .i64 (i : Nat)))]) (fun i => []) (fun i => i ≤ sizeD n) (fun i => sizeD n - i) 0 ?_ ?_ (Nat.zero_le _) ?_ ?_ ?_
 ·simp
 ·simp
 ·simp [dN, hL, padN, o_mq]
 ·simp
 intro i hi
 simp
 by_cases hin : i < sizeD n
 ·have hin' : (i : Int) < sizeD n := by omega
  have hge := o_w9 n i hin
  have hgi := hget i hin
  have hgdi := hgd i (by unfold sizeD at hin; exact hin)
  rw [hgi] at hgdi
  obtain ⟨w, hw⟩ : ∃ w, w = n / 10000 ^ i % 10000 := ⟨_, rfl⟩
  rw [← hw] at hgdi
  have hw4 : w < 10000 := by rw [hw]; exact Nat.mod_lt _ (by decide)
  have hd0 : dN n i = padN (4 * i) n := if_pos hin
  have hlen : (padN (4 * i) n).length = 4 * i := o_ma _ _
  obtain ⟨K, hK4, hKc, hKe⟩ : ∃ K, K ≤ 4 ∧ (∀ k, k ≤ K → (k < K ↔ (k < 4 ∧ (i < sizeD n - 1 ∨ 0 < qD w k)))) ∧ padN K w ++ padN (4 * i) n = dN n (i + 1) := by
   by_cases hlast : i < sizeD n - 1
   ·refine ⟨4, Nat.le_refl _, fun k hk => by simp [hlast], ?_⟩
    rw [dN, if_pos (by omega), show 4 * (i + 1) = 4 + 4 * i by omega, o_mb, ← pow4, hw, show (10000 : Nat) = 10 ^ 4 from rfl, o_mg]
   ·have hi1 : i + 1 = sizeD n := by omega
    have hwv : w = n / 10000 ^ i := by
     rw [hw, Nat.mod_eq_of_lt]
     have := o_w8 n
     rw [← hi1, Nat.pow_succ] at this
     exact Nat.div_lt_of_lt_mul this
    refine ⟨ndig w, o_mk w 4 hw4 (by decide), fun k hk => ?_, ?_⟩
    ·have h4 := o_mk w 4 hw4 (by decide)
     constructor
     ·intro hlt
      refine ⟨by omega, .inr ?_⟩
      rcases Nat.eq_zero_or_pos (qD w k) with h | h
      ·have h5 : w < 10 ^ k := (Nat.div_eq_zero_iff_lt (Nat.pow_pos (by decide))).1 h
       rcases Nat.eq_zero_or_pos k with rfl | hk0
       ·simp at h5; omega
       ·have := o_mk w k h5 hk0; omega
      ·exact h
     ·rintro ⟨-, h | h⟩
      ·exact absurd h hlast
      ·have := o_ml k w h
       have := o_mi (w / 10 ^ k)
       omega
    ·rw [dN, if_neg (by omega), o_mm (4 * i) n (by rw [← pow4]; exact hge), hwv, ← pow4]
     rfl
  rw [hd0]
  obtain ⟨P0, hP0⟩ : ∃ P, P = padN (4 * i) n := ⟨_, rfl⟩
  rw [← hP0] at hKe hlen ⊢
  have hgd2 : ∀ h, DS[i]'h = .int .i64 (w : Nat) := fun h => by
   rw [List.getElem?_eq_getElem h] at hgdi
   exact Option.some.inj hgdi
  have hi48 : i < DS.length := by omega
  clear hDS hgd hget hgi hgdi hge hd0
  refine A10 (fs hin (fs hin' (fs hgd2 hi48))) ?_; try with_reducible exact tt
  refine AW.loopT (α := Nat) 0 (fun k => [(3, .d (.str (bst (padN k w ++ P0)))), (5, .d (.int .i64 (qD w k : Nat))), (6, .d (.int .i64 (k : Nat)))]) (fun k => []) (fun k => k ≤ K) (fun k => K - k) 0 ?_ ?_ (Nat.zero_le _) ?_ ?_ ?_
  ·simp
  ·simp
  ·simp [padN, qD]
  ·simp
  intro k hk
  simp
  have xel : IntKind.i64.wrap ((sizeD n : Int) - 1) = ((sizeD n - 1 : Nat) : Int) := by rw [w64 (by omega) (by omega)]; omega
  have hkc := hKc k hk
  have hqle : qD w k ≤ w := Nat.div_le_self _ _
  obtain ⟨q, hq⟩ : ∃ q, q = qD w k := ⟨_, rfl⟩
  rw [← hq] at hkc hqle ⊢
  generalize hL1 : sizeD n - 1 = L1 at *
  by_cases hk4 : k < 4
  ·have hk4' : (k : Int) < 4 := by omega
   by_cases hla : i < L1
   ·have hla' : (i : Int) < L1 := by omega
    have hkK : k < K := hkc.2 ⟨hk4, .inl hla⟩
    have xek : IntKind.i64.wrap ((k : Int) + 1) = ((k + 1 : Nat) : Int) := by rw [w64 (by omega) (by omega)]; omega
    obtain ⟨r, hr⟩ : ∃ r, r = q % 10 := ⟨_, rfl⟩
    have xm10 : (q : Int).tmod 10 = r := by rw [hr]; exact modN q 10
    have r10 : r < 10 := by rw [hr]; exact Nat.mod_lt _ (by decide)
    obtain ⟨c, hc⟩ : ∃ c, c = 48 + r := ⟨_, rfl⟩
    have xa48 : IntKind.i64.wrap (48 + (r : Int)) = c := by rw [w64 (by omega) (by omega)]; omega
    have xu8c : IntKind.u8.wrap (c : Int) = c := by rw [IntKind.wrap_u8]; omega
    obtain ⟨q1, hq1⟩ : ∃ q1, q1 = q / 10 := ⟨_, rfl⟩
    have xdq : IntKind.i64.wrap ((q : Int) / 10) = q1 := by rw [hq1, w64 (by omega) (by omega)]; omega
    have xsO := o_wd c
    obtain ⟨X, hX⟩ : ∃ X, X = padN k w ++ P0 := ⟨_, rfl⟩
    have hXl : X.length ≤ 50000 := by rw [hX, List.length_append, o_ma, hlen]; omega
    have xbc := o_wc c X
    have hst : padN (k + 1) w ++ P0 = c :: X := by rw [o_wb, hX, hc, hr, hq]; rfl
    have hq' : qD w (k + 1) = q1 := by rw [o_wa, ← hq, hq1]
    rw [← hX]
    clear hr hc hq1 hX hKc hKe
    refine A10 (fs hk4 (fs hk4' (fs hla (fs hla' (fs xel (fs xek (fs xm10 (fs xa48 (fs xu8c (fs xdq (fs xsO xbc))))))))))) ?_; try with_reducible exact tt
    exact ⟨k + 1, by omega, by omega, Sub1.of (by rw [hst]), Sub1.int (by rw [hq']), Sub1.int (by omega)⟩
   ·have hla' : ¬ (i : Int) < L1 := by omega
    by_cases hq0 : 0 < q
    ·have hq0' : (0 : Int) < q := by omega
     have hkK : k < K := hkc.2 ⟨hk4, .inr hq0⟩
     have xek : IntKind.i64.wrap ((k : Int) + 1) = ((k + 1 : Nat) : Int) := by rw [w64 (by omega) (by omega)]; omega
     obtain ⟨r, hr⟩ : ∃ r, r = q % 10 := ⟨_, rfl⟩
     have xm10 : (q : Int).tmod 10 = r := by rw [hr]; exact modN q 10
     have r10 : r < 10 := by rw [hr]; exact Nat.mod_lt _ (by decide)
     obtain ⟨c, hc⟩ : ∃ c, c = 48 + r := ⟨_, rfl⟩
     have xa48 : IntKind.i64.wrap (48 + (r : Int)) = c := by rw [w64 (by omega) (by omega)]; omega
     have xu8c : IntKind.u8.wrap (c : Int) = c := by rw [IntKind.wrap_u8]; omega
     obtain ⟨q1, hq1⟩ : ∃ q1, q1 = q / 10 := ⟨_, rfl⟩
     have xdq : IntKind.i64.wrap ((q : Int) / 10) = q1 := by rw [hq1, w64 (by omega) (by omega)]; omega
     have xsO := o_wd c
     obtain ⟨X, hX⟩ : ∃ X, X = padN k w ++ P0 := ⟨_, rfl⟩
     have hXl : X.length ≤ 50000 := by rw [hX, List.length_append, o_ma, hlen]; omega
     have xbc := o_wc c X
     have hst : padN (k + 1) w ++ P0 = c :: X := by rw [o_wb, hX, hc, hr, hq]; rfl
     have hq' : qD w (k + 1) = q1 := by rw [o_wa, ← hq, hq1]
     rw [← hX]
     clear hr hc hq1 hX hKc hKe
     refine A10 (fs hk4 (fs hk4' (fs hla (fs hla' (fs hq0 (fs hq0' (fs xel (fs xek (fs xm10 (fs xa48 (fs xu8c (fs xdq (fs xsO xbc))))))))))))) ?_; try with_reducible exact tt
     exact ⟨k + 1, by omega, by omega, Sub1.of (by rw [hst]), Sub1.int (by rw [hq']), Sub1.int (by omega)⟩
    ·have hq0' : ¬ (0 : Int) < q := by omega
     have hkK : k = K := by
      rcases Nat.lt_or_ge k K with h | h
      ·have := (hKc k hk).1 h; omega
      ·omega
     subst hkK
     rw [hKe]
     have xei : IntKind.i64.wrap ((i : Int) + 1) = ((i + 1 : Nat) : Int) := by rw [w64 (by omega) (by omega)]; omega
     refine A10 (fs hk4 (fs hk4' (fs hla (fs hla' (fs hq0 (fs hq0' (fs xel xei))))))) ?_; try with_reducible exact tt
     exact ⟨i + 1, by omega, by omega, Sub1.refl _, Sub1.int (by omega)⟩
  ·have hk4' : ¬ (k : Int) < 4 := by omega
   have hkK : k = K := by
    rcases Nat.lt_or_ge k K with h | h
    ·have := (hKc k hk).1 h; omega
    ·omega
   subst hkK
   rw [hKe]
   have xei : IntKind.i64.wrap ((i : Int) + 1) = ((i + 1 : Nat) : Int) := by rw [w64 (by omega) (by omega)]; omega
   refine A10 (fs hk4 (fs hk4' (fs xel xei))) ?_; try with_reducible exact tt
   exact ⟨i + 1, by omega, by omega, Sub1.refl _, Sub1.int (by omega)⟩
 ·have h2 : i = sizeD n := by omega
  subst h2
  have hd : dN n (sizeD n) = decN n := if_neg (by omega)
  rw [hd]
  refine A00 ?_; try with_reducible exact tt
  exact Sub1.of rfl
end
section
open Go.RowKit
def qD3 (p m d : Nat) : D := .agg [nD p, nD m, nD d]
def qval (p m d : Nat) : Rat := mkRat ((p : Int) - m) d
theorem o_wf (p m d E : Nat) (hE : E ≤ 200000) (h1 : p < 2 ^ E) (h2 : m < 2 ^ E) (h3 : d < 2 ^ E) : Eqn Tryz.prog o_e9 [.d (zW p m), .d (nD d)] [] (.d (zW (p * d) (m * d))) [] := by
 refine Eqn.pure o_eb Plain.ok ?_
 have a1 := (o_w0 p m d 0 E hE h1 h2 h3 (Nat.two_pow_pos _)).sub (args := [.d (zW p m), .d (.agg [nD d, .nilsl])]) (Subs.cons (Sub1.refl _) (Subs.cons (Sub1.aggd (l := [nD d, .nilsl]) (Subs.cons (Sub1.refl _) (Subs.cons Sub1.nil (Subs.refl _)))) (Subs.refl _)))
 simp only [Nat.mul_zero, Nat.add_zero, Nat.zero_add] at a1
 simp only [o_ea, zW] at a1 ⊢
 generalize qD1 : nD (p * d) = D1 at *
 obtain ⟨nD1, lD1, rfl⟩ : ∃ n l, D1 = D.sl n l := ⟨_, _, qD1.symm⟩
 clear qD1
 generalize qD2 : nD (m * d) = D2 at *
 obtain ⟨nD2, lD2, rfl⟩ : ∃ n l, D2 = D.sl n l := ⟨_, _, qD2.symm⟩
 clear qD2
 generalize qD3 : nD p = D3 at *
 obtain ⟨nD3, lD3, rfl⟩ : ∃ n l, D3 = D.sl n l := ⟨_, _, qD3.symm⟩
 clear qD3
 generalize qD4 : nD m = D4 at *
 obtain ⟨nD4, lD4, rfl⟩ : ∃ n l, D4 = D.sl n l := ⟨_, _, qD4.symm⟩
 clear qD4
 generalize qD5 : nD d = D5 at *
 obtain ⟨nD5, lD5, rfl⟩ : ∃ n l, D5 = D.sl n l := ⟨_, _, qD5.symm⟩
 clear qD5
 refine A01 a1 ?_; try with_reducible exact tt
theorem o_wg (p m d q n e E : Nat) (hE : E ≤ 50000) (h1 : p < 2 ^ E) (h2 : m < 2 ^ E) (h3 : d < 2 ^ E) (h4 : q < 2 ^ E) (h5 : n < 2 ^ E) (h6 : e < 2 ^ E) : Eqn Tryz.prog o_ad [.d (qD3 p m d), .d (qD3 q n e)] [] (.d (qD3 (p * e + q * d) (m * e + n * d) (d * e))) [] := by
 refine Eqn.pure o_af Plain.ok ?_
 have a1 := o_wf p m e E (by omega) h1 h2 h6
 have a2 := o_wf q n d E (by omega) h4 h5 h3
 have a3 := o_vy (p * e) (m * e) (q * d) (n * d) (E + E) (by omega) (o_vu h1 h6) (o_vu h2 h6) (o_vu h4 h3) (o_vu h5 h3)
 have a4 := o_vf d e (sizeB h3 (by omega)) (sizeB h6 (by omega))
 simp only [o_ae, qD3, zW] at a1 a2 a3 ⊢
 generalize qB1 : nD (p * e + q * d) = B1 at *
 obtain ⟨nB1, lB1, rfl⟩ : ∃ n l, B1 = D.sl n l := ⟨_, _, qB1.symm⟩
 clear qB1
 generalize qB2 : nD (m * e + n * d) = B2 at *
 obtain ⟨nB2, lB2, rfl⟩ : ∃ n l, B2 = D.sl n l := ⟨_, _, qB2.symm⟩
 clear qB2
 generalize qB3 : nD (d * e) = B3 at *
 obtain ⟨nB3, lB3, rfl⟩ : ∃ n l, B3 = D.sl n l := ⟨_, _, qB3.symm⟩
 clear qB3
 generalize qB4 : nD (p * e) = B4 at *
 obtain ⟨nB4, lB4, rfl⟩ : ∃ n l, B4 = D.sl n l := ⟨_, _, qB4.symm⟩
 clear qB4
 generalize qB5 : nD (m * e) = B5 at *
 obtain ⟨nB5, lB5, rfl⟩ : ∃ n l, B5 = D.sl n l := ⟨_, _, qB5.symm⟩
 clear qB5
 generalize qB6 : nD (q * d) = B6 at *
 obtain ⟨nB6, lB6, rfl⟩ : ∃ n l, B6 = D.sl n l := ⟨_, _, qB6.symm⟩
 clear qB6
 generalize qB7 : nD (n * d) = B7 at *
 obtain ⟨nB7, lB7, rfl⟩ : ∃ n l, B7 = D.sl n l := ⟨_, _, qB7.symm⟩
 clear qB7
 generalize qD1 : nD p = D1 at *
 obtain ⟨nD1, lD1, rfl⟩ : ∃ n l, D1 = D.sl n l := ⟨_, _, qD1.symm⟩
 clear qD1
 generalize qD2 : nD m = D2 at *
 obtain ⟨nD2, lD2, rfl⟩ : ∃ n l, D2 = D.sl n l := ⟨_, _, qD2.symm⟩
 clear qD2
 generalize qD3 : nD d = D3 at *
 obtain ⟨nD3, lD3, rfl⟩ : ∃ n l, D3 = D.sl n l := ⟨_, _, qD3.symm⟩
 clear qD3
 generalize qD4 : nD q = D4 at *
 obtain ⟨nD4, lD4, rfl⟩ : ∃ n l, D4 = D.sl n l := ⟨_, _, qD4.symm⟩
 clear qD4
 generalize qD5 : nD n = D5 at *
 obtain ⟨nD5, lD5, rfl⟩ : ∃ n l, D5 = D.sl n l := ⟨_, _, qD5.symm⟩
 clear qD5
 generalize qD6 : nD e = D6 at *
 obtain ⟨nD6, lD6, rfl⟩ : ∃ n l, D6 = D.sl n l := ⟨_, _, qD6.symm⟩
 clear qD6
 refine A04 a1 a2 a3 a4 ?_; try with_reducible exact tt
theorem o_wh (p m d q n e E : Nat) (hE : E ≤ 50000) (h1 : p < 2 ^ E) (h2 : m < 2 ^ E) (h3 : d < 2 ^ E) (h4 : q < 2 ^ E) (h5 : n < 2 ^ E) (h6 : e < 2 ^ E) : Eqn Tryz.prog o_am [.d (qD3 p m d), .d (qD3 q n e)] [] (.d (qD3 (p * q + m * n) (p * n + m * q) (d * e))) [] := by
 refine Eqn.pure o_ao Plain.ok ?_
 have a3 := o_w0 p m q n E (by omega) h1 h2 h4 h5
 have a4 := o_vf d e (sizeB h3 (by omega)) (sizeB h6 (by omega))
 simp only [o_an, qD3, zW] at a3 ⊢
 generalize qB1 : nD (p * q + m * n) = B1 at *
 obtain ⟨nB1, lB1, rfl⟩ : ∃ n l, B1 = D.sl n l := ⟨_, _, qB1.symm⟩
 clear qB1
 generalize qB2 : nD (p * n + m * q) = B2 at *
 obtain ⟨nB2, lB2, rfl⟩ : ∃ n l, B2 = D.sl n l := ⟨_, _, qB2.symm⟩
 clear qB2
 generalize qB3 : nD (d * e) = B3 at *
 obtain ⟨nB3, lB3, rfl⟩ : ∃ n l, B3 = D.sl n l := ⟨_, _, qB3.symm⟩
 clear qB3
 generalize qD1 : nD p = D1 at *
 obtain ⟨nD1, lD1, rfl⟩ : ∃ n l, D1 = D.sl n l := ⟨_, _, qD1.symm⟩
 clear qD1
 generalize qD2 : nD m = D2 at *
 obtain ⟨nD2, lD2, rfl⟩ : ∃ n l, D2 = D.sl n l := ⟨_, _, qD2.symm⟩
 clear qD2
 generalize qD3 : nD d = D3 at *
 obtain ⟨nD3, lD3, rfl⟩ : ∃ n l, D3 = D.sl n l := ⟨_, _, qD3.symm⟩
 clear qD3
 generalize qD4 : nD q = D4 at *
 obtain ⟨nD4, lD4, rfl⟩ : ∃ n l, D4 = D.sl n l := ⟨_, _, qD4.symm⟩
 clear qD4
 generalize qD5 : nD n = D5 at *
 obtain ⟨nD5, lD5, rfl⟩ : ∃ n l, D5 = D.sl n l := ⟨_, _, qD5.symm⟩
 clear qD5
 generalize qD6 : nD e = D6 at *
 obtain ⟨nD6, lD6, rfl⟩ : ∃ n l, D6 = D.sl n l := ⟨_, _, qD6.symm⟩
 clear qD6
 refine A02 a3 a4 ?_; try with_reducible exact tt
theorem o_wi (p m d : Nat) : Eqn Tryz.prog o_ag [.d (qD3 p m d)] [] (.d (qD3 m p d)) [] := by
 refine Eqn.pure o_ai Plain.ok ?_
 have a3 := o_vz p m
 simp only [o_ah, qD3, zW] at a3 ⊢
 generalize qD1 : nD p = D1 at *
 obtain ⟨nD1, lD1, rfl⟩ : ∃ n l, D1 = D.sl n l := ⟨_, _, qD1.symm⟩
 clear qD1
 generalize qD2 : nD m = D2 at *
 obtain ⟨nD2, lD2, rfl⟩ : ∃ n l, D2 = D.sl n l := ⟨_, _, qD2.symm⟩
 clear qD2
 generalize qD3 : nD d = D3 at *
 obtain ⟨nD3, lD3, rfl⟩ : ∃ n l, D3 = D.sl n l := ⟨_, _, qD3.symm⟩
 clear qD3
 refine A01 a3 ?_; try with_reducible exact tt
theorem o_wj (n : Nat) (h : n < 9223372036854775808) : Eqn Tryz.prog o_9p [.d (.int .i64 n)] [] (.d (qD3 n 0 1)) [] := by
 refine Eqn.pure o_9r Plain.ok ?_
 have a1 := o_w3 n h
 have a2 := o_v5 1 (by decide)
 simp only [o_9q, qD3, zW] at a1 ⊢
 generalize qD1 : nD n = D1 at *
 obtain ⟨nD1, lD1, rfl⟩ : ∃ n l, D1 = D.sl n l := ⟨_, _, qD1.symm⟩
 clear qD1
 generalize qD2 : nD 0 = D2 at *
 obtain ⟨nD2, lD2, rfl⟩ : ∃ n l, D2 = D.sl n l := ⟨_, _, qD2.symm⟩
 clear qD2
 generalize qD3 : nD 1 = D3 at *
 obtain ⟨nD3, lD3, rfl⟩ : ∃ n l, D3 = D.sl n l := ⟨_, _, qD3.symm⟩
 clear qD3
 refine A02 a1 a2 ?_; try with_reducible exact tt
theorem o_wk (p m d : Nat) : Eqn Tryz.prog o_dr [.d (zW p m), .d (nD d)] [] (.d (qD3 p m d)) [] := by
 refine Eqn.pure o_dt Plain.ok ?_
 simp only [o_ds, qD3, zW]
 generalize qD1 : nD p = D1 at *
 obtain ⟨nD1, lD1, rfl⟩ : ∃ n l, D1 = D.sl n l := ⟨_, _, qD1.symm⟩
 clear qD1
 generalize qD2 : nD m = D2 at *
 obtain ⟨nD2, lD2, rfl⟩ : ∃ n l, D2 = D.sl n l := ⟨_, _, qD2.symm⟩
 clear qD2
 generalize qD3 : nD d = D3 at *
 obtain ⟨nD3, lD3, rfl⟩ : ∃ n l, D3 = D.sl n l := ⟨_, _, qD3.symm⟩
 clear qD3
 refine A00 ?_; try with_reducible exact tt
theorem o_wl {p m d q n e : Nat} (hd : 0 < d) (he : 0 < e) : qval (p * e + q * d) (m * e + n * d) (d * e) = qval p m d + qval q n e := by
 unfold qval
 rw [Rat.mkRat_add_mkRat _ _ (by omega) (by omega)]
 congr 1
 simp only [Int.natCast_add, Int.natCast_mul, Int.sub_mul]
 omega
theorem o_wm {p m d q n e : Nat} (hd : 0 < d) (he : 0 < e) : qval (p * q + m * n) (p * n + m * q) (d * e) = qval p m d * qval q n e := by
 unfold qval
 rw [Rat.mkRat_mul_mkRat]
 congr 1
 simp only [Int.natCast_add, Int.natCast_mul, Int.sub_mul, Int.mul_sub]
 omega
theorem o_wn (p m d : Nat) : qval m p d = -qval p m d := by
 unfold qval
 rw [Rat.neg_mkRat]
 congr 1
 omega
theorem o_wo (n : Nat) : qval n 0 1 = (n : Rat) := by
 unfold qval
 rw [Int.natCast_zero, Int.sub_zero]
 exact Rat.mkRat_one n
theorem o_wp (p m d E : Nat) (hE : E ≤ 50000) (h1 : p < 2 ^ E) (h2 : m < 2 ^ E) (h3 : d < 2 ^ E) (h0 : 0 < d) : Eqn Tryz.prog o_9d [.d (qD3 p m d)] [] (.d (.str (txtQ (qval p m d)))) [] := by
 refine Eqn.pure o_9f (o_58 _) ?_
 obtain ⟨q1, q2, q3⟩ := o_qm ((p : Int) - m) d h0
 obtain ⟨z, hz⟩ : ∃ z, z = ((p : Int) - m).natAbs := ⟨_, rfl⟩
 have hzb : z < 2 ^ E := by rw [hz]; omega
 have a1 := o_w2 p m E (by omega) h1 h2
 rw [← hz] at a1 q1 q2
 have a2 := o_vx z d E (by omega) hzb h3
 have hg0 : 0 < Nat.gcd z d := Nat.gcd_pos_of_pos_right _ h0
 have hgb : Nat.gcd z d < 2 ^ E := Nat.lt_of_le_of_lt (Nat.gcd_le_right _ h0) h3
 have a3 := o_vj z (Nat.gcd z d) E hg0 (by omega) (o_vt hzb) (o_vt hgb)
 have a4 := o_vj d (Nat.gcd z d) E hg0 (by omega) (o_vt h3) (o_vt hgb)
 have b1 : z / Nat.gcd z d < 2 ^ E := Nat.lt_of_le_of_lt (Nat.div_le_self _ _) hzb
 have b2 : d / Nat.gcd z d < 2 ^ E := Nat.lt_of_le_of_lt (Nat.div_le_self _ _) h3
 have hE0 : 0 < E := by
  rcases Nat.eq_zero_or_pos E with h | h
  ·subst h; simp at h3; omega
  ·exact h
 have a5 := o_we (z / Nat.gcd z d) (sizeB b1 (by omega))
 have a6 := o_w1 p m E (by omega) h1 h2
 have a7 := o_v9 (d / Nat.gcd z d) 1 (sizeB b2 (by omega)) (by decide)
 have a8 := o_we (d / Nat.gcd z d) (sizeB b2 (by omega))
 have a9 := o_v5 1 (by decide)
 have s1 := o_vn b1 hE0
 have hl5 : (⟨#[45]⟩ : ByteArray).size = 1 := rfl
 have hl7 : (⟨#[47]⟩ : ByteArray).size = 1 := rfl
 have s2 := o_vn b2 hE0
 have hneg : decide (p < m) = decide ((qval p m d).num < 0) := by
  rw [decide_eq_decide]
  unfold qval
  rw [q3]; omega
 rw [hneg] at a6
 have e : txtQ (qval p m d) = if (qval p m d).den = 1 then txtZ (qval p m d).num else txtZ (qval p m d).num ++ ⟨#[47]⟩ ++ txt (qval p m d).den := rfl
 have e2 : txtZ (qval p m d).num = if (qval p m d).num < 0 then ⟨#[45]⟩ ++ txt (qval p m d).num.natAbs else txt (qval p m d).num.natAbs := rfl
 rw [show (qval p m d).num.natAbs = z / Nat.gcd z d from q1] at e2
 rw [show (qval p m d).den = d / Nat.gcd z d from q2] at e
 rw [e2] at e
 generalize (qval p m d).num = Q at *
 generalize txtQ (qval p m d) = T at *
 clear q1 q2 q3 hz hzb hg0 hgb e2 hneg b1 b2 h1 h2 h3
 simp only [o_9e, qD3, zW] at a1 a6 ⊢
 generalize z % Nat.gcd z d = r1 at *
 generalize d % Nat.gcd z d = r2 at *
 generalize z / Nat.gcd z d = A at *
 generalize d / Nat.gcd z d = B at *
 generalize Nat.gcd z d = G at *
 generalize qD4 : nD z = D4 at *
 obtain ⟨nD4, lD4, rfl⟩ : ∃ n l, D4 = D.sl n l := ⟨_, _, qD4.symm⟩
 clear qD4
 generalize qD1 : nD p = D1 at *
 obtain ⟨nD1, lD1, rfl⟩ : ∃ n l, D1 = D.sl n l := ⟨_, _, qD1.symm⟩
 clear qD1
 generalize qD2 : nD m = D2 at *
 obtain ⟨nD2, lD2, rfl⟩ : ∃ n l, D2 = D.sl n l := ⟨_, _, qD2.symm⟩
 clear qD2
 generalize qD3 : nD d = D3 at *
 obtain ⟨nD3, lD3, rfl⟩ : ∃ n l, D3 = D.sl n l := ⟨_, _, qD3.symm⟩
 clear qD3
 generalize qD5 : nD G = D5 at *
 obtain ⟨nD5, lD5, rfl⟩ : ∃ n l, D5 = D.sl n l := ⟨_, _, qD5.symm⟩
 clear qD5
 generalize qD6 : nD A = D6 at *
 obtain ⟨nD6, lD6, rfl⟩ : ∃ n l, D6 = D.sl n l := ⟨_, _, qD6.symm⟩
 clear qD6
 generalize qD7 : nD B = D7 at *
 obtain ⟨nD7, lD7, rfl⟩ : ∃ n l, D7 = D.sl n l := ⟨_, _, qD7.symm⟩
 clear qD7
 generalize qD8 : nD r1 = D8 at *
 obtain ⟨nD8, lD8, rfl⟩ : ∃ n l, D8 = D.sl n l := ⟨_, _, qD8.symm⟩
 clear qD8
 generalize qD9 : nD r2 = D9 at *
 obtain ⟨nD9, lD9, rfl⟩ : ∃ n l, D9 = D.sl n l := ⟨_, _, qD9.symm⟩
 clear qD9
 generalize qD0 : nD 1 = D0 at *
 obtain ⟨nD0, lD0, rfl⟩ : ∃ n l, D0 = D.sl n l := ⟨_, _, qD0.symm⟩
 clear qD0
 by_cases hB : B = 1
 ·rw [if_pos hB] at e
  have hc : cmpZ B 1 = 0 := by subst hB; rfl
  rw [hc] at a7
  clear hc
  generalize txt A = S1 at *
  generalize txt B = S2 at *
  by_cases hQ : Q < 0
  ·rw [if_pos hQ] at e
   subst e
   rw [show decide (Q < 0) = true by simp [hQ]] at a6
   refine A110 (fs hl5 hl7) a1 a2 a3 a4 a5 a6 a7 a8 a9 a9 ?_; try with_reducible exact tt
  ·rw [if_neg hQ] at e
   subst e
   rw [show decide (Q < 0) = false by simp; omega] at a6
   refine A110 (fs hl5 hl7) a1 a2 a3 a4 a5 a6 a7 a8 a9 a9 ?_; try with_reducible exact tt
 ·rw [if_neg hB] at e
  have hc : ¬ cmpZ B 1 = 0 := by unfold cmpZ; split <;> (try split) <;> omega
  generalize cmpZ B 1 = y at *
  generalize txt A = S1 at *
  generalize txt B = S2 at *
  by_cases hQ : Q < 0
  ·rw [if_pos hQ] at e
   subst e
   rw [show decide (Q < 0) = true by simp [hQ]] at a6
   refine A110 (fs hl5 (fs hl7 hc)) a1 a2 a3 a4 a5 a6 a7 a8 a9 a9 ?_; try with_reducible exact tt
  ·rw [if_neg hQ] at e
   subst e
   rw [show decide (Q < 0) = false by simp; omega] at a6
   refine A110 (fs hl5 (fs hl7 hc)) a1 a2 a3 a4 a5 a6 a7 a8 a9 a9 ?_; try with_reducible exact tt
theorem o_wq (x : Rat) (p m d E : Nat) (hx : x = qval p m d) (hs : RS x 1000) (hE : E ≤ 50000) (h1 : p < 2 ^ E) (h2 : m < 2 ^ E) (h3 : d < 2 ^ E) (h0 : 0 < d) : Eqn Tryz.prog o_74 [.d (rD x), .d (qD3 p m d)] [] (.d (.bool true)) [] := by
 refine Eqn.pure o_76 Plain.ok ?_
 have a1 := o_vs x hs
 have a2 := o_wp p m d E hE h1 h2 h3 h0
 rw [← hx] at a2
 simp only [o_75, rD, qD3] at a1 a2 ⊢
 generalize txtQ x = S at *
 generalize natW x.num.natAbs = N1 at *
 generalize natW (x.den - 1) = N2 at *
 generalize decide (x.num < 0) = b at *
 generalize qD1 : nD p = D1 at *
 obtain ⟨nD1, lD1, rfl⟩ : ∃ n l, D1 = D.sl n l := ⟨_, _, qD1.symm⟩
 clear qD1
 generalize qD2 : nD m = D2 at *
 obtain ⟨nD2, lD2, rfl⟩ : ∃ n l, D2 = D.sl n l := ⟨_, _, qD2.symm⟩
 clear qD2
 generalize qD3 : nD d = D3 at *
 obtain ⟨nD3, lD3, rfl⟩ : ∃ n l, D3 = D.sl n l := ⟨_, _, qD3.symm⟩
 clear qD3
 refine A02 a1 a2 ?_; try with_reducible exact tt
end
section
section
variable {α β : Type} {f : α → List β} {n : Nat}
theorem o_wr (hf : ∀ x, (f x).length = n) : ∀ l : List α, (l.flatMap f).length = l.length * n
 | [] => by simp
 | x :: l => by rw [List.flatMap_cons, List.length_append, hf, o_wr hf l, List.length_cons, Nat.add_mul]; omega
theorem o_ws (hf : ∀ x, (f x).length = n) : ∀ (l : List α) (i : Nat), (l.flatMap f).drop (i * n) = (l.drop i).flatMap f
 | l, 0 => by simp
 | [], i + 1 => by simp
 | x :: l, i + 1 => by
  rw [List.flatMap_cons, List.drop_succ_cons, ← o_ws hf l i]
  have h := hf x
  rw [List.drop_append, List.drop_of_length_le (by rw [h, Nat.add_mul]; omega), h, Nat.add_mul]
  simp
theorem o_wt (hf : ∀ x, (f x).length = n) (l : List α) (i : Nat) (h : i < l.length) : ((l.flatMap f).drop (i * n)).take n = f l[i] := by
 rw [o_ws hf, List.drop_eq_getElem_cons h, List.flatMap_cons]
 conv => lhs; arg 1; rw [← hf l[i]]
 simp
end
end
section
open Go.RowKit
end
section
open Go.RowKit
end
section
open Go.RowKit
def valM (a k : Nat) : Rat := (a : Rat) * ((mkRat ((a + 1 : Nat) : Int) a) ^ k - ((1 : Nat) : Rat))

theorem o_wu {x n : Nat} (h : bitsN x * n ≤ 8192) : size (x ^ n) ≤ 129 := by
 refine o_oo (n := bitsN x * n + 1) ?_ (by omega)
 rw [Nat.pow_succ]
 have h3 : x ^ n ≤ (2 ^ bitsN x) ^ n := Nat.pow_le_pow_left (Nat.le_of_lt (o_mu x)) n
 rw [← Nat.pow_mul] at h3
 have := Nat.two_pow_pos (bitsN x * n)
 omega
end
section
open Go.RowKit
def chM (a k : Nat) : Rat := mkRat (a : Int) (a + 1) ^ k
theorem o_wv {a : Nat} : (mkRat (a : Int) (a + 1)).num = (a : Int) ∧ (mkRat (a : Int) (a + 1)).den = a + 1 := by
 obtain ⟨p1, p2, p3⟩ := o_qm (a : Int) (a + 1) (by omega)
 rw [Int.natAbs_natCast] at p1 p2
 have hg : Nat.gcd a (a + 1) = 1 := by
  rcases Nat.eq_zero_or_pos a with rfl | h
  ·rfl
  ·rw [Nat.gcd_rec, show (a + 1) % a = 1 % a by rw [Nat.add_mod_left], ← Nat.gcd_rec, Nat.gcd_one_right]
 rw [hg, Nat.div_one] at p1 p2
 refine ⟨?_, p2⟩
 have : ¬ (mkRat (a : Int) (a + 1)).num < 0 := fun h => by have := p3.1 h; omega
 omega
end
end Go.Proofs.YtmpjlkclkhnpfaaGreatDoor.Am

namespace Go.Proofs.YtmpjlkclkhnpfaaGreatDoor.Am
section
open Go.RowKit
theorem o_ww (a k : Nat) (h1 : 1 ≤ a) (h2 : a ≤ 4096) (hk : k ≤ 1023) (hb : bitsN (a + 1) * k ≤ 8192) : Eqn Tryz.prog o_6m [.d (.int .i64 a), .d (.int .i64 k)] [] (.tup [.d (rD (chM a k)), .d (.int .i64 0)]) [] ∧ RS (chM a k) 300 := by
 obtain ⟨q1, q2⟩ := o_wv (a := a)
 have hmk := o_rn a (a + 1) (by omega) (by omega) (by omega)
 obtain ⟨x, hx⟩ : ∃ x, x = mkRat (a : Int) (a + 1) := ⟨_, rfl⟩
 have hv : chM a k = x ^ k := by rw [hx]; rfl
 rw [← hx] at q1 q2 hmk
 have hba : bitsN a ≤ bitsN (a + 1) := o_mv (Nat.lt_trans (Nat.lt_succ_self a) (o_mu _))
 have hb2 : bitsN a * k ≤ 8192 := Nat.le_trans (Nat.mul_le_mul_right _ hba) hb
 have le8 : ∀ q : Nat, q * k ≤ 8192 → q ≤ 1 ∨ k ≤ 8192 / q := fun q h => by
  by_cases h1 : q ≤ 1
  ·exact .inl h1
  ·right; rw [Nat.le_div_iff_mul_le (by omega), Nat.mul_comm]; exact h
 have hxs : RS x 129 := ⟨by rw [q1, Int.natAbs_natCast]; exact Nat.le_trans (o_lv (by omega)) (by omega), by rw [q2]; exact Nat.le_trans (o_lv (by omega)) (by omega)⟩
 have hpow := o_rl x k (by omega) (by omega) (by rw [q1, Int.natAbs_natCast]; exact le8 _ hb2) (by rw [q2]; exact le8 _ hb) hxs (by rw [q1, Int.natAbs_natCast]; exact Nat.le_trans (o_wu hb2) (by omega)) (by rw [q2]; exact Nat.le_trans (o_wu hb) (by omega))
 have hps : RS (x ^ k) 129 := ⟨by rw [Rat.num_pow, Int.natAbs_pow, q1, Int.natAbs_natCast]; exact o_wu hb2, by rw [Rat.den_pow, q2]; exact o_wu hb⟩
 refine ⟨?_, by rw [hv]; exact hps.le (by omega)⟩
 have hw := o_rj a k
 rw [show wrongM (a : Int) [(k : Int)] = 0 by unfold wrongM; rw [if_pos (by omega), if_pos (by simp [okK]; omega)]] at hw
 have e1 : IntKind.i64.wrap ((a : Int) + 1) = ((a + 1 : Nat) : Int) := by rw [w64 (by omega) (by omega)]; omega
 refine Eqn.pure o_6o Plain.ok ?_
 rw [hv]
 clear hv hxs hps q1 q2 hx
 generalize x ^ k = xk at *
 generalize ha1 : a + 1 = a' at *
 simp only [o_6n, rD] at hmk hpow ⊢
 refine G0 ?_; try with_reducible exact tt
 refine CallS.pf 1 1 ⟨3, _⟩ [.int .i64 k] (hw) (by first | rfl | (simp [e1]; done)) (R1 e1 ?_); try with_reducible exact tt
 refine AW.cond rfl (fun h => ?_) (fun h => ?_)
 ·simp at h
 refine G1 e1 ?_; try with_reducible exact tt
 refine CallS.pu (hmk) (R0 ?_); try with_reducible exact tt
 refine CallS.pu (hpow) (R0 ?_); try with_reducible exact tt
end
section
open Go.RowKit
def renA : Go.Shelf.Ren := ⟨fun | 6 => 179 | 15 => 160 | 14 => 214 | 28 => 205 | 29 => 206 | 20 => 238 | 21 => 239 | 22 => 240 | 23 => 241 | 24 => 242 | 25 => 243 | 26 => 244 | 27 => 245 | 46 => 255 | 47 => 256 | 48 => 257 | 49 => 258 | 50 => 259 | 57 => 262 | n => n, fun | 22 => 75 | 24 => 91 | 25 => 239 | 3 => 3 | 39 => 222 | 0 => 0 | 53 => 262 | 55 => 194 | 4 => 4 | 46 => 287 | 45 => 286 | 50 => 291 | 5 => 5 | 9 => 9 | 66 => 300 | 70 => 304 | 76 => 306 | 77 => 307 | n => n, fun n => n⟩
theorem sortL : Go.Proofs.SlLaysF0.n6 Tryz.prog renA where
 mixed := by kernel_rfl
 f6 := ⟨"slices.SortFunc[[]tallymark/pmf.Atom,tallymark/pmf.Atom]", of_decide_eq_true (by kernel_rfl), Tryz.func179.trans (congrArg some (by kernel_rfl))⟩
 f14 := ⟨"slices.pdqsortCmpFunc[tallymark/pmf.Atom]", of_decide_eq_true (by kernel_rfl), Tryz.func214.trans (congrArg some (by kernel_rfl))⟩
 f15 := Tryz.func160.trans (congrArg some (by kernel_rfl))
 f20 := ⟨"slices.insertionSortCmpFunc[tallymark/pmf.Atom]", of_decide_eq_true (by kernel_rfl), Tryz.func238.trans (congrArg some (by kernel_rfl))⟩
 f21 := ⟨"slices.heapSortCmpFunc[tallymark/pmf.Atom]", of_decide_eq_true (by kernel_rfl), Tryz.func239.trans (congrArg some (by kernel_rfl))⟩
 f22 := ⟨"slices.breakPatternsCmpFunc[tallymark/pmf.Atom]", of_decide_eq_true (by kernel_rfl), Tryz.func240.trans (congrArg some (by kernel_rfl))⟩
 f23 := ⟨"slices.choosePivotCmpFunc[tallymark/pmf.Atom]", of_decide_eq_true (by kernel_rfl), Tryz.func241.trans (congrArg some (by kernel_rfl))⟩
 f24 := ⟨"slices.reverseRangeCmpFunc[tallymark/pmf.Atom]", of_decide_eq_true (by kernel_rfl), Tryz.func242.trans (congrArg some (by kernel_rfl))⟩
 f25 := ⟨"slices.partialInsertionSortCmpFunc[tallymark/pmf.Atom]", of_decide_eq_true (by kernel_rfl), Tryz.func243.trans (congrArg some (by kernel_rfl))⟩
 f26 := ⟨"slices.partitionEqualCmpFunc[tallymark/pmf.Atom]", of_decide_eq_true (by kernel_rfl), Tryz.func244.trans (congrArg some (by kernel_rfl))⟩
 f27 := ⟨"slices.partitionCmpFunc[tallymark/pmf.Atom]", of_decide_eq_true (by kernel_rfl), Tryz.func245.trans (congrArg some (by kernel_rfl))⟩
 f28 := Tryz.func205.trans (congrArg some (by kernel_rfl))
 f29 := Tryz.func206.trans (congrArg some (by kernel_rfl))
 f46 := ⟨"slices.siftDownCmpFunc[tallymark/pmf.Atom]", of_decide_eq_true (by kernel_rfl), Tryz.func255.trans (congrArg some (by kernel_rfl))⟩
 f47 := Tryz.func256.trans (congrArg some (by kernel_rfl))
 f48 := Tryz.func257.trans (congrArg some (by kernel_rfl))
 f49 := ⟨"slices.medianAdjacentCmpFunc[tallymark/pmf.Atom]", of_decide_eq_true (by kernel_rfl), Tryz.func258.trans (congrArg some (by kernel_rfl))⟩
 f50 := ⟨"slices.medianCmpFunc[tallymark/pmf.Atom]", of_decide_eq_true (by kernel_rfl), Tryz.func259.trans (congrArg some (by kernel_rfl))⟩
 f57 := ⟨"slices.order2CmpFunc[tallymark/pmf.Atom]", of_decide_eq_true (by kernel_rfl), Tryz.func262.trans (congrArg some (by kernel_rfl))⟩
 t0 := Tryz.underlying0
 a0 := Tryz.isAgg0
 z0 := Tryz.sizeOf0
 v0 := Tryz.zeroValue0
 t3 := Tryz.underlying3
 a3 := Tryz.isAgg3
 z3 := Tryz.sizeOf3
 v3 := Tryz.zeroValue3
 t4 := Tryz.underlying4
 a4 := Tryz.isAgg4
 z4 := Tryz.sizeOf4
 v4 := Tryz.zeroValue4
 t5 := Tryz.underlying5
 a5 := Tryz.isAgg5
 z5 := Tryz.sizeOf5
 v5 := Tryz.zeroValue5
 t9 := Tryz.underlying9
 a9 := Tryz.isAgg9
 z9 := Tryz.sizeOf9
 v9 := Tryz.zeroValue9
 t22 := Tryz.underlying75
 a22 := Tryz.isAgg75
 z22 := Tryz.sizeOf75
 v22 := Tryz.zeroValue75
 t25 := Tryz.underlying239
 a25 := Tryz.isAgg239
 z25 := Tryz.sizeOf239
 v25 := Tryz.zeroValue239
 t39 := Tryz.underlying222
 a39 := Tryz.isAgg222
 z39 := Tryz.sizeOf222
 v39 := Tryz.zeroValue222
 t45 := Tryz.underlying286
 a45 := Tryz.isAgg286
 z45 := Tryz.sizeOf286
 v45 := Tryz.zeroValue286
 t46 := Tryz.underlying287
 a46 := Tryz.isAgg287
 z46 := Tryz.sizeOf287
 v46 := Tryz.zeroValue287
 t50 := Tryz.underlying291
 a50 := Tryz.isAgg291
 z50 := Tryz.sizeOf291
 v50 := Tryz.zeroValue291
 t53 := Tryz.underlying262
 a53 := Tryz.isAgg262
 z53 := Tryz.sizeOf262
 v53 := Tryz.zeroValue262
 t55 := Tryz.underlying194
 a55 := Tryz.isAgg194
 z55 := Tryz.sizeOf194
 v55 := Tryz.zeroValue194
 t66 := Tryz.underlying300
 a66 := Tryz.isAgg300
 z66 := Tryz.sizeOf300
 v66 := Tryz.zeroValue300
 t70 := Tryz.underlying304
 a70 := Tryz.isAgg304
 z70 := Tryz.sizeOf304
 v70 := Tryz.zeroValue304
 t76 := Tryz.underlying306
 a76 := Tryz.isAgg306
 z76 := Tryz.sizeOf306
 v76 := Tryz.zeroValue306
 t77 := Tryz.underlying307
 a77 := Tryz.isAgg307
 z77 := Tryz.sizeOf307
 v77 := Tryz.zeroValue307
theorem aggAtom : ∀ w, (Go.isAgg (renA.t 24)).run Tryz.prog w = .ok true w := Tryz.isAgg91
theorem sizeAtom : ∀ w, (Go.sizeOf (renA.t 24)).run Tryz.prog w = .ok 6 w := Tryz.sizeOf91
end
section
open Go.RowKit
theorem o_wx {x m : Nat} (h : x < 10000 ^ m) : sizeD x ≤ m := o_ru (o_sa x) (by rwa [o_s8])
theorem o_wy {n m : Nat} (h : n ≤ m) : sizeD (2 ^ n) ≤ m + 1 := o_wx (Nat.lt_of_le_of_lt (Nat.pow_le_pow_left (by decide : 2 ≤ 10000) n) (Nat.pow_lt_pow_right (by decide) (by omega)))
theorem o_wz {m n : Nat} (h : m ≤ n) : cmpZ m n ≤ 0 := by unfold cmpZ; split; decide; split <;> omega
theorem o_x0 (x n : Nat) (hn : n ≤ 100000) (hx : ∀ i, i ≤ n → sizeD (x ^ i) ≤ 100000) (hx1 : sizeD x ≤ 100000) : Eqn Tryz.prog o_9j [.d (nD x), .d (.int .i64 n)] [] (.d (nD (x ^ n))) [] := by
 refine Eqn.pure o_9l Plain.ok ?_
 simp only [o_9k]
 have h1 := o_v5 1 (by decide)
 refine A01 h1 ?_; try with_reducible exact tt
 refine AW.loopT (α := Nat) 0 (fun i => [(5, .d (nD (x ^ i))), (6, .d (.int .i64 (i : Nat)))]) (fun i => []) (fun i => i ≤ n) (fun i => n - i) 0 ?_ ?_ (Nat.zero_le _) ?_ ?_ ?_
 ·simp
 ·simp
 ·simp
 ·simp
 intro i hi
 simp
 by_cases hin : i < n
 ·have hin' : (i : Int) < n := by omega
  have hm := o_vf (x ^ i) x (hx i hi) hx1
  rw [← Nat.pow_succ] at hm
  have xei : IntKind.i64.wrap ((i : Int) + 1) = ((i + 1 : Nat) : Int) := by rw [w64 (by omega) (by omega)]; omega
  obtain ⟨Y, hY⟩ : ∃ Y, Y = x ^ (i + 1) := ⟨_, rfl⟩
  rw [← hY] at hm
  generalize x ^ i = Y0 at *
  refine A11 (fs hin (fs hin' xei)) hm ?_; try with_reducible exact tt
  exact ⟨i + 1, by omega, by omega, Sub1.of (by rw [hY]), Sub1.int (by omega)⟩
 ·have : i = n := by omega
  subst this
  refine A00 ?_; try with_reducible exact tt
theorem o_x1 (a B : Nat) (ha : a < 2 ^ B) (hB : B ≤ 10000) (ha0 : sizeD a ≤ 100000) : Eqn Tryz.prog o_gg [.d (nD a)] [] (.d (.int .i64 (bitsN a : Nat))) [] := by
 refine Eqn.pure o_gi Plain.ok ?_
 simp only [o_gh]
 have h1 := o_v5 1 (by decide)
 have hbB := o_mv ha
 refine A01 h1 ?_; try with_reducible exact tt
 refine AW.loopT (α := Nat) 0 (fun i => [(4, .d (nD (2 ^ i))), (3, .d (.int .i64 (i : Nat)))]) (fun i => []) (fun i => i ≤ bitsN a) (fun i => bitsN a - i) 0 ?_ ?_ (Nat.zero_le _) ?_ ?_ ?_
 ·simp
 ·simp
 ·simp
 ·simp
 intro i hi
 simp
 have hs := o_wy (n := i) (m := B) (by omega)
 have hc := o_v9 (2 ^ i) a (by omega) (by omega)
 have hd := o_v8 (2 ^ i) (2 ^ i) (by omega) (by omega)
 rw [← Nat.two_mul, Nat.mul_comm, ← Nat.pow_succ] at hd
 have xei : IntKind.i64.wrap ((i : Int) + 1) = ((i + 1 : Nat) : Int) := by rw [w64 (by omega) (by omega)]; omega
 by_cases hle : 2 ^ i ≤ a
 ·have hz : cmpZ (2 ^ i) a ≤ 0 := o_wz hle
  have hlt : i < bitsN a := by
   rcases Nat.lt_or_ge i (bitsN a) with h | h
   ·exact h
   ·have h2 := o_mu a
    have h3 := Nat.pow_le_pow_right (n := 2) (by decide) h
    omega
  obtain ⟨Y, hY⟩ : ∃ Y, Y = 2 ^ (i + 1) := ⟨_, rfl⟩
  rw [← hY] at hd
  generalize 2 ^ i = Y0 at *
  generalize cmpZ Y0 a = z at *
  refine A12 (fs hz xei) hc hd ?_; try with_reducible exact tt
  exact ⟨i + 1, by omega, by omega, Sub1.int (by omega), Sub1.of (by rw [hY])⟩
 ·have hz : ¬ cmpZ (2 ^ i) a ≤ 0 := by unfold cmpZ; rw [if_neg (by omega), if_pos (by omega)]; decide
  have hie : i = bitsN a := by
   have := o_mv (n := a) (k := i) (by omega)
   omega
  generalize 2 ^ i = Y0 at *
  generalize cmpZ Y0 a = z at *
  subst hie
  refine A11 hz hc ?_; try with_reducible exact tt

theorem o_x2 (s t E : Nat) (hs : s ≤ 5) (hE : E ≤ 2000) (ht : t < 2 ^ E) : Eqn Tryz.prog o_gd [.d (.int .i64 s), .d (nD t)] [] (.d (nD (moreY s t))) [] := by
 refine Eqn.pure o_gf Plain.ok ?_
 have h2 := o_v5 2 (by decide)
 have h1 := o_v5 1 (by decide)
 have hp := o_x0 2 s (by omega) (fun i hi => Nat.le_trans (o_wy (m := 5) (by omega)) (by omega)) (Nat.le_trans (o_wy (n := 1) (m := 1) (Nat.le_refl _)) (by omega))
 obtain ⟨M, hM⟩ : ∃ M, M = 2000 := ⟨_, rfl⟩
 have hN : t < 10000 ^ M := Nat.lt_of_lt_of_le ht (Nat.le_trans (Nat.pow_le_pow_left (by decide : 2 ≤ 10000) E) (Nat.pow_le_pow_right (by decide) (by omega)))
 have hst := o_wx hN
 have hdv := o_vj t (2 ^ s) M (Nat.two_pow_pos s) (by omega) hN (Nat.lt_of_le_of_lt (Nat.pow_le_pow_left (by decide : 2 ≤ 10000) s) (Nat.pow_lt_pow_right (by decide) (by omega)))
 have hq : t / 2 ^ s ≤ t := Nat.div_le_self _ _
 have hsq := o_wx (Nat.lt_of_le_of_lt hq hN)
 have hsq1 : sizeD (t / 2 ^ s + 1) ≤ M + 1 := o_wx (Nat.lt_of_le_of_lt (Nat.succ_le_of_lt (Nat.lt_of_le_of_lt hq hN)) (Nat.pow_lt_pow_right (by decide) (by omega)))
 have ha1 := o_v8 (t / 2 ^ s) 1 (by omega) (Nat.le_trans (o_wy (n := 0) (m := 1) (by omega)) (by omega))
 have ha2 := o_v8 t (t / 2 ^ s + 1) (by omega) (by omega)
 have ha3 := o_v8 t (t / 2 ^ s) (by omega) (by omega)
 have hm : (t / 2 ^ s * 2 ^ s < t) ↔ t % 2 ^ s ≠ 0 := by
  have := Nat.div_add_mod t (2 ^ s)
  rw [Nat.mul_comm] at this
  omega
 have hmr : moreY s t = t + (if t % 2 ^ s ≠ 0 then t / 2 ^ s + 1 else t / 2 ^ s) := by
  unfold moreY
  by_cases h : t % 2 ^ s ≠ 0
  ·rw [if_pos h, if_pos (hm.2 h)]
  ·rw [if_neg h, if_neg (fun k => h (hm.1 k))]
 simp only [o_ge]
 rw [hmr]
 clear hmr hm hN ht hst hsq hsq1
 by_cases h : t % 2 ^ s = 0
 ·rw [if_neg (by simp [h])]
  rw [h] at hdv
  generalize 2 ^ s = u at *
  generalize t / u = q at *
  have e : nD 0 = .sl 0 [] := rfl
  rw [e] at hdv
  refine A04 h2 hp hdv ha3 ?_; try with_reducible exact tt
 ·rw [if_pos h]
  generalize 2 ^ s = u at *
  generalize t % u = m at *
  generalize t / u = q at *
  have hL : 0 < sizeD m := by
   rcases Nat.eq_zero_or_pos (sizeD m) with h5 | h5
   ·exact absurd (o_sc.1 (List.eq_nil_of_length_eq_zero h5)) h
   ·exact h5
  obtain ⟨z, DS, hz⟩ : ∃ z DS, nD m = .sl z DS ∧ 0 < z := ⟨_, _, rfl, hL⟩
  rw [hz.1] at hdv
  have hz2 := hz.2
  have hz3 : (0 : Int) < z := by omega
  refine A13 (fs hz2 hz3) h2 hp hdv ?_; try with_reducible exact tt
  refine A03 h1 ha1 ha2 ?_; try with_reducible exact tt
end
section
open Go.RowKit
def plR (p : Pl) : List V := [.d (.int .i64 p.x), .d (.int .i64 p.shift), .d (.sl (sizeD p.value) (dsD (decs p.value))), .d (.sl (sizeD p.reply) (dsD (decs p.reply)))]
theorem o_x3 {s k : Nat} (h1 : 1 ≤ s) (h5 : s ≤ 5) (hk : k ≤ 1023) : (placeY s k).reply < 2 ^ 1100 ∧ (placeY s k).value < 2 ^ 1100 ∧ (placeY s k).shift ≤ 1100 ∧ (placeY s k).x ≤ 1023 := by
 obtain ⟨a1, a2, a3, a4, a5⟩ := o_mz h1 k
 obtain ⟨E, hE⟩ : ∃ E, E = 1100 := ⟨_, rfl⟩
 rw [← hE]
 have e4 : (2 : Nat) ^ (2 * s + k) < 2 ^ E := Nat.pow_lt_pow_right (by decide) (by omega)
 have e2 : k * 2 ^ (2 * s + k) < 2 ^ 10 * 2 ^ (2 * s + k) := Nat.mul_lt_mul_of_pos_right (by omega) (Nat.two_pow_pos _)
 rw [← Nat.pow_add] at e2
 have e3 : (2 : Nat) ^ (10 + (2 * s + k)) < 2 ^ E := Nat.pow_lt_pow_right (by decide) (by omega)
 refine ⟨Nat.lt_of_le_of_lt a2 e4, Nat.lt_of_le_of_lt a4 (Nat.lt_trans e2 e3), by omega, by omega⟩
theorem o_x4 {x n m : Nat} (h : x < 2 ^ n) (hm : n ≤ m) : sizeD x ≤ m := o_wx (Nat.lt_of_lt_of_le h (Nat.le_trans (Nat.pow_le_pow_left (by decide : 2 ≤ 10000) n) (Nat.pow_le_pow_right (by decide) hm)))
set_option maxHeartbeats 4000000 in
theorem o_x5 (s k : Nat) (s1 : 1 ≤ s) (s5 : s ≤ 5) (hk : k ≤ 1023) : Eqn Tryz.prog o_el [.d (.int .i64 s), .d (.int .i64 k)] [] (.d (.agg [.int .i64 (placeY s k).x, .int .i64 (placeY s k).shift, nD (placeY s k).value, nD (placeY s k).reply])) [] := by
 refine Eqn.pure o_en Plain.ok ?_
 have h4 := o_v5 4 (by decide)
 have h2 := o_v5 2 (by decide)
 have hp4 := o_x0 4 s (by omega) (fun i hi => o_x4 (n := 2 * i + 1) (by rw [show (4 : Nat) = 2 ^ 2 from rfl, ← Nat.pow_mul]; exact Nat.pow_lt_pow_right (by decide) (by omega)) (by omega)) (o_x4 (n := 3) (by decide) (by omega))
 rw [show 4 ^ s = 2 ^ (2 * s) by rw [show (4 : Nat) = 2 ^ 2 from rfl, ← Nat.pow_mul]] at hp4
 simp only [o_em]
 simp only [nD] at h4 h2 hp4 ⊢
 refine A02 h4 hp4 ?_; try with_reducible exact tt
 refine AW.loopT (α := Nat) 2 (fun i => [(6, .d (.int .i64 (i : Nat)))]) (fun i => [(1, ⟨231, plR (placeY s i)⟩)]) (fun i => i ≤ k) (fun i => k - i) 0 ?_ ?_ (Nat.zero_le _) ?_ ?_ ?_
 ·simp
 ·simp
 ·simp
 ·simp [plR, placeY]
  exact Subs.cons (Sub1.refl _) (Subs.cons (Sub1.refl _) (Subs.cons Sub1.nil (Subs.refl _)))
 intro i hi
 obtain ⟨b1, b2, b3, b4⟩ := o_x3 (k := i) s1 s5 (by omega)
 simp only [plR]
 simp
 by_cases hin : i < k
 ·have hin' : (i : Int) < k := by omega
  have xei : IntKind.i64.wrap ((i : Int) + 1) = ((i + 1 : Nat) : Int) := by rw [w64 (by omega) (by omega)]; omega
  obtain ⟨c1, c2, c3, c4⟩ := o_x3 (k := i + 1) s1 s5 (by omega)
  have hnx : placeY s (i + 1) = nextY s (placeY s i) := rfl
  obtain ⟨q, hq⟩ : ∃ q, q = placeY s (i + 1) := ⟨_, rfl⟩
  rw [← hq] at c1 c2 c3 c4 hnx
  have hqq := hq
  generalize placeY s i = p at *
  obtain ⟨px, ps, pv, pr⟩ := p
  simp only at b1 b2 b3 b4
  have hp2 := o_x0 2 ps (by omega) (fun i hi => o_x4 (n := i + 1) (Nat.pow_lt_pow_right (by decide) (by omega)) (by omega)) (o_x4 (n := 3) (by decide) (by omega))
  have z1 := o_x4 b1 (m := 2000) (by omega)
  have z2 := o_x4 b2 (m := 2000) (by omega)
  have z3 := o_x4 (x := 2 ^ ps) (n := ps + 1) (m := 2000) (Nat.pow_lt_pow_right (by decide) (by omega)) (by omega)
  have had := o_v8 pv (2 ^ ps) (by omega) (by omega)
  have hqv : q.value = pv + 2 ^ ps := by rw [hnx, nextY]; split <;> rfl
  rw [← hqv] at had
  have z4 := o_x4 c2 (m := 2000) (by omega)
  have hcm := o_v9 q.value pr (by omega) (by omega)
  by_cases hge : pr ≤ q.value
  ·have hqe : q = ⟨px + 1, shiftY s (moreY s pr), q.value, moreY s pr⟩ := by
    have : nextY s ⟨px, ps, pv, pr⟩ = ⟨px + 1, shiftY s (moreY s pr), pv + 2 ^ ps, moreY s pr⟩ := by
     rw [nextY, if_pos (by rw [hqv] at hge; exact hge)]
    rw [hnx, this]
   have hz : 0 ≤ cmpZ q.value pr := by unfold cmpZ; rw [if_neg (by omega)]; split <;> decide
   have hqr : q.reply = moreY s pr := by rw [hqe]
   have hmr := o_x2 s pr 1100 s5 (by omega) b1
   have hbt := o_x1 (moreY s pr) 1100 (by rw [← hqr]; exact c1) (by omega) (by rw [← hqr]; exact o_x4 c1 (by omega))
   have hsh : q.shift = shiftY s (moreY s pr) := by rw [hqe]
   have hqx : q.x = px + 1 := by rw [hqe]
   unfold shiftY at hsh
   rw [← hqr] at hmr hbt hsh
   have hbl := o_mv c1
   clear hnx hqe hqr hp2
   have hp2 := o_x0 2 ps (by omega) (fun i hi => o_x4 (n := i + 1) (Nat.pow_lt_pow_right (by decide) (by omega)) (by omega)) (o_x4 (n := 3) (by decide) (by omega))
   generalize bitsN q.reply = B at *
   have xpx : IntKind.i64.wrap ((px : Int) + 1) = (q.x : Nat) := by rw [w64 (by omega) (by omega)]; omega
   have xb1 : IntKind.i64.wrap ((B : Int) - 1) = (B : Int) - 1 := w64 (by omega) (by omega)
   have x2s : IntKind.i64.wrap (2 * (s : Int)) = 2 * (s : Int) := w64 (by omega) (by omega)
   have xb2 : IntKind.i64.wrap ((B : Int) - 1 - 2 * (s : Int)) = (B : Int) - 1 - 2 * (s : Int) := w64 (by omega) (by omega)
   simp only [nD] at had hcm hmr hbt hp2
   clear b1 b2 c1 c2 z1 z2 z3 z4 hqv
   generalize 2 ^ ps = u at *
   generalize cmpZ q.value pr = z at *
   by_cases hneg : (B : Int) - 1 - 2 * (s : Int) < 0
   ·have hq0 : q.shift = 0 := by omega
    refine A16 (fs hin (fs hin' (fs hz (fs xpx (fs xb1 (fs x2s (fs xb2 (fs hneg xei)))))))) h2 hp2 had hcm hmr hbt ?_; try with_reducible exact tt
    exact ⟨i + 1, by omega, by omega, Sub1.int (by omega), by rw [← hqq, hq0]; exact Subs.refl _⟩
   ·have hq0 : (B : Int) - 1 - 2 * (s : Int) = (q.shift : Nat) := by omega
    replace xb2 := xb2.trans hq0
    rw [hq0] at hneg
    refine A16 (fs hin (fs hin' (fs hz (fs xpx (fs xb1 (fs x2s (fs xb2 (fs hneg xei)))))))) h2 hp2 had hcm hmr hbt ?_; try with_reducible exact tt
    exact ⟨i + 1, by omega, by omega, Sub1.int (by omega), by rw [← hqq]; exact Subs.refl _⟩
  ·have hqe : q = ⟨px, ps, q.value, pr⟩ := by
    have : nextY s ⟨px, ps, pv, pr⟩ = ⟨px, ps, pv + 2 ^ ps, pr⟩ := by
     rw [nextY, if_neg (by rw [hqv] at hge; exact hge)]
    rw [hqv, hnx, this]
   have hz : ¬ 0 ≤ cmpZ q.value pr := by unfold cmpZ; rw [if_pos (by omega)]; decide
   have hqx : q.x = px := by rw [hqe]
   have hqs : q.shift = ps := by rw [hqe]
   have hqr : q.reply = pr := by rw [hqe]
   simp only [nD] at had hcm hp2
   clear b1 b2 c1 c2 z1 z2 z3 z4 hqv hnx hqe
   generalize 2 ^ ps = u at *
   generalize cmpZ q.value pr = z at *
   refine A14 (fs hin (fs hin' (fs hz xei))) h2 hp2 had hcm ?_; try with_reducible exact tt
   exact ⟨i + 1, by omega, by omega, Sub1.int (by omega), by rw [← hqq, hqx, hqs, hqr]; exact Subs.refl _⟩
 ·have : i = k := by omega
  subst this
  refine A00 ?_; try with_reducible exact tt
end
section
open Go.RowKit
def SmallR (k a b : Nat) : Prop := k = 4 ∧ 1 ≤ a ∧ a ≤ 8 ∧ b ≤ 3 ∨ k ≠ 4 ∧ GoodS k a b
theorem o_x6 (k a b : Int) : Eqn Tryz.prog o_7j [.d (parD k a b)] [] (.d (parD k a b)) [] := by
 refine Eqn.pure o_7l Plain.ok ?_
 simp only [o_7k, parD]
 refine G0 ?_; try with_reducible exact tt
theorem o_x7 (y t : Int) (f : Bool) : Eqn Tryz.prog o_7p [.d (.agg [.int .i64 y, .int .i64 t, .bool f])] [] (.d (.agg [.int .i64 y, .int .i64 t, .bool f])) [] := by
 refine Eqn.pure o_7r Plain.ok ?_
 simp only [o_7q]
 refine G0 ?_; try with_reducible exact tt

theorem o_x8 (y : Int) (m n : Nat) (hm : m ≤ 1000000) (hn : n ≤ 1000000) : ∃ (N Y : Nat), bits BinOp.and IntKind.i64 y (m : Int) = N ∧ IntKind.i64.wrap ((n : Int) + 1) = (n : Int) + 1 ∧ (N : Int).tmod ((n : Int) + 1) = Y ∧ Y ≤ n := by
 obtain ⟨N, h1, h2, h3⟩ := o_ts y m (by omega)
 have hY : N % (n + 1) ≤ n := by have := Nat.mod_lt N (show 0 < n + 1 by omega); omega
 refine ⟨N, N % (n + 1), h1, w64 (by omega) (by omega), ?_, hY⟩
 rw [Int.tmod_eq_emod_of_nonneg (by omega)]; norm_cast

theorem o_x9 {k a b : Nat} (h : SmallR k a b) (y t : Int) (f : Bool) : ∃ (Y T : Nat) (F : Bool), WellR k a b Y T F ∧ Eqn Tryz.prog o_ap [.d (parD k a b), .d (.agg [.int .i64 y, .int .i64 t, .bool f])] [] (.d (tsD Y T F)) [] := by
 rcases h with ⟨rfl, h1, h2, h3⟩ | ⟨hk, h⟩
 ·obtain ⟨N1, Y, a1, a2, a3, a4⟩ := o_x8 y 7 a (by omega) (by omega)
  obtain ⟨N2, T, b1, b2, b3, b4⟩ := o_x8 t 3 b (by omega) (by omega)
  replace a1 : bits BinOp.and IntKind.i64 y 7 = N1 := a1
  replace b1 : bits BinOp.and IntKind.i64 t 3 = N2 := b1
  refine ⟨Y, T, f && (T == b), .inl ⟨rfl, a4, b4, by simp⟩, ?_⟩
  refine Eqn.pure o_ar Plain.ok ?_
  have hF : ((T : Int) == (b : Int)) = (T == b) := by rw [Bool.eq_iff_iff]; simp; omega
  simp only [o_aq, parD, tsD]
  generalize (T == b) = F at *
  cases f with
  | true =>
   refine G0B ?_; try with_reducible exact tt
   refine AW.cond rfl (fun h => ?_) (fun h => ?_)
   ·refine G1B (fs a1 (fs a2 (fs a3 (fs b1 (fs b2 (fs b3 hF)))))) ?_; try with_reducible exact tt
   ·simp at h
  | false =>
   refine G0B ?_; try with_reducible exact tt
   refine AW.cond rfl (fun h => ?_) (fun h => ?_)
   ·refine G1B (fs a1 (fs a2 (fs a3 (fs b1 (fs b2 (fs b3 hF)))))) ?_; try with_reducible exact tt
   ·simp at h
 ·have hW : 2 ^ b - 1 ≤ 15 := by have := Nat.pow_le_pow_right (n := 2) (by omega) h.2.2; omega
  have hb2 : 0 < 2 ^ b := Nat.two_pow_pos b
  obtain ⟨N1, Y, a1, a2, a3, a4⟩ := o_x8 y 15 (2 ^ b - 1) (by omega) (by omega)
  replace a1 : bits BinOp.and IntKind.i64 y 15 = N1 := a1
  refine ⟨Y, 0, f && (Y == 2 ^ b - 1), .inr ⟨hk, rfl, a4, by simp⟩, ?_⟩
  refine Eqn.pure o_ar Plain.ok ?_
  have hF : ((Y : Int) == ((2 ^ b - 1 : Nat) : Int)) = (Y == 2 ^ b - 1) := by rw [Bool.eq_iff_iff]; simp only [beq_iff_eq]; omega
  have e0 : (2 : Int) ^ b = (2 ^ b : Nat) := by rw [Int.natCast_pow]; rfl
  have hk' : ¬ (k : Int) = 4 := by omega
  have hb64 : b ≤ 64 := by have := h.2.2; omega
  simp only [o_aq, parD, tsD]
  generalize (Y == 2 ^ b - 1) = F at *
  generalize 2 ^ b = S at *
  have e3 : IntKind.i64.wrap (S : Int) = S := w64 (by omega) (by omega)
  have e4 : IntKind.i64.wrap ((S : Int) - 1) = ((S - 1 : Nat) : Int) := by rw [w64 (by omega) (by omega)]; omega
  generalize S - 1 = S1 at *
  cases f with
  | true =>
   refine G1B (fs hk hk') ?_; try with_reducible exact tt
   refine AW.cond rfl (fun h => ?_) (fun h => ?_)
   ·simp [hk'] at h
   ·refine G1B (fs a1 (fs a2 (fs a3 (fs e0 (fs e3 (fs e4 (fs hF hb64))))))) ?_; try with_reducible exact tt
  | false =>
   refine G1B (fs hk hk') ?_; try with_reducible exact tt
   refine AW.cond rfl (fun h => ?_) (fun h => ?_)
   ·simp [hk'] at h
   ·refine G1B (fs a1 (fs a2 (fs a3 (fs e0 (fs e3 (fs e4 (fs hF hb64))))))) ?_; try with_reducible exact tt

theorem o_xa (k a b : Int) : ∃ K A B : Nat, SmallR K A B ∧ ∀ (y t : Int) (f : Bool), ∃ (Y T : Nat) (F : Bool), WellR K A B Y T F ∧ Eqn Tryz.prog o_7g [.d (parD k a b), .d (.agg [.int .i64 y, .int .i64 t, .bool f])] [] (.tup [.d (parD K A B), .d (tsD Y T F)]) [] := by
 obtain ⟨e1, K, e2, hK, e3⟩ := o_tr k 4 (by omega) (by omega)
 obtain ⟨B1, B2, b1, b2, b3, b4⟩ := o_x8 b 255 3 (by omega) (by omega)
 replace b1 : bits BinOp.and IntKind.i64 b 255 = B1 := b1
 replace b3 : (B1 : Int).tmod 4 = B2 := b3
 obtain ⟨B3, d1, d2, d3⟩ := o_ts b 3 (by omega)
 obtain ⟨A1, a1, a2, a3⟩ := o_ts a 3 (by omega)
 obtain ⟨A2, a4, a5, a6⟩ := o_ts a 1 (by omega)
 obtain ⟨A3, a7, a8, a9⟩ := o_ts a 7 (by omega)
 replace a1 : bits BinOp.and IntKind.i64 a 3 = A1 := a1
 replace a4 : bits BinOp.and IntKind.i64 a 1 = A2 := a4
 replace a7 : bits BinOp.and IntKind.i64 a 7 = A3 := a7
 replace d1 : bits BinOp.and IntKind.i64 b 3 = B3 := d1
 have e4 : IntKind.i64.wrap (1 + (B2 : Int)) = ((1 + B2 : Nat) : Int) := by rw [w64 (by omega) (by omega)]; omega
 have hK' : K = 0 ∨ K = 1 ∨ K = 2 ∨ K = 3 := by omega
 rcases hK' with rfl | rfl | rfl | rfl
 ·refine ⟨1, 1 + A1, 1 + B2, .inr ⟨by omega, by omega, by omega, by omega⟩, fun y t f => ?_⟩
  obtain ⟨Y, T, F, hw, hE⟩ := o_x9 (k := 1) (a := 1 + A1) (b := 1 + B2) (.inr ⟨by omega, by omega, by omega, by omega⟩) y t f
  refine ⟨Y, T, F, hw, ?_⟩
  refine Eqn.pure o_7i Plain.ok ?_
  simp only [o_7h, parD, tsD] at hE ⊢
  generalize 1 + A1 = XA at *
  generalize 1 + B2 = XB at *
  refine G1B (fs e1 (fs e2 e3)) ?_; try with_reducible exact tt
  refine AW.cond rfl (fun h => ?_) (fun h => ?_)
  ·refine G1B (fs b1 (fs b3 (fs e4 (fs a1 a3)))) ?_; try with_reducible exact tt
   simp at hE
   refine CallS.pu (hE) (R0B ?_); try with_reducible exact tt
  ·simp at h
 ·refine ⟨2, A2, 1 + B2, .inr ⟨by omega, by omega, by omega, by omega⟩, fun y t f => ?_⟩
  obtain ⟨Y, T, F, hw, hE⟩ := o_x9 (k := 2) (a := A2) (b := 1 + B2) (.inr ⟨by omega, by omega, by omega, by omega⟩) y t f
  refine ⟨Y, T, F, hw, ?_⟩
  refine Eqn.pure o_7i Plain.ok ?_
  simp only [o_7h, parD, tsD] at hE ⊢
  generalize 1 + B2 = XB at *
  refine G1B (fs e1 (fs e2 e3)) ?_; try with_reducible exact tt
  refine AW.cond rfl (fun h => ?_) (fun h => ?_)
  ·simp at h
  refine G0B ?_; try with_reducible exact tt
  refine AW.cond rfl (fun h => ?_) (fun h => ?_)
  ·refine G1B (fs b1 (fs b3 (fs e4 a4))) ?_; try with_reducible exact tt
   simp at hE
   refine CallS.pu (hE) (R0B ?_); try with_reducible exact tt
  ·simp at h
 ·refine ⟨3, 1 + A2, 1 + B2, .inr ⟨by omega, by omega, by omega, by omega⟩, fun y t f => ?_⟩
  obtain ⟨Y, T, F, hw, hE⟩ := o_x9 (k := 3) (a := 1 + A2) (b := 1 + B2) (.inr ⟨by omega, by omega, by omega, by omega⟩) y t f
  refine ⟨Y, T, F, hw, ?_⟩
  refine Eqn.pure o_7i Plain.ok ?_
  simp only [o_7h, parD, tsD] at hE ⊢
  generalize 1 + A2 = XA at *
  generalize 1 + B2 = XB at *
  refine G1B (fs e1 (fs e2 e3)) ?_; try with_reducible exact tt
  refine AW.cond rfl (fun h => ?_) (fun h => ?_)
  ·simp at h
  refine G0B ?_; try with_reducible exact tt
  refine AW.cond rfl (fun h => ?_) (fun h => ?_)
  ·simp at h
  refine G0B ?_; try with_reducible exact tt
  refine AW.cond rfl (fun h => ?_) (fun h => ?_)
  ·refine G1B (fs b1 (fs b3 (fs e4 (fs a4 a6)))) ?_; try with_reducible exact tt
   simp at hE
   refine CallS.pu (hE) (R0B ?_); try with_reducible exact tt
  ·simp at h
 ·refine ⟨4, 1 + A3, B3, .inl ⟨rfl, by omega, by omega, by omega⟩, fun y t f => ?_⟩
  obtain ⟨Y, T, F, hw, hE⟩ := o_x9 (k := 4) (a := 1 + A3) (b := B3) (.inl ⟨rfl, by omega, by omega, by omega⟩) y t f
  refine ⟨Y, T, F, hw, ?_⟩
  refine Eqn.pure o_7i Plain.ok ?_
  simp only [o_7h, parD, tsD] at hE ⊢
  generalize 1 + A3 = XA at *
  refine G1B (fs e1 (fs e2 e3)) ?_; try with_reducible exact tt
  refine AW.cond rfl (fun h => ?_) (fun h => ?_)
  ·simp at h
  refine G0B ?_; try with_reducible exact tt
  refine AW.cond rfl (fun h => ?_) (fun h => ?_)
  ·simp at h
  refine G0B ?_; try with_reducible exact tt
  refine AW.cond rfl (fun h => ?_) (fun h => ?_)
  ·simp at h
  ·refine G1B (fs d1 (fs a7 a9)) ?_; try with_reducible exact tt
   simp at hE
   refine CallS.pu (hE) (R0B ?_); try with_reducible exact tt
end
section
open Go.RowKit
end
section
open Go.RowKit
end
section
open Go.RowKit

theorem o_xb {P : Program} {f : FuncId} {c : C} {rs : List RV} {nt : Nat} (hf : fnOf P f = some (c, rs, nt, false)) (vs : Array Value) (w : World) : (callFunc f vs).run P w = .ok (.enter f vs) w := by
 unfold fnOf at hf
 split at hf
 ·rename_i fn hfn
  split at hf
  ·rename_i b hb
   simp only [Option.some.injEq, Prod.mk.injEq] at hf
   obtain ⟨h1, h2, h3, h4⟩ := hf
   have h1 : ¬ fn.name = "runtime.NumGoroutine" := by simpa using h4
   simp [callFunc, hfn, h1, hb]
  ·cases hf
 ·cases hf

abbrev memW (W : World) : Mem := ⟨fun _ => none, fun b => b < W.heap.size, W⟩

theorem o_xc {P : Program} {f : FuncId} {args : List V} {c : C} {rs : List RV} {nt : Nat} (hf : fnOf P f = some (c, rs, nt, false)) (E : Eqn P f args [] (.d (.bool true)) []) {W : World} {vs : List Value} (h : V.reps (memW W) args vs) (ht : Tabs (memW W)) :
  Calls P f vs.toArray W (fun e W' => e = .returned (.bool true) ∧ Same W W') := by
 rcases E.run (memW W) vs ⟨fun b h => h, fun n b h => (by cases h), ht⟩ h (by simp) (fun n i b h => by simp at h) (fun _ _ => rfl) with ⟨v, h1, _⟩ | ⟨_, h2⟩
 ·rw [o_xb hf] at h1; cases h1
 ·refine h2.mono ?_
  rintro e w' ⟨v, m', rfl, rfl, hE⟩
  have hv := hE.rep
  rw [V.rep_d] at hv
  unfold D.rep at hv
  subst hv
  exact ⟨rfl, hE.le.os, hE.le.tape, hE.le.output, hE.le.size, fun k hk _ => hE.le.imm k hk⟩

theorem reps_of {I : Nat → Prop} {w : World} {α : Type} (f : α → D) (g : α → Value) (h : ∀ a, D.rep I w (f a) (g a)) : ∀ l : List α, D.reps I w (l.map f) (l.map g)
 | [] => by simp
 | a :: l => by
  rw [List.map_cons, List.map_cons, D.reps_cons]
  exact ⟨h a, reps_of f g h l⟩

theorem o_xd {W : World} {l : List D} {vs : List Value} (h1 : ∀ u ∈ vs, u.oneCell' = true) (h : D.reps (fun b => b < W.heap.size) W l vs) : V.rep (memW W) (.d (.agg l)) (.agg vs.toArray) := by
 rw [V.rep_d]
 unfold D.rep
 exact ⟨vs, rfl, h1, h⟩
end
section
open Go.RowKit
def actM (cs : List Bool) (k a b y t : Nat) (f : Bool) (z u : Nat) (g : Bool) (n : Nat) (m : Bool) (p : Nat) (d : Bool) : TR := if m then mergeRM cs k a b y t f z u g p d else addRM cs k a b n y t f p d
end
section
open Go.RowKit
theorem AW.meet {P : Program} {L : Nat} {Q Q2 : Exit → List V → List (Option Ob) → Prop} {T : List V} {H : List (Option Ob)} {x y : C} (T1 : List V) (H1 : List (Option Ob)) (hL : L ≤ H1.length)
  (h1 : AW P L x (thenQ (fun T' H' => wk H1.length T' T1 ∧ wkH H1.length H' H1) Q) T H) (h2 : AW P L y Q2 T1 H1) : AW P L x (thenQ (AW P L y Q2) Q) T H := by
 intro code hc m0 m a sat hle htop hL'
 refine wp_mono (h1 code hc m0 m a sat hle htop hL') ?_
 rintro e a' w' ⟨T', H', m', rfl, hq, rest⟩
 refine ⟨T', H', m', rfl, ?_, rest⟩
 cases e with
 | normal =>
  obtain ⟨w1, w2⟩ := hq
  exact AW.weak (Weak.of w1 w2) hL h2
 | _ => exact hq
end
section
open Go.RowKit
theorem o_xe {W : World} {g0 : Nat} {zs : List Int} (ht : ∀ g l, tab g = some l → g = g0 ∧ l = zs.map fun z : Int => D.int .u64 z) (hlt : g0 < W.heap.size) (hc : ∀ (i : Nat) u, (zs.map (Value.int .u64))[i]? = some u → W.cell? ⟨g0, i, none⟩ = some u) : Tabs (memW W) := by
 intro g l hg
 obtain ⟨rfl, rfl⟩ := ht g l hg
 unfold D.rep
 refine ⟨g, 0, rfl, hlt, zs.map (Value.int .u64), fun u hu => ?_, reps_of (fun z : Int => D.int .u64 z) (Value.int .u64) (fun _ => by unfold D.rep; rfl) zs, fun i u hu => ?_⟩
 ·obtain ⟨z, -, rfl⟩ := List.mem_map.1 hu
  rfl
 ·rw [Nat.zero_add]; exact hc i u hu
end
section
open Go.RowKit

theorem tabsIn {W : World} {g0 : Nat} {zs : List Int} (ht : ∀ g l, tab g = some l → g = g0 ∧ l = zs.map fun z : Int => D.int .u64 z) (hlt : g0 < W.heap.size) (hc : ∀ (i : Nat) u, (zs.map (Value.int .u64))[i]? = some u → W.cell? ⟨g0, i, none⟩ = some u) : Tabs (memW W) := o_xe ht hlt hc
theorem tabAll : ∀ g l, tab g = some l → g = 2 ∧ l = ([1, 10, 100, 1000, 10000, 100000, 1000000, 10000000, 100000000, 1000000000, 10000000000, 100000000000, 1000000000000, 10000000000000, 100000000000000, 1000000000000000, 10000000000000000, 100000000000000000, 1000000000000000000, 10000000000000000000] : List Int).map fun z : Int => D.int .u64 z := by
 intro g l h
 unfold tab at h
 split at h
 ·cases h
  exact ⟨‹_›, rfl⟩
 ·cases h
end
section
open Go.RowKit
@[simp] theorem o_xf (l : List D) : V.toDs (l.map .d) = some l := by induction l <;> simp_all [V.toDs]
abbrev St := Nat × Nat × Bool
def stD (s : St) : List D := [.int .i64 s.1, .int .i64 s.2.1, .bool s.2.2]
@[simp] theorem o_xg (s : St) : (stD s).length = 3 := rfl
theorem o_xh (s t : St) : eqKs [0, 0, 1] (stD s) (stD t) = some (decide (s = t)) := by
 obtain ⟨a, b, c⟩ := s
 obtain ⟨a', b', c'⟩ := t
 unfold stD eqKs
 simp only [eqK, if_true, eqKs]
 simp only [Option.some.injEq, Bool.and_true]
 rw [Bool.eq_iff_iff]
 simp only [Bool.and_eq_true, beq_iff_eq, decide_eq_true_eq, Prod.mk.injEq]
 constructor
 ·rintro ⟨h1, h2, h3⟩; exact ⟨by omega, by omega, h3⟩
 ·rintro ⟨h1, h2, h3⟩; exact ⟨by omega, by omega, h3⟩

abbrev Sp := List (St × Rat)
section
variable (rc : Rat → List D) (hrc : ∀ q, (rc q).length = 3)
def spD (l : Sp) : List D := l.flatMap fun p => stD p.1 ++ rc p.2
theorem o_xi (rc : Rat → List D) (hrc : ∀ q, (rc q).length = 3) (l : Sp) : (spD rc l).length = l.length * 6 := by
 induction l with
 | nil => rfl
 | cons p l ih => rw [spD, List.flatMap_cons, List.length_append, ← spD, ih]; simp [hrc]; omega
def idxQ (s : St) : Sp → Option Nat
 | [] => none
 | p :: l => if s = p.1 then some 0 else (idxQ s l).map (· + 1)
theorem o_xj (rc : Rat → List D) (hrc : ∀ q, (rc q).length = 3) (s : St) : ∀ l : Sp, mfind [0, 0, 1] 3 (stD s) l.length (spD rc l) = some (idxQ s l)
 | [] => rfl
 | p :: l => by
  have e1 : (spD rc (p :: l)).take 3 = stD p.1 := by
   rw [spD, List.flatMap_cons, List.append_assoc, List.take_append_of_le_length (by simp), List.take_of_length_le (by simp)]
  have e2 : (spD rc (p :: l)).drop 6 = spD rc l := by
   rw [spD, List.flatMap_cons, List.drop_append, List.drop_eq_nil_of_le (by simp [hrc]), List.nil_append]
   simp [hrc, spD]
  simp only [List.length_cons, mfind, List.length_nil]
  rw [e1, o_xh, e2]
  by_cases h : s = p.1
  ·simp [h, idxQ]
  ·simp only [h, decide_false]
   rw [o_xj rc hrc s l]
   simp [idxQ, h]
def getQ (l : Sp) (s : St) : Rat := match l with
 | [] => 0
 | p :: r => if s = p.1 then p.2 else getQ r s
def setQ (l : Sp) (s : St) (q : Rat) : Sp := match l with
 | [] => [(s, q)]
 | p :: r => if s = p.1 then (s, q) :: r else p :: setQ r s q
theorem o_xk (s t : St) (q : Rat) : ∀ l : Sp, getQ (setQ l s q) t = if t = s then q else getQ l t
 | [] => by simp [setQ, getQ]
 | p :: r => by
  unfold setQ
  split
  ·rename_i e
   unfold getQ
   by_cases h : t = s
   ·simp [h]
   ·simp [h, show ¬ t = p.1 from fun h' => h (h'.trans e.symm)]
  ·rename_i e
   unfold getQ
   rw [o_xk s t q r]
   by_cases h : t = s
   ·subst h; simp [e]
   ·simp [h]
theorem o_xl (s : St) (q : Rat) : ∀ l : Sp, (setQ l s q).map (·.1) = if s ∈ l.map (·.1) then l.map (·.1) else l.map (·.1) ++ [s]
 | [] => by simp [setQ]
 | p :: r => by
  unfold setQ
  split
  ·rename_i e; simp [e]
  ·rename_i e
   simp only [List.map_cons, o_xl s q r, List.mem_cons]
   by_cases h : s ∈ r.map (·.1)
   ·simp [h]
   ·simp [h, e]
theorem o_xm {s : St} {q : Rat} {l : Sp} (h : (l.map (·.1)).Nodup) : ((setQ l s q).map (·.1)).Nodup := by
 rw [o_xl]
 split
 ·exact h
 ·rename_i hs
  rw [List.nodup_append]
  refine ⟨h, by simp, fun a ha b hb => ?_⟩
  simp at hb; subst hb
  exact fun e => hs (e ▸ ha)
def lookD (z : List D) (s : St) : Sp → D
 | [] => .agg z
 | p :: r => if s = p.1 then .agg (rc p.2) else lookD z s r
theorem o_xn (rc : Rat → List D) (hrc : ∀ q, (rc q).length = 3) (s : St) (l : Sp) (z : List D) : mlook [0, 0, 1] 3 true z (stD s) (spD rc l) = some (lookD rc z s l) := by
 unfold mlook
 have hn : (spD rc l).length / ([0, 0, 1].length + 3) = l.length := by rw [o_xi rc hrc]; simp
 rw [hn, o_xj rc hrc]
 simp only [Option.map_some, Option.some.injEq]
 have key : ∀ l : Sp, (match idxQ s l with
   | some i => glD true (((spD rc l).drop (i * ([0, 0, 1].length + 3) + [0, 0, 1].length)).take 3)
   | none => glD true z) = lookD rc z s l := by
  intro l
  induction l with
  | nil => simp [idxQ, glD, lookD]
  | cons p l ih =>
   by_cases h : s = p.1
   ·have e1 : ((spD rc (p :: l)).drop 3).take 3 = rc p.2 := by
     rw [spD, List.flatMap_cons, List.append_assoc, List.drop_append, List.drop_eq_nil_of_le (by simp), List.nil_append]
     simp [hrc]
    simp [idxQ, h, lookD, glD, e1]
   ·have e2 : (spD rc (p :: l)).drop 6 = spD rc l := by
     rw [spD, List.flatMap_cons, List.drop_append, List.drop_eq_nil_of_le (by simp [hrc]), List.nil_append]
     simp [hrc, spD]
    rw [lookD, if_neg h, ← ih]
    simp only [idxQ, if_neg h]
    cases hi : idxQ s l with
    | none => rfl
    | some i =>
     simp only [Option.map_some]
     have : (i + 1) * ([0, 0, 1].length + 3) + [0, 0, 1].length = 6 + (i * ([0, 0, 1].length + 3) + [0, 0, 1].length) := by simp; omega
     rw [this, ← List.drop_drop, e2]
 exact key l
theorem o_xo (rc : Rat → List D) (hrc : ∀ q, (rc q).length = 3) (s : St) (l : Sp) (q : Rat) : mset [0, 0, 1] 3 (stD s) (rc q) (spD rc l) = some (spD rc (setQ l s q)) := by
 unfold mset
 have hn : (spD rc l).length / ([0, 0, 1].length + 3) = l.length := by rw [o_xi rc hrc]; simp
 rw [hn, o_xj rc hrc]
 simp only [Option.map_some, Option.some.injEq]
 have key : ∀ l : Sp, (match idxQ s l with
   | some i => (spD rc l).take (i * ([0, 0, 1].length + 3)) ++ (stD s ++ rc q) ++ (spD rc l).drop ((i + 1) * ([0, 0, 1].length + 3))
   | none => spD rc l ++ (stD s ++ rc q)) = spD rc (setQ l s q) := by
  intro l
  induction l with
  | nil => simp [idxQ, setQ, spD]
  | cons p l ih =>
   have e2 : (spD rc (p :: l)).drop 6 = spD rc l := by
    rw [spD, List.flatMap_cons, List.drop_append, List.drop_eq_nil_of_le (by simp [hrc]), List.nil_append]
    simp [hrc, spD]
   have e3 : spD rc (p :: l) = (stD p.1 ++ rc p.2) ++ spD rc l := by rw [spD, List.flatMap_cons]; rfl
   by_cases h : s = p.1
   ·simp only [idxQ, if_pos h, setQ]
    simp only [Nat.zero_mul, List.take_zero, Nat.zero_add, Nat.one_mul, List.nil_append]
    rw [show [0, 0, 1].length + 3 = 6 from rfl, e2]
    rw [show spD rc ((s, q) :: l) = (stD s ++ rc q) ++ spD rc l by rw [spD, List.flatMap_cons]; rfl]
   ·simp only [idxQ, if_neg h, setQ]
    rw [show spD rc (p :: setQ l s q) = (stD p.1 ++ rc p.2) ++ spD rc (setQ l s q) by rw [spD, List.flatMap_cons]; rfl, ← ih]
    have hl6 : (stD p.1 ++ rc p.2).length = 6 := by simp [hrc]
    cases hi : idxQ s l with
    | none => simp only [Option.map_none]; rw [e3]; simp
    | some i =>
     simp only [Option.map_some]
     rw [show [0, 0, 1].length + 3 = 6 from rfl]
     have t1 : (spD rc (p :: l)).take ((i + 1) * 6) = (stD p.1 ++ rc p.2) ++ (spD rc l).take (i * 6) := by
      rw [e3, List.take_append, List.take_of_length_le (by omega), hl6, show (i + 1) * 6 - 6 = i * 6 by omega]
     have t2 : (spD rc (p :: l)).drop ((i + 1 + 1) * 6) = (spD rc l).drop ((i + 1) * 6) := by
      rw [show (i + 1 + 1) * 6 = 6 + (i + 1) * 6 by omega, ← List.drop_drop, e2]
     rw [t1, t2]
     simp
 exact key l
end
end
section
open Go.RowKit
def addQ (l : Sp) (s : St) (x : Rat) : Sp := setQ l s (getQ l s + x)
def exQ (g : St → Rat) : Sp → Rat
 | [] => 0
 | p :: l => p.2 * g p.1 + exQ g l
def Uq (l : Sp) : Prop := (l.map (·.1)).Nodup
theorem o_xp (g : St → Rat) (s : St) (q : Rat) : ∀ l : Sp, Uq l → exQ g (setQ l s q) = exQ g l - getQ l s * g s + q * g s
 | [], _ => by simp only [setQ, exQ, getQ]; grind
 | p :: r, h => by
  have h' : Uq r := by unfold Uq at h ⊢; simp at h; exact h.2
  unfold setQ getQ
  split
  ·rename_i e
   simp only [exQ]
   rw [e]; grind
  ·simp only [exQ]
   rw [o_xp g s q r h']; grind
theorem o_xq {s : St} {q : Rat} {l : Sp} (h : Uq l) : Uq (addQ l s q) := o_xm h
theorem o_xr (g : St → Rat) (s : St) (q : Rat) (l : Sp) (h : Uq l) : exQ g (addQ l s q) = exQ g l + q * g s := by
 unfold addQ; rw [o_xp g s _ l h]; grind
theorem o_xs (g : St → Rat) {l k : Sp} (h : l.Perm k) : exQ g l = exQ g k := by
 induction h with
 | nil => rfl
 | cons x _ ih => simp only [exQ, ih]
 | swap x y l => simp only [exQ]; grind
 | trans _ _ h1 h2 => rw [h1, h2]
theorem o_xt (g : St → Rat) (l : Sp) : exQ g (l.filter fun p => decide (p.2 ≠ 0)) = exQ g l := by
 induction l with
 | nil => rfl
 | cons p l ih =>
  rw [List.filter_cons]
  split
  ·simp only [exQ, ih]
  ·rename_i h
   have : p.2 = 0 := by simpa using h
   simp only [exQ, ih, this]; grind
def ltS (s t : St) : Bool := decide (s.1 < t.1) || (decide (s.1 = t.1) && (decide (s.2.1 < t.2.1) || (decide (s.2.1 = t.2.1) && (!s.2.2 && t.2.2))))
theorem o_xu (s : St) : ltS s s = false := by unfold ltS; simp
theorem o_xv {s t u : St} (h1 : ltS s t = true) (h2 : ltS t u = true) : ltS s u = true := by
 obtain ⟨a, b, c⟩ := s; obtain ⟨a', b', c'⟩ := t; obtain ⟨a2, b2, c2⟩ := u
 unfold ltS at *
 simp only [Bool.or_eq_true, Bool.and_eq_true, decide_eq_true_eq, Bool.not_eq_true'] at *
 rcases h1 with h1 | ⟨h1, h1' | ⟨h1', h3, h4⟩⟩ <;> rcases h2 with h2 | ⟨h2, h2' | ⟨h2', h5, h6⟩⟩ <;> first | (left; omega) | (right; refine ⟨by omega, ?_⟩; first | (left; omega) | (right; exact ⟨by omega, by assumption, by assumption⟩))
theorem o_xw (s t : St) : ltS s t = true ∨ s = t ∨ ltS t s = true := by
 obtain ⟨a, b, c⟩ := s; obtain ⟨a', b', c'⟩ := t
 unfold ltS
 simp only [Bool.or_eq_true, Bool.and_eq_true, decide_eq_true_eq, Bool.not_eq_true', Prod.mk.injEq]
 rcases Nat.lt_trichotomy a a' with h | h | h
 ·left; left; exact h
 ·rcases Nat.lt_trichotomy b b' with h2 | h2 | h2
  ·left; right; exact ⟨h, .inl h2⟩
  ·cases c <;> cases c' <;> simp [h, h2]
  ·right; right; right; exact ⟨h.symm, .inl h2⟩
 ·right; right; left; exact h
def leP (p q : St × Rat) : Bool := !(ltS q.1 p.1)
theorem o_xx (a b c : St × Rat) (h1 : leP a b = true) (h2 : leP b c = true) : leP a c = true := by
 unfold leP at *
 simp only [Bool.not_eq_true'] at *
 cases h : ltS c.1 a.1 with
 | false => rfl
 | true =>
  rcases o_xw b.1 c.1 with h3 | h3 | h3
  ·rw [o_xv h3 h] at h1; cases h1
  ·rw [h3, h] at h1; cases h1
  ·rw [h3] at h2; cases h2
theorem o_xy (a b : St × Rat) : leP a b || leP b a := by
 unfold leP
 rcases o_xw a.1 b.1 with h | h | h
 ·have : ltS b.1 a.1 = false := by
   cases h2 : ltS b.1 a.1 with
   | false => rfl
   | true => have := o_xv h h2; rw [o_xu] at this; cases this
  simp [this]
 ·simp [h, o_xu]
 ·have : ltS a.1 b.1 = false := by
   cases h2 : ltS a.1 b.1 with
   | false => rfl
   | true => have := o_xv h h2; rw [o_xu] at this; cases this
  simp [this]
def nzQ (l : Sp) : Sp := l.filter fun p => decide (p.2 ≠ 0)
def atQ (l : Sp) : Sp := (nzQ l).mergeSort leP
theorem o_xz (l : Sp) : (atQ l).Perm (nzQ l) := List.mergeSort_perm _ _
theorem o_y0 (g : St → Rat) (l : Sp) : exQ g (atQ l) = exQ g l := by rw [o_xs g (o_xz l)]; exact o_xt g l
theorem o_y1 {l : Sp} (h : Uq l) : Uq (nzQ l) := by
 unfold Uq nzQ at *
 exact List.Sublist.nodup ((List.filter_sublist (l := l)).map _) h
theorem o_y2 {l : Sp} (h : Uq l) : Uq (atQ l) := by
 unfold Uq
 exact ((o_xz l).map _).nodup_iff.2 (o_y1 h)
theorem o_y3 {a b : St × Rat} : ∀ {l : Sp}, Uq l → a ∈ l → b ∈ l → a.1 = b.1 → a = b
 | [], _, h, _, _ => by cases h
 | p :: l, hu, ha, hb, e => by
  unfold Uq at hu
  rw [List.map_cons, List.nodup_cons] at hu
  rcases List.mem_cons.1 ha with h1 | h1 <;> rcases List.mem_cons.1 hb with h2 | h2
  ·rw [h1, h2]
  ·exact absurd (show p.1 ∈ l.map (·.1) from List.mem_map.2 ⟨b, h2, by rw [← e, h1]⟩) hu.1
  ·exact absurd (show p.1 ∈ l.map (·.1) from List.mem_map.2 ⟨a, h1, by rw [e, h2]⟩) hu.1
  ·exact o_y3 hu.2 h1 h2 e
theorem o_y4 {l k : Sp} (hu : Uq l) (hp : k.Perm (nzQ l)) (hs : k.Pairwise fun a b => ltS a.1 b.1 = true) : k = atQ l := by
 have h2 : (atQ l).Pairwise fun a b => leP a b = true := List.pairwise_mergeSort o_xx o_xy _
 refine List.Perm.eq_of_pairwise (le := fun a b => leP a b = true) ?_ (hs.imp ?_) h2 (hp.trans (o_xz l).symm)
 ·intro a b ha hb h3 h4
  have ha' : a ∈ nzQ l := hp.mem_iff.1 ha
  have hb' : b ∈ nzQ l := (o_xz l).mem_iff.1 hb
  have : a.1 = b.1 := by
   unfold leP at h3 h4
   rcases o_xw a.1 b.1 with h | h | h
   ·rw [h] at h4; simp at h4
   ·exact h
   ·rw [h] at h3; simp at h3
  exact o_y3 (o_y1 hu) ha' hb' this
 ·intro a b h
  unfold leP
  cases h2 : ltS b.1 a.1 with
  | false => rfl
  | true => have := o_xv h h2; rw [o_xu] at this; cases this
theorem o_y5 (s : St) : ∀ l : Sp, Uq l → getQ l s = exQ (fun t => if t = s then 1 else 0) l
 | [], _ => rfl
 | p :: r, h => by
  have h' : Uq r := by unfold Uq at h ⊢; simp at h; exact h.2
  unfold getQ exQ
  split
  ·rename_i e
   have hz : exQ (fun t => if t = s then (1 : Rat) else 0) r = 0 := by
    rw [← o_y5 s r h']
    have hn : s ∉ r.map (·.1) := by unfold Uq at h; rw [List.map_cons, List.nodup_cons] at h; rw [e]; exact h.1
    clear h h'
    induction r with
    | nil => rfl
    | cons q r ih =>
     simp only [List.map_cons, List.mem_cons, not_or] at hn
     unfold getQ
     rw [if_neg hn.1]
     exact ih hn.2
   rw [hz, if_pos e.symm]; grind
  ·rename_i e
   rw [o_y5 s r h', if_neg fun e' => e e'.symm]; grind
theorem o_y6 (s : St) {l : Sp} (h : Uq l) : getQ (atQ l) s = getQ l s := by
 rw [o_y5 s _ (o_y2 h), o_y5 s _ h, o_y0]

def innQ (q : Rat) (out l : Sp) : Sp := l.foldl (fun o b => addQ o b.1 (q * b.2)) out
def timesQ (next : St → Sp) (l : Sp) : Sp := (atQ l).foldl (fun out a => innQ a.2 out (atQ (next a.1))) []
def eitQ (x : Rat) (s o : St) : Sp := addQ (addQ [] s x) o (1 - x)
def stepQ (top : Nat) (c : Nat → Rat) (s : St) : Sp := if s.1 = top then [((s.1, s.2.1, true), 1)] else eitQ (c s.1) (s.1 + 1, s.2) s
def ofQ (next : St → Sp) (s : St) : Nat → Sp
 | 0 => [(s, 1)]
 | n + 1 => timesQ next (ofQ next s n)
theorem o_y7 (g : St → Rat) (q : Rat) : ∀ (l out : Sp), Uq out → Uq (innQ q out l) ∧ exQ g (innQ q out l) = exQ g out + q * exQ g l
 | [], out, h => ⟨h, by simp only [innQ, List.foldl_nil, exQ]; grind⟩
 | b :: l, out, h => by
  obtain ⟨h1, h2⟩ := o_y7 g q l (addQ out b.1 (q * b.2)) (o_xq h)
  refine ⟨h1, ?_⟩
  show exQ g (innQ q (addQ out b.1 (q * b.2)) l) = _
  rw [h2, o_xr g _ _ _ h]
  simp only [exQ]; grind
theorem o_y8 (g : St → Rat) (next : St → Sp) : ∀ (l out : Sp), Uq out → Uq (l.foldl (fun out a => innQ a.2 out (atQ (next a.1))) out) ∧ exQ g (l.foldl (fun out a => innQ a.2 out (atQ (next a.1))) out) = exQ g out + exQ (fun s => exQ g (next s)) l
 | [], out, h => ⟨h, by simp only [List.foldl_nil, exQ]; grind⟩
 | a :: l, out, h => by
  obtain ⟨h0, h3⟩ := o_y7 g a.2 (atQ (next a.1)) out h
  obtain ⟨h1, h2⟩ := o_y8 g next l (innQ a.2 out (atQ (next a.1))) h0
  refine ⟨h1, ?_⟩
  show exQ g (l.foldl (fun out a => innQ a.2 out (atQ (next a.1))) (innQ a.2 out (atQ (next a.1)))) = _
  rw [h2, h3, o_y0]
  simp only [exQ]; grind
theorem o_y9 (next : St → Sp) (l : Sp) : Uq (timesQ next l) := (o_y8 (fun _ => 0) next (atQ l) [] (by simp [Uq])).1
theorem o_ya (g : St → Rat) (next : St → Sp) (l : Sp) : exQ g (timesQ next l) = exQ (fun s => exQ g (next s)) l := by
 have h := (o_y8 g next (atQ l) [] (by simp [Uq])).2
 rw [o_y0] at h
 have e : exQ g [] = 0 := rfl
 rw [e] at h
 unfold timesQ
 rw [h]; grind
theorem o_yb (next : St → Sp) (s : St) : ∀ n, Uq (ofQ next s n)
 | 0 => by simp [ofQ, Uq]
 | n + 1 => o_y9 _ _
theorem o_yc (g : St → Rat) (x : Rat) (s o : St) : Uq (eitQ x s o) ∧ exQ g (eitQ x s o) = x * g s + (1 - x) * g o := by
 have h0 : Uq ([] : Sp) := by simp [Uq]
 refine ⟨o_xq (o_xq h0), ?_⟩
 unfold eitQ
 rw [o_xr g _ _ _ (o_xq h0), o_xr g _ _ _ h0]
 simp only [exQ]; grind
theorem o_yd (g : St → Rat) (top : Nat) (c : Nat → Rat) (s : St) : Uq (stepQ top c s) ∧ exQ g (stepQ top c s) = if s.1 = top then g (s.1, s.2.1, true) else c s.1 * g (s.1 + 1, s.2) + (1 - c s.1) * g s := by
 unfold stepQ
 split
 ·refine ⟨by simp [Uq], ?_⟩
  simp only [exQ]; grind
 ·exact o_yc g _ _ _
def okQ (top : Nat) (s : St) : Prop := s.1 ≤ top ∧ s.2.1 = 0 ∧ (s.2.2 = true → s.1 = top)
def oklQ (top : Nat) (l : Sp) : Prop := ∀ p ∈ l, okQ top p.1 ∧ 0 ≤ p.2
theorem o_ye {l : Sp} {s : St} {q : Rat} {p : St × Rat} (h : p ∈ setQ l s q) : p ∈ l ∨ p = (s, q) := by
 induction l with
 | nil => simp [setQ] at h; exact .inr h
 | cons r l ih =>
  unfold setQ at h
  split at h
  ·rcases List.mem_cons.1 h with h | h
   ·exact .inr h
   ·exact .inl (by simp [h])
  ·rcases List.mem_cons.1 h with h | h
   ·exact .inl (by simp [h])
   ·exact (ih h).imp (fun h => by simp [h]) id
theorem o_yf {top : Nat} {l : Sp} (h : oklQ top l) (s : St) : 0 ≤ getQ l s := by
 induction l with
 | nil => exact Rat.le_refl
 | cons p l ih =>
  unfold getQ
  split
  ·exact (h p (by simp)).2
  ·exact ih fun q hq => h q (by simp [hq])
theorem o_yg {top : Nat} {l : Sp} (h : oklQ top l) {s : St} {q : Rat} (hs : okQ top s) (hq : 0 ≤ q) : oklQ top (addQ l s q) := by
 intro p hp
 rcases o_ye hp with hp | rfl
 ·exact h p hp
 ·refine ⟨hs, ?_⟩
  have := o_yf h s
  show 0 ≤ getQ l s + q
  grind
theorem o_yh {top : Nat} {l : Sp} (h : oklQ top l) : oklQ top (atQ l) := fun p hp => h p (List.mem_filter.1 ((o_xz l).mem_iff.1 hp)).1
theorem o_yi {top : Nat} {q : Rat} (hq : 0 ≤ q) : ∀ {l out : Sp}, oklQ top out → oklQ top l → oklQ top (innQ q out l)
 | [], out, h, _ => h
 | b :: l, out, h, hl => by
  obtain ⟨h1, h2⟩ := hl b (by simp)
  exact o_yi (out := addQ out b.1 (q * b.2)) (l := l) hq (o_yg h h1 (Rat.mul_nonneg hq h2)) fun p hp => hl p (by simp [hp])
theorem o_yj {top : Nat} {next : St → Sp} (hn : ∀ s, okQ top s → oklQ top (next s)) {l : Sp} (h : oklQ top l) : oklQ top (timesQ next l) := by
 have key : ∀ (k out : Sp), oklQ top out → oklQ top k → oklQ top (k.foldl (fun out a => innQ a.2 out (atQ (next a.1))) out) := by
  intro k
  induction k with
  | nil => intro out h _; exact h
  | cons a k ih =>
   intro out ho hk
   obtain ⟨h1, h2⟩ := hk a (by simp)
   exact ih _ (o_yi h2 ho (o_yh (hn _ h1))) fun p hp => hk p (by simp [hp])
 exact key _ _ (fun p hp => by cases hp) (o_yh h)
theorem o_yk {top : Nat} {c : Nat → Rat} (h0 : ∀ k, k < top → 0 ≤ c k) (h1 : ∀ k, k < top → c k ≤ 1) {s : St} (hs : okQ top s) : oklQ top (stepQ top c s) := by
 obtain ⟨a, b, f⟩ := s
 obtain ⟨s1, s2, s3⟩ := hs
 simp only at s1 s2 s3
 unfold stepQ
 split
 ·rename_i e
  intro p hp
  simp at hp; subst hp
  refine ⟨⟨s1, s2, fun _ => e⟩, ?_⟩
  exact (by decide : (0 : Rat) ≤ 1)
 ·rename_i e
  have hlt : a < top := by simp only at e; omega
  have e0 := h0 a hlt
  have e1 := h1 a hlt
  have hf : f = false := by
   cases f with
   | false => rfl
   | true => exact absurd (s3 rfl) (by omega)
  subst hf
  refine o_yg (o_yg (fun p hp => by cases hp) ⟨by simp only; omega, s2, fun h => by simp at h⟩ e0) ⟨s1, s2, s3⟩ ?_
  show (0 : Rat) ≤ 1 - c a
  grind
theorem o_yl {top : Nat} {c : Nat → Rat} (h0 : ∀ k, k < top → 0 ≤ c k) (h1 : ∀ k, k < top → c k ≤ 1) {s : St} (hs : okQ top s) : ∀ n, oklQ top (ofQ (stepQ top c) s n)
 | 0 => fun p hp => by
  simp [ofQ] at hp; subst hp
  exact ⟨hs, (by decide : (0 : Rat) ≤ 1)⟩
 | n + 1 => o_yj (fun s hs => o_yk h0 h1 hs) (o_yl h0 h1 hs n)
theorem o_ym {top : Nat} {c : Nat → Rat} (s : St) : ∀ n, exQ (fun _ => 1) (ofQ (stepQ top c) s n) = 1
 | 0 => by simp only [ofQ, exQ]; grind
 | n + 1 => by
  show exQ (fun _ => 1) (timesQ (stepQ top c) (ofQ (stepQ top c) s n)) = 1
  rw [o_ya]
  have : (fun t => exQ (fun _ => (1 : Rat)) (stepQ top c t)) = fun _ => 1 := by
   funext t
   rw [(o_yd (fun _ => 1) top c t).2]
   split
   ·rfl
   ·grind
  rw [this, o_ym s n]
end
section
open Go.RowKit
@[simp] theorem o_yn (θ : Nat → Nat) (l : List D) : V.rens θ (l.map V.d) = l.map V.d := o_5v θ l
@[simp] theorem o_yo (n : Nat) (l : List D) : V.lowl n (l.map V.d) = true := o_5w n l
def rcD (q : Rat) : List D := [natW q.num.natAbs, .bool (decide (q.num < 0)), natW (q.den - 1)]
theorem o_yp (q : Rat) : rD q = .agg (rcD q) := rfl
def zR : List D := [.nilsl, .bool false, .nilsl]
theorem Sub1.agg2 {l r : List D} (h : Subs (l.map V.d) (r.map V.d)) : Sub1 (.d (.agg l)) (.d (.agg r)) := fun m v k => by
 rw [V.rep_d] at k ⊢
 unfold D.rep at k ⊢
 obtain ⟨vs, h1, h2, h3⟩ := k
 exact ⟨vs, h1, h2, V.reps_map_d.1 (h m vs (V.reps_map_d.2 h3))⟩
theorem o_yq : Sub1 (.d (.agg zR)) (.d (rD 0)) := Sub1.agg2 (Subs.cons Sub1.nil (Subs.cons (Sub1.refl _) (Subs.cons Sub1.nil (Subs.refl _))))
theorem o_yr (s : St) : ∀ l : Sp, Sub1 (.d (lookD rcD zR s l)) (.d (rD (getQ l s)))
 | [] => o_yq
 | p :: r => by
  unfold lookD getQ
  split
  ·exact Sub1.refl _
  ·exact o_yr s r
def spO (l : Sp) : Ob := ⟨1000391, (spD rcD l).map .d⟩
theorem o_ys (l : Sp) (s : St) (x : Rat) (h1 : RS (getQ l s) 100000) (h2 : RS x 100000) : Eqn Tryz.prog o_bi [.mp 0, .d (.agg (stD s)), .d (rD x)] [spO l] (.tup []) [spO (addQ l s x)] := by
 refine Eqn.gen [0] o_bk (by simp) (by simp) (by rfl) (by decide) (by simp) (by simp [spO, o_5w]) ?_
 have ha : Eqn Tryz.prog o_71 [.d (lookD rcD zR s l), .d (rD x)] [] (.d (rD (getQ l s + x))) [] := (o_r5 _ _ h1 h2).sub (Subs.cons (o_yr s l) (Subs.refl _))
 have hl := o_xn rcD (fun _ => rfl) s l zR
 have hm := o_xo rcD (fun _ => rfl) s l (getQ l s + x)
 have hn := o_xi rcD (fun _ => rfl) l
 simp only [o_bj, spO, o_yp, stD, zR, addQ, rcD] at ha hl hm hn ⊢
 generalize spD (fun q => _) l = L at *
 generalize spD (fun q => _) (setQ l s (getQ l s + x)) = L2 at *
 refine A10 (fs hl (fs hm hn)) ?_; try with_reducible exact tt
 refine CallS.pu (ha) (R1 (fs hl (fs hm hn)) ?_); try with_reducible exact tt
end
section
open Go.RowKit
theorem o_yt : RS (1 : Rat) 1 := by
 have := RS.mk' (z := 1) (d := 1) (N := 1) (by decide) (by decide) (by decide)
 exact this
theorem rof1 : Eqn Tryz.prog o_6v [.d (.int .i64 1)] [] (.d (rD 1)) [] := by
 have := o_rm 1 (by omega)
 simpa using this
theorem rof0 : Eqn Tryz.prog o_6v [.d (.int .i64 0)] [] (.d (rD 0)) [] := by
 have := o_rm 0 (by omega)
 simpa using this
theorem o_yu (x : Rat) (s o : St) (hx : RS x 1000) (hso : s ≠ o) : Eqn Tryz.prog o_f0 [.d (rD x), .d (.agg (stD s)), .d (.agg (stD o))] [] (.mp 0) [spO (eitQ x s o)] := by
 refine Eqn.gen [3] o_f2 (by simp) (by simp) (by rfl) (by decide) (by simp) (by simp [spO]) ?_
 have h1 : RS (1 - x) 2000 := (o_yt.sub hx).le (by omega)
 have a1 := o_ys [] s x (by simp only [getQ]; exact ⟨by decide, by decide⟩) (hx.le (by omega))
 have a2 := o_ys (addQ [] s x) o (1 - x) (by rw [addQ, o_xk, if_neg (fun h => hso h.symm)]; show RS (0 : Rat) 100000; exact ⟨by decide, by decide⟩) (h1.le (by omega))
 have hs := o_r6 1 x (o_yt.le (by omega)) (hx.le (by omega))
 have ho := rof1
 simp only [o_f1, spO, o_yp, stD, eitQ, spD, List.flatMap_nil, List.map_nil] at a1 a2 hs ho ⊢
 generalize (addQ [] s x).flatMap _ = L1 at *
 generalize (addQ (addQ [] s x) o (1 - x)).flatMap _ = L2 at *
 generalize rcD (1 - x) = R1 at *
 simp only [rcD] at a1 hs ho ⊢
 refine A00 ?_; try with_reducible exact tt
 refine CallS.g [3] (a1) (R0 ?_); try with_reducible exact tt
 refine CallS.pu (ho) (R0 ?_); try with_reducible exact tt
 refine CallS.pu (hs) (R0 ?_); try with_reducible exact tt
 refine CallS.g [3] (a2) (R0 ?_); try with_reducible exact tt
 done
@[simp] theorem o_yv (ks : List Nat) (vw : Nat) (kl dv : List D) : mset ks vw kl dv [] = some (kl ++ dv) := by simp [mset, mfind]
theorem o_yw (s : St) : Eqn Tryz.prog o_ay [.d (.agg (stD s))] [] (.mp 0) [spO [(s, 1)]] := by
 refine Eqn.gen [1] o_b0 (by simp) (by simp) (by rfl) (by decide) (by simp) (by simp [spO]) ?_
 have ho := rof1
 simp only [o_az, spO, o_yp, stD, rcD, spD, List.flatMap_cons, List.flatMap_nil] at ho ⊢
 simp
 refine A00 ?_; try with_reducible exact tt
 refine CallS.pu (ho) (R0 ?_); try with_reducible exact tt

def chP (k a x : Nat) : Rat := if k = 1 then chM a x else mkRat 1 (2 ^ expOf k a x)
theorem o_yx (e : Nat) : halfD e = rD (mkRat 1 (2 ^ e)) := by
 obtain ⟨h1, h2, h3⟩ := o_qm 1 (2 ^ e) (Nat.two_pow_pos e)
 have hg : Nat.gcd (1 : Int).natAbs (2 ^ e) = 1 := by simp
 rw [hg] at h1 h2
 unfold halfD rD
 rw [h1, h2, show decide ((mkRat 1 (2 ^ e)).num < 0) = false by rw [decide_eq_false_iff_not, h3]; decide]
 simp
theorem o_yy : MethOK Tryz.prog 223 "tallymark/chain.chance" o_i4 := fun v w => by kernel_rfl
theorem o_yz (a k : Nat) (h1 : 1 ≤ a) (h2 : a ≤ 4096) (hk : k ≤ 1023) (hb : bitsN (a + 1) * k ≤ 8192) : Eqn Tryz.prog o_i4 [.d (.int .i64 a), .d (.int .i64 k)] [] (.tup [.d (rD (chM a k)), .d (.int .i64 0)]) [] := by
 refine Eqn.pure o_i6 (o_l8 _ _) ?_
 have h := (o_ww a k h1 h2 hk hb).1
 rw [o_yp] at h ⊢
 simp only [o_i5, rcD] at h ⊢
 refine G0 ?_; try with_reducible exact tt
 refine CallS.pu (h) (R0 ?_); try with_reducible exact tt
theorem o_z0 {k a w x : Nat} (h : GoodS k a w) (hx : x ≤ 15) : ∃ ti d g, MethOK Tryz.prog ti "tallymark/chain.chance" g ∧ kindD k a = .ifc ti d ∧ Eqn Tryz.prog g [.d d, .d (.int .i64 x)] [] (.tup [.d (rD (chP k a x)), .d (.int .i64 0)]) [] := by
 by_cases hk : k = 1
 ·subst hk
  have ha : 1 ≤ a ∧ a ≤ 4 := by
   rcases h.1 with ⟨-, h1, h2⟩ | ⟨h1, -⟩ | ⟨h1, -⟩
   ·exact ⟨h1, h2⟩
   ·omega
   ·omega
  refine ⟨_, _, _, o_yy, rfl, ?_⟩
  rw [chP, if_pos rfl]
  have hb : bitsN (a + 1) ≤ 3 := o_mv (by omega)
  exact o_yz a x ha.1 (by omega) (by omega) (Nat.le_trans (Nat.mul_le_mul hb hx) (by omega))
 ·obtain ⟨ti, d, g, h1, h2, h3⟩ := o_u0 h hk hx
  rw [o_yx] at h3
  exact ⟨ti, d, g, h1, h2, by rw [chP, if_neg hk]; exact h3⟩
theorem o_z1 {k a w x : Nat} (h : GoodS k a w) (hx : x < 2 ^ w - 1) : Eqn Tryz.prog o_f6 [.d (parD k a w), .d (.int .i64 x)] [] (.tup [.d (rD (chP k a x)), .d (.int .i64 0)]) [] := by
 refine Eqn.pure o_f8 (o_l8 _ _) ?_
 have h2 : 2 ^ w - 1 ≤ 15 := by have := Nat.pow_le_pow_right (n := 2) (by omega) h.2.2; omega
 have w2 : w ≤ 10 := by have := h.2.2; omega
 have hc := o_tp h
 have hat := o_to k a w w2 x (by omega) (by omega) hc
 have ht := o_tn k a w w2 hc
 have hkd := o_si k a w
 obtain ⟨ti, d, g, hm, hd, hg⟩ := o_z0 (x := x) h (by omega)
 rw [hd] at hkd
 rw [o_yp] at hg ⊢
 simp only [o_f7, parD, rcD] at hat ht hg ⊢
 generalize 2 ^ w - 1 = W at *
 have g1 : ¬ x = W := by omega
 have g2 : ¬ (x : Int) = W := by omega
 refine G1 (fs g1 g2) ?_; try with_reducible exact tt
 refine CallS.pf 2 1 ⟨3, _⟩ [.int .i64 x] (hat) (by first | rfl | (simp [g1, g2]; done)) (R1 (fs g1 g2) ?_); try with_reducible exact tt
 refine CallS.pu (ht) (R1 (fs g1 g2) ?_); try with_reducible exact tt
 refine AW.cond rfl (fun h => ?_) (fun h => ?_)
 ·simp [g2] at h
 refine G0 ?_; try with_reducible exact tt
 refine CallS.pu (hkd) (R0 ?_); try with_reducible exact tt
 refine ⟨_, hm, ?_⟩
 refine CallS.pu (hg) (R0 ?_); try with_reducible exact tt
theorem o_z2 {k a w : Nat} (h : GoodS k a w) : Eqn Tryz.prog o_f6 [.d (parD k a w), .d (.int .i64 (2 ^ w - 1 : Nat))] [] (.tup [.d (.agg zR), .d (.int .i64 0)]) [] := by
 refine Eqn.pure o_f8 (o_l8 _ _) ?_
 have h2 : 2 ^ w - 1 ≤ 15 := by have := Nat.pow_le_pow_right (n := 2) (by omega) h.2.2; omega
 have w2 : w ≤ 10 := by have := h.2.2; omega
 have hc := o_tp h
 have hat := o_to k a w w2 ((2 ^ w - 1 : Nat) : Int) (by omega) (Int.le_refl _) hc
 have ht := o_tn k a w w2 hc
 simp only [o_f7, parD, zR] at hat ht ⊢
 generalize 2 ^ w - 1 = W at *
 refine G0 ?_; try with_reducible exact tt
 refine CallS.pf 2 1 ⟨3, _⟩ [.int .i64 W] (hat) (by first | rfl | (simp; done)) (R0 ?_); try with_reducible exact tt
 refine CallS.pu (ht) (R0 ?_); try with_reducible exact tt
 refine A00 ?_; try with_reducible exact tt
theorem o_z3 (k a b : Int) : Eqn Tryz.prog o_f3 [.d (parD k a b)] [] (.d (parD k a b)) [] := by
 refine Eqn.pure o_f5 Plain.ok ?_
 simp only [o_f4, parD]
 refine A00 ?_; try with_reducible exact tt
end
section
open Go.RowKit
theorem o_z4 (x : Int) : Eqn Tryz.prog o_hs [.d (.int .i64 x)] [] (.d (.bool false)) [] := by
 refine Eqn.pure o_hu Plain.ok ?_
 simp only [o_ht]
 refine A00 ?_; try with_reducible exact tt
def cmpG (x y : Int) : Int := if x < y then -1 else if y < x then 1 else 0
theorem o_z5 (x y : Int) : Eqn Tryz.prog o_gv [.d (.int .i64 x), .d (.int .i64 y)] [] (.d (.int .i64 (cmpG x y))) [] := by
 refine Eqn.pure o_gx Plain.ok ?_
 simp only [o_gw]
 have h1 := o_z4 x
 have h2 := o_z4 y
 unfold cmpG
 by_cases g1 : x < y
 ·rw [if_pos g1]
  refine A12 g1 h1 h2 ?_; try with_reducible exact tt
 ·rw [if_neg g1]
  by_cases g2 : y < x
  ·rw [if_pos g2]
   refine A12 (fs g1 g2) h1 h2 ?_; try with_reducible exact tt
  ·rw [if_neg g2]
   refine A12 (fs g1 g2) h1 h2 ?_; try with_reducible exact tt
theorem o_z6 (f : Bool) : Eqn Tryz.prog o_gy [.d (.bool f)] [] (.d (.int .i64 ((if f then 1 else 0)))) [] := by
 refine Eqn.pure o_h0 Plain.ok ?_
 simp only [o_gz]
 cases f
 ·refine A00 ?_; try with_reducible exact tt
 ·refine A00 ?_; try with_reducible exact tt
def orG (a b c : Int) : Int := if a ≠ 0 then a else if b ≠ 0 then b else c
theorem o_z7 (a b c : Int) : Eqn Tryz.prog o_gs [.d (.sl 3 [.int .i64 a, .int .i64 b, .int .i64 c])] [] (.d (.int .i64 (orG a b c))) [] := by
 refine Eqn.pure o_gu Plain.ok ?_
 simp only [o_gt]
 unfold orG
 by_cases ha : a = 0
 ·subst ha
  by_cases hb : b = 0
  ·subst hb
   by_cases hc : c = 0
   ·subst hc
    refine A00 ?_; try with_reducible exact tt
    refine AW.rounds 4 ?_
    refine A00 ?_; try with_reducible exact tt
   ·refine A00 ?_; try with_reducible exact tt
    refine AW.rounds 4 ?_
    refine A10 hc ?_; try with_reducible exact tt
  ·refine A00 ?_; try with_reducible exact tt
   refine AW.rounds 4 ?_
   refine A10 hb ?_; try with_reducible exact tt
 ·refine A00 ?_; try with_reducible exact tt
  refine AW.rounds 4 ?_
  refine A10 ha ?_; try with_reducible exact tt
end
section
open Go.RowKit
def ordI (p q : St × Rat) : Int := orG (cmpG p.1.1 q.1.1) (cmpG p.1.2.1 q.1.2.1) (cmpG (if p.1.2.2 then 1 else 0) (if q.1.2.2 then 1 else 0))
theorem o_z8 (p q : St × Rat) : ordI p q < 0 ↔ ltS p.1 q.1 = true := by
 obtain ⟨⟨a, b, c⟩, x⟩ := p; obtain ⟨⟨a', b', c'⟩, x'⟩ := q
 unfold ordI orG cmpG ltS
 simp only [Bool.or_eq_true, Bool.and_eq_true, decide_eq_true_eq, Bool.not_eq_true']
 cases c <;> cases c' <;> simp <;> (repeat' split) <;> omega
theorem o_z9 (p q : St × Rat) (x y z x' y' z' : D) : Eqn Tryz.prog o_fd [.d (.agg [.int .i64 p.1.1, .int .i64 p.1.2.1, .bool p.1.2.2, x, y, z]), .d (.agg [.int .i64 q.1.1, .int .i64 q.1.2.1, .bool q.1.2.2, x', y', z'])] [] (.d (.int .i64 (ordI p q))) [] := by
 refine Eqn.pure o_ff Plain.ok ?_
 simp only [o_fe]
 have t1 := o_z6 p.1.2.2
 have t2 := o_z6 q.1.2.2
 have c1 := o_z5 p.1.1 q.1.1
 have c2 := o_z5 p.1.2.1 q.1.2.1
 have c3 := o_z5 (if p.1.2.2 then 1 else 0) (if q.1.2.2 then 1 else 0)
 have ho := o_z7 (cmpG p.1.1 q.1.1) (cmpG p.1.2.1 q.1.2.1) (cmpG (if p.1.2.2 then 1 else 0) (if q.1.2.2 then 1 else 0))
 unfold ordI
 generalize cmpG (if p.1.2.2 then 1 else 0) (if q.1.2.2 then 1 else 0) = C3 at *
 generalize cmpG p.1.1 q.1.1 = C1 at *
 generalize cmpG p.1.2.1 q.1.2.1 = C2 at *
 generalize (if p.1.2.2 then (1 : Int) else 0) = T1 at *
 generalize (if q.1.2.2 then (1 : Int) else 0) = T2 at *
 generalize p.1.2.2 = F1 at *
 generalize q.1.2.2 = F2 at *
 refine A06B c1 c2 t1 t2 c3 c3 ?_; try with_reducible exact tt
 refine CallS.pf 4 1 ⟨3, [.d (.int .i64 C1), .d (.int .i64 C2), .d (.int .i64 C3)]⟩ [.int .i64 C1, .int .i64 C2, .int .i64 C3] (ho) (by first | rfl | (simp [-Bool.exists_bool]; done)) (R0B ?_); try with_reducible exact tt

section
variable {aC : St × Rat → List D}
def rowA (aC : St × Rat → List D) (l : Sp) : List V := (l.flatMap aC).map .d
theorem o_za (h6 : ∀ p, (aC p).length = 6) (l : Sp) : (rowA aC l).length = l.length * 6 := by
 rw [rowA, List.length_map, o_wr h6]
@[simp] theorem o_zb (n : Nat) (l : Sp) : V.lowl n (rowA aC l) = true := o_5w _ _
@[simp] theorem o_zc (θ : Nat → Nat) (l : Sp) : V.rens θ (rowA aC l) = rowA aC l := o_5v _ _
theorem o_zd (h6 : ∀ p, (aC p).length = 6) (l : Sp) (i : Nat) (h : i < l.length) : ((rowA aC l).drop (i * 6)).take 6 = (aC l[i]).map .d := by
 rw [rowA, ← List.map_drop, ← List.map_take, o_wt h6 l i h]
theorem o_ze (l k : Sp) : rowA aC (l ++ k) = rowA aC l ++ rowA aC k := by simp [rowA]
def SortTo (L K : Sp) : Prop := ∀ K' : Sp, K'.Perm L → K'.Pairwise (fun a b => ltS a.1 b.1 = true) → K' = K
end
end
section
open Go.RowKit
def ChOk (k a w : Nat) : Prop := GoodS k a w
def topC (w : Nat) : Nat := 2 ^ w - 1
def onQ (w : Nat) (s : St) (x : Rat) : Sp := if s.1 = topC w then [((s.1, s.2.1, true), 1)] else eitQ x (s.1 + 1, s.2) s
theorem o_zf {k a w : Nat} (h : GoodS k a w) (s : St) (hs : s.1 ≤ topC w) (x : Rat) (hx : RS x 1000) (X : D) (hX : Sub1 (.d X) (.d (rD x))) (hX2 : ∃ x0 x1 x2, X = .agg [x0, x1, x2]) :
  Eqn Tryz.prog o_f9 [.d (parD k a w), .d (.agg (stD s)), .d X] [] (.mp 0) [spO (onQ w s x)] := by
 have h15 : topC w ≤ 15 := by have := Nat.pow_le_pow_right (n := 2) (by omega) h.2.2; unfold topC; omega
 have w2 : w ≤ 10 := by have := h.2.2; omega
 have hc := o_tp h
 have ht := o_tn k a w w2 hc
 have hl := o_z3 k a w
 rw [show 2 ^ w - 1 = topC w from rfl] at ht
 obtain ⟨x0, x1, x2, rfl⟩ := hX2
 obtain ⟨s1, s2, s3⟩ := s
 simp only at hs
 unfold onQ
 generalize topC w = W at *
 by_cases e : s1 = W
 ·subst e
  rw [if_pos rfl]
  refine Eqn.gen [3] o_fb (by simp) (by simp) (by rfl) (by decide) (by simp) (by simp [spO]) ?_
  have hsu := o_yw (s1, s2, true)
  simp only [o_fa, spO, stD, parD] at ht hl hsu ⊢
  generalize spD rcD [((s1, s2, true), 1)] = L at *
  refine A00 ?_; try with_reducible exact tt
  refine CallS.pu (hl) (R0 ?_); try with_reducible exact tt
  refine CallS.pu (ht) (R0 ?_); try with_reducible exact tt
  refine A00 ?_; try with_reducible exact tt
  refine CallS.nX (hsu) (R0 ?_); try with_reducible exact tt
 ·rw [if_neg e]
  have hei := o_yu x (s1 + 1, s2, s3) (s1, s2, s3) hx (by simp)
  replace hei := hei.sub (Subs.cons hX (Subs.refl _))
  have e1 : ¬ (s1 : Int) = (W : Int) := by omega
  have ew : IntKind.i64.wrap ((s1 : Int) + 1) = ((s1 + 1 : Nat) : Int) := by rw [w64 (by omega) (by omega)]; omega
  refine Eqn.gen [4] o_fb (by simp) (by simp) (by rfl) (by decide) (by simp) (by simp [spO]) ?_
  simp only [o_fa, spO, stD, parD] at ht hl hei ⊢
  generalize spD rcD _ = L at *
  refine A00 ?_; try with_reducible exact tt
  refine CallS.pu (hl) (R0 ?_); try with_reducible exact tt
  refine CallS.pu (ht) (R1 (fs e e1) ?_); try with_reducible exact tt
  refine A10 (fs e (fs e1 ew)) ?_; try with_reducible exact tt
  refine CallS.nX (hei) (R1 ew ?_); try with_reducible exact tt
end
section
open Go.RowKit
theorem o_zg {k a w x : Nat} (h : GoodS k a w) (hx : x ≤ 15) : RS (chP k a x) 1000 := by
 unfold chP
 by_cases hk : k = 1
 ·subst hk
  rw [if_pos rfl]
  have ha : 1 ≤ a ∧ a ≤ 4 := by
   rcases h.1 with ⟨-, h1, h2⟩ | ⟨h1, -⟩ | ⟨h1, -⟩
   ·exact ⟨h1, h2⟩
   ·omega
   ·omega
  have hb : bitsN (a + 1) ≤ 3 := o_mv (by omega)
  exact (o_ww a x ha.1 (by omega) (by omega) (Nat.le_trans (Nat.mul_le_mul hb hx) (by omega))).2.le (by omega)
 ·rw [if_neg hk]
  have he := o_tz h hk hx
  exact RS.mk' (Nat.two_pow_pos _) (by show size 1 ≤ 1000; exact Nat.le_trans (by decide : size 1 ≤ 1) (by omega)) (Nat.le_trans (o_u1 he) (by omega))
theorem o_zh {k a w : Nat} (h : GoodS k a w) (s : St) (hs : s.1 ≤ topC w) : Eqn Tryz.prog o_b7 [.d (parD k a w), .d (.agg (stD s))] [] (.mp 0) [spO (stepQ (topC w) (chP k a) s)] := by
 have h15 : topC w ≤ 15 := by have := Nat.pow_le_pow_right (n := 2) (by omega) h.2.2; unfold topC; omega
 have hk4 : ¬ (k : Int) = 4 := by have := h.1; omega
 have hk4' : ¬ k = 4 := by have := h.1; omega
 have hl := o_z3 k a w
 have hrs := o_zg h (x := s.1) (by omega)
 have hst : stepQ (topC w) (chP k a) s = onQ w s (chP k a s.1) := rfl
 rw [hst]
 have key : ∃ x0 x1 x2 : D, Sub1 (.d (.agg [x0, x1, x2])) (.d (rD (if s.1 = topC w then 0 else chP k a s.1))) ∧ Eqn Tryz.prog o_f6 [.d (parD k a w), .d (.int .i64 s.1)] [] (.tup [.d (.agg [x0, x1, x2]), .d (.int .i64 0)]) [] := by
  by_cases e : s.1 = topC w
  ·refine ⟨_, _, _, by rw [if_pos e]; exact o_yq, ?_⟩
   have := o_z2 h
   rw [show 2 ^ w - 1 = s.1 from e.symm] at this
   exact this
  ·refine ⟨_, _, _, by rw [if_neg e]; exact Sub1.refl _, o_z1 h (by unfold topC at *; omega)⟩
 obtain ⟨x0, x1, x2, hX, hch⟩ := key
 have hon : Eqn Tryz.prog o_f9 [.d (parD k a w), .d (.agg (stD s)), .d (.agg [x0, x1, x2])] [] (.mp 0) [spO (onQ w s (chP k a s.1))] := by
  by_cases e : s.1 = topC w
  ·rw [if_pos e] at hX
   have := o_zf h s hs 0 (show RS (0 : Rat) 1000 from ⟨by decide, by decide⟩) _ hX ⟨_, _, _, rfl⟩
   have e2 : onQ w s 0 = onQ w s (chP k a s.1) := by unfold onQ; rw [if_pos e, if_pos e]
   rw [e2] at this
   exact this
  ·rw [if_neg e] at hX
   exact o_zf h s hs _ hrs _ hX ⟨_, _, _, rfl⟩
 refine Eqn.gen [3] o_b9 (by simp) (by simp) (by rfl) (by decide) (by simp) (by simp [spO]) ?_
 simp only [o_b8, spO, stD, parD] at hl hch hon ⊢
 generalize spD rcD _ = L at *
 refine A10 (fs hk4 hk4') ?_; try with_reducible exact tt
 refine CallS.pu (hl) (R0 ?_); try with_reducible exact tt
 refine CallS.pu (hch) (R0 ?_); try with_reducible exact tt
 refine A00 ?_; try with_reducible exact tt
 refine CallS.nX (hon) (R0 ?_); try with_reducible exact tt
theorem o_zi {k a w : Nat} (h : GoodS k a w) (s : St) (hs : s.1 ≤ topC w) : Eqn Tryz.prog o_b4 [.d (.agg (stD s)), .p 0 0] [⟨73, [.d (.int .i64 k), .d (.int .i64 a), .d (.int .i64 w)]⟩] (.mp 1) [⟨73, [.d (.int .i64 k), .d (.int .i64 a), .d (.int .i64 w)]⟩, spO (stepQ (topC w) (chP k a) s)] := by
 refine Eqn.gen [0, 2] o_b6 (by simp) (by simp) (by rfl) (by decide) (by simp) (by simp [spO]) ?_
 have hst := o_zh h s hs
 simp only [o_b5, spO, stD, parD] at hst ⊢
 generalize spD rcD _ = L at *
 refine A00 ?_; try with_reducible exact tt
 refine CallS.nX (hst) (R0 ?_); try with_reducible exact tt
end
section
open Go.RowKit
def atomC (p : St × Rat) : List D := stD p.1 ++ rcD p.2
theorem o_zj (p : St × Rat) : (atomC p).length = 6 := rfl
theorem o_zk (l : Sp) : spD rcD l = l.flatMap atomC := rfl
theorem o_zl (p q : St × Rat) : Eqn Tryz.prog o_fd [.d (.agg (atomC p)), .d (.agg (atomC q))] [] (.d (.int .i64 (ordI p q))) [] := o_z9 p q _ _ _ _ _ _
def seenV (σ : List Nat) : List V := σ.map fun i : Nat => V.d (.int .i64 (i : Int))
@[simp] theorem o_zm : ∀ σ : List Nat, seenOf (seenV σ) = some σ
 | [] => rfl
 | i :: σ => by
  have := o_zm σ
  unfold seenV at *
  rw [List.map_cons, seenOf, if_pos (by omega), this]
  simp
@[simp] theorem o_zn (σ : List Nat) (i : Nat) : seenV σ ++ [V.d (.int .i64 (i : Int))] = seenV (σ ++ [i]) := by simp [seenV]
@[simp] theorem o_zo (n : Nat) (σ : List Nat) : V.lowl n (seenV σ) = true := by
 induction σ with
 | nil => rfl
 | cons i σ ih => unfold seenV at *; simp [V.lowl, V.low, ih]
@[simp] theorem o_zp (θ : Nat → Nat) (σ : List Nat) : V.rens θ (seenV σ) = seenV σ := by
 induction σ with
 | nil => rfl
 | cons i σ ih => unfold seenV at *; simp [V.rens, V.ren, ih]
theorem o_zq : seenV [] = [] := rfl
def metQ (l : Sp) (σ : List Nat) : Sp := σ.flatMap fun i => match l[i]? with
 | some p => if p.2 = 0 then [] else [p]
 | none => []
theorem o_zr (l : Sp) (σ : List Nat) (i : Nat) (h : i < l.length) : metQ l (σ ++ [i]) = metQ l σ ++ if l[i].2 = 0 then [] else [l[i]] := by
 simp [metQ, List.flatMap_append, List.getElem?_eq_getElem h]
theorem o_zs (l : Sp) (σ : List Nat) (hp : σ.Perm (List.range l.length)) : (metQ l σ).Perm (nzQ l) := by
 have h1 : (metQ l σ).Perm (metQ l (List.range l.length)) := List.Perm.flatMap_right _ hp
 refine h1.trans (List.Perm.of_eq ?_)
 have key : ∀ n, n ≤ l.length → metQ l (List.range n) = nzQ (l.take n) := by
  intro n
  induction n with
  | zero => intro _; rfl
  | succ n ih =>
   intro hn
   rw [List.range_succ, o_zr l _ n (by omega), ih (by omega), List.take_add_one, List.getElem?_eq_getElem (by omega)]
   unfold nzQ
   rw [List.filter_append]
   congr 1
   simp only [Option.toList, List.filter_cons, List.filter_nil]
   by_cases h : l[n].2 = 0 <;> simp [h]
 rw [key l.length (Nat.le_refl _), List.take_length]
theorem o_zt (l L : Sp) (hu : Uq l) (hp : L.Perm (nzQ l)) : SortTo L (atQ l) := fun K' h1 h2 => o_y4 hu (h1.trans hp) h2
end
section
open Go.RowKit
theorem o_zu {x y z : St} (h1 : ltS x y = false) (h2 : ltS y z = false) : ltS x z = false := by
 cases h : ltS x z with
 | false => rfl
 | true =>
  rcases o_xw x y with h3 | h3 | h3
  ·rw [h3] at h1; cases h1
  ·rw [← h3, h] at h2; cases h2
  ·rw [o_xv h3 h] at h2; cases h2
structure AtV (I : Nat → Prop) (w : World) : Type where
 enc : List Value
 «at» : St × Rat
 rep : D.reps I w (atomC «at») enc
 one : ∀ u ∈ enc, u.oneCell' = true
theorem AtV.len {I : Nat → Prop} {w : World} (x : AtV I w) : x.enc.length = 6 := by rw [D.reps_len x.rep]; rfl
theorem D.reps_split {I : Nat → Prop} {w : World} : ∀ {l k : List D} {vs : List Value}, D.reps I w (l ++ k) vs → ∃ us ws, vs = us ++ ws ∧ D.reps I w l us ∧ D.reps I w k ws
 | [], k, vs, h => ⟨[], vs, rfl, D.reps_nil.2 rfl, h⟩
 | x :: l, k, vs, h => by
  obtain ⟨v, r, rfl, h1, h2⟩ := D.reps_cons'.1 h
  obtain ⟨us, ws, rfl, h3, h4⟩ := D.reps_split h2
  exact ⟨v :: us, ws, rfl, D.reps_cons.2 ⟨h1, h3⟩, h4⟩
theorem o_zv {I : Nat → Prop} {w : World} : ∀ (L : Sp) (us : List Value), D.reps I w (L.flatMap atomC) us → (∀ u ∈ us, u.oneCell' = true) → ∃ dl : List (AtV I w), dl.map AtV.«at» = L ∧ dl.flatMap AtV.enc = us
 | [], us, h, _ => by
  simp at h
  exact ⟨[], rfl, by simp [h]⟩
 | p :: L, us, h, h1 => by
  rw [List.flatMap_cons] at h
  obtain ⟨a, b, rfl, h2, h3⟩ := D.reps_split h
  obtain ⟨dl, h4, h5⟩ := o_zv L b h3 fun u hu => h1 u (by simp [hu])
  exact ⟨⟨a, p, h2, fun u hu => h1 u (by simp [hu])⟩ :: dl, by rw [List.map_cons, h4], by rw [List.flatMap_cons, h5]⟩
theorem o_zw {I : Nat → Prop} {w : World} : ∀ dl : List (AtV I w), D.reps I w ((dl.map AtV.«at»).flatMap atomC) (dl.flatMap AtV.enc)
 | [] => by simp
 | x :: dl => by
  rw [List.map_cons, List.flatMap_cons, List.flatMap_cons]
  exact D.reps_append x.rep (o_zw dl)
theorem o_zx {I : Nat → Prop} {w : World} : ∀ dl : List (AtV I w), (dl.flatMap AtV.enc).length = dl.length * 6
 | [] => rfl
 | x :: dl => by rw [List.flatMap_cons, List.length_append, o_zx dl, x.len, List.length_cons]; omega
theorem o_zy {α : Type} {k : Nat} (enc : α → List Value) (hk : ∀ x, (enc x).length = k) : ∀ (l : List α) (t : Nat) (h : t < l.length * k), ∃ x, l[t / k]? = some x ∧ (l.flatMap enc)[t]? = (enc x)[t % k]?
 | [], t, h => by simp at h
 | x :: l, t, h => by
  have k0 : 0 < k := by
   rcases Nat.eq_zero_or_pos k with h0 | h0
   ·subst h0; simp at h
   ·exact h0
  rw [List.flatMap_cons]
  by_cases ht : t < k
  ·refine ⟨x, by rw [Nat.div_eq_of_lt ht]; rfl, ?_⟩
   rw [List.getElem?_append_left (by rw [hk]; exact ht), Nat.mod_eq_of_lt ht]
  ·have hd : t / k = (t - k) / k + 1 := by
    rw [show t = (t - k) + k by omega, Nat.add_div_right _ k0]; simp
   have hm : t % k = (t - k) % k := by
    conv => lhs; rw [show t = (t - k) + k by omega, Nat.add_mod_right]
   obtain ⟨y, h1, h2⟩ := o_zy enc hk l (t - k) (by rw [List.length_cons, Nat.add_mul] at h; omega)
   refine ⟨y, by rw [hd]; exact h1, ?_⟩
   rw [List.getElem?_append_right (by rw [hk]; omega), hk, h2, hm]
theorem o_zz {α : Type} [Inhabited α] {k : Nat} (enc : α → List Value) (hk : ∀ x, (enc x).length = k) (hfl : ∀ l : List α, (l.flatMap enc).length = l.length * k) (dl : List α) : Go.Sort.flatK enc k dl.toArray = (dl.flatMap enc).toArray := by
 apply Array.ext
 ·rw [Go.Sort.size_flatK]; simp [hfl]
 ·intro t h1 h2
  have ht : t < dl.length * k := by rw [Go.Sort.size_flatK] at h1; simpa using h1
  obtain ⟨x, e1, e2⟩ := o_zy enc hk dl t ht
  have h3 := Go.Sort.get_flatK enc k dl.toArray t (by simpa using ht)
  rw [getElem!_pos _ t h1] at h3
  rw [h3]
  have e3 : dl.toArray[t / k]! = x := by simp [Array.getElem!_eq_getD, Array.getD_eq_getD_getElem?, e1]
  rw [e3]
  have k0 : 0 < k := by
   rcases Nat.eq_zero_or_pos k with h0 | h0
   ·subst h0; simp at ht
   ·exact h0
  have h4 : t % k < (enc x).length := by rw [hk]; exact Nat.mod_lt _ k0
  rw [List.getElem?_eq_getElem h4] at e2
  have e4 : (dl.flatMap enc)[t]'(by rw [hfl]; exact ht) = (enc x)[t % k] := by
   have h5 : t < (dl.flatMap enc).length := by rw [hfl]; exact ht
   rw [List.getElem?_eq_getElem h5] at e2
   exact Option.some.inj e2
  rw [getElem!_pos (enc x) _ h4]
  simp only [List.getElem_toArray]
  exact e4.symm
end
section
open Go.RowKit
instance : Inhabited (St × Rat) := ⟨((0, 0, false), 0)⟩
section
variable {α : Type} [Inhabited α] (enc : α → List Value) (k : Nat)
theorem o_100 (w : World) (b off n : Nat) (d : Array α) (os : Array Obj) : (sortWorldK enc k w b off n d os).heap = w.heap.modify b (Go.Sort.onCells (Go.Sort.putCells id off (Go.Sort.flatK enc k d))) ++ os := rfl
theorem o_101 (w : World) (b off n : Nat) (d : Array α) (os : Array Obj) {c : Nat} (hc : c < w.heap.size) (h : c ≠ b) : (sortWorldK enc k w b off n d os).heap[c]? = w.heap[c]? := by
 rw [o_100, Array.getElem?_append, if_pos (by simpa using hc), Array.getElem?_modify, if_neg (fun e => h e.symm)]
theorem o_102 (w : World) (b off n : Nat) (d : Array α) (os : Array Obj) {c : Array Value} {T : TypeId} {fr : Nat × Nat} (h : w.heap[b]? = some (.cells c T fr)) :
  (sortWorldK enc k w b off n d os).heap[b]? = some (.cells (Go.Sort.putCells id off (Go.Sort.flatK enc k d) c) T fr) := by
 have hc : b < w.heap.size := (Array.getElem?_eq_some_iff.1 h).1
 rw [o_100, Array.getElem?_append, if_pos (by simpa using hc), Array.getElem?_modify, if_pos rfl, h]
 rfl
theorem o_103 (w : World) (b off n : Nat) (d : Array α) (os : Array Obj) : (sortWorldK enc k w b off n d os).heap.size = w.heap.size + os.size := by
 rw [o_100, Array.size_append, Array.size_modify]
end
theorem o_104 (us vs more : List Value) (h : us.length = vs.length) : Go.Sort.putCells id 0 us.toArray (vs ++ more).toArray = (us ++ more).toArray := by
 apply Array.ext_getElem?
 intro j
 rw [Go.Sort.putCells, Array.getElem?_mapIdx]
 simp only [List.getElem?_toArray, List.size_toArray, Nat.zero_le, true_and, Nat.zero_add, Nat.sub_zero]
 by_cases hj : j < us.length
 ·rw [List.getElem?_append_left hj, List.getElem?_append_left (by omega), List.getElem?_eq_getElem hj, List.getElem?_eq_getElem (by omega : j < vs.length)]
  simp [hj]
 ·rw [List.getElem?_append_right (by omega), List.getElem?_append_right (by omega), h]
  cases more[j - vs.length]? with
  | none => rfl
  | some y => simp [show ¬ j < vs.length by omega]
theorem o_105 {α : Type} [Inhabited α] (enc : α → List Value) (k : Nat) (w : World) (b n : Nat) (d : Array α) (os : Array Obj) {c : Nat} (hc : c < w.heap.size) : (sortWorldK enc k w b 0 n d os).shape? c = w.shape? c := by
 unfold World.shape?
 by_cases h : c = b
 ·subst h
  rw [o_100, Array.getElem?_append, if_pos (by simpa using hc), Array.getElem?_modify, if_pos rfl]
  cases h1 : w.heap[c]? with
  | none => rfl
  | some o => cases o <;> simp [Go.Sort.onCells, Go.Sort.putCells]
 ·rw [o_101 enc k w b 0 n d os hc h]

theorem o_106 {W w : World} (l1 : w.os = W.os) (l2 : w.tape = W.tape) (l3 : w.output = W.output) (l4 : W.drawn ≤ w.drawn) (l5 : W.heap.size ≤ w.heap.size) (l6 : ∀ c, c < W.heap.size → w.heap[c]? = W.heap[c]?) :
  w = Go.Sort.grow (W.drewN (w.drawn - W.drawn)) (w.heap.extract W.heap.size w.heap.size) := by
 obtain ⟨w1, w2, w3, w4, w5⟩ := w
 obtain ⟨u1, u2, u3, u4, u5⟩ := W
 simp only at l1 l2 l3 l4 l5 l6
 subst l1 l2 l3
 show World.mk _ _ _ _ _ = World.mk _ _ _ _ _
 congr 1
 ·apply Array.ext_getElem?
  intro j
  show w1[j]? = (u1 ++ w1.extract u1.size w1.size)[j]?
  rw [Array.getElem?_append]
  split
  ·exact l6 j (by assumption)
  ·rename_i hj
   rw [Array.getElem?_extract]
   split
   ·congr 1; omega
   ·exact Array.getElem?_eq_none (by omega)
 ·show w3 = u3 + (w3 - u3)
  omega

def cfA {I : Nat → Prop} {w : World} (x y : AtV I w) : Int := ordI x.at y.at
theorem ltA {I : Nat → Prop} {w : World} (x y : AtV I w) : ltOf cfA x y = ltS x.at.1 y.at.1 := by
 unfold ltOf cfA
 cases h : ltS x.at.1 y.at.1 with
 | true => exact decide_eq_true ((o_z8 _ _).2 h)
 | false => exact decide_eq_false fun h1 => by rw [(o_z8 _ _).1 h1] at h; cases h
theorem o_107 (s : St) : ltS s s = false := by
 cases h : ltS s s with
 | false => rfl
 | true => simp [ltS] at h
theorem swoA {I : Nat → Prop} {w : World} : Go.Sort.SWO (ltOf (cfA (I := I) (w := w))) where
 irrefl x := by rw [ltA]; exact o_107 _
 trans x y z h1 h2 := by rw [ltA] at *; exact o_xv h1 h2
 ntrans x y z h1 h2 := by rw [ltA] at *; exact o_zu h1 h2

theorem cmpA {m : Mem} (hb : m.base) (b : Nat) (hbI : ¬ m.I b) (hbs : b < m.w.heap.size) (N : Nat) [Inhabited (AtV m.I m.w)] :
  CmpLays Tryz.prog o_fd #[] (AtV.enc (I := m.I) (w := m.w)) 6 cfA b 0 N m.w := by
 intro n os dk hs x y
 obtain ⟨W, hW⟩ : ∃ W, W = sortWorldK (AtV.enc (I := m.I) (w := m.w)) 6 m.w b 0 n dk os := ⟨_, rfl⟩
 rw [← hW]
 have hI : ∀ c, m.I c → W.heap[c]? = m.w.heap[c]? := fun c hc => by rw [hW]; exact o_101 _ _ _ _ _ _ _ _ (hb.imm c hc) fun e => hbI (e ▸ hc)
 have hbase : Mem.base ⟨fun _ => none, m.I, W⟩ := ⟨fun c hc => by
   show c < W.heap.size
   rw [hW, o_103]
   have := hb.imm c hc
   omega, fun _ _ h => (by cases h), hb.tabs.mono (fun _ h => h) hI⟩
 have hx := D.reps_mono (fun _ h => h) hI _ _ x.rep
 have hy := D.reps_mono (fun _ h => h) hI _ _ y.rep
 have hr := (o_zl x.at y.at).run ⟨fun _ => none, m.I, W⟩ [.agg x.enc.toArray, .agg y.enc.toArray] hbase
  ⟨_, _, rfl, ⟨x.enc, rfl, x.one, hx⟩, _, _, rfl, ⟨y.enc, rfl, y.one, hy⟩, rfl⟩ (by simp) (by simp) (by simp)
 have he := o_6d o_ff #[.agg x.enc.toArray, .agg y.enc.toArray] W
 rcases hr with ⟨v, h1, h2⟩ | ⟨h1, h2⟩
 ·rw [show ([.agg x.enc.toArray, .agg y.enc.toArray] : List Value).toArray = #[.agg x.enc.toArray, .agg y.enc.toArray] from rfl, he] at h1
  cases h1
 ·refine h2.mono ?_
  rintro e w' ⟨v, m', rfl, rfl, h⟩
  refine ⟨by rw [show v = .int .i64 (ordI x.at y.at) from h.rep]; rfl, m'.w.drawn - W.drawn, m'.w.heap.extract W.heap.size m'.w.heap.size, ?_⟩
  have l1 : m'.w.os = W.os := h.le.os
  have l2 : m'.w.tape = W.tape := h.le.tape
  have l3 : m'.w.output = W.output := h.le.output
  have l4 : W.drawn ≤ m'.w.drawn := h.le.drawn
  have l5 : W.heap.size ≤ m'.w.heap.size := h.le.size
  have l6 : ∀ c, c < W.heap.size → m'.w.heap[c]? = W.heap[c]? := fun c hc => h.le.block c hc fun n hn => absurd hn (by simp)
  exact o_106 l1 l2 l3 l4 l5 l6
end
section
open Go.RowKit
theorem o_108 {I : Nat → Prop} {w : World} [Inhabited (AtV I w)] (l : List (AtV I w)) (hn : (l.map fun x => x.at.1).Nodup) (hs : Go.Sort.SortedIn (ltOf cfA) 0 l.length l.toArray) :
  (l.map AtV.«at»).Pairwise fun a b => ltS a.1 b.1 = true := by
 rw [List.pairwise_map, List.pairwise_iff_getElem]
 intro i j hi hj hij
 have h := hs i j (Nat.zero_le _) hij hj
 rw [ltA, getElem!_pos l.toArray j (by simpa using hj), getElem!_pos l.toArray i (by simpa using hi), List.getElem_toArray, List.getElem_toArray] at h
 rcases o_xw l[i].at.1 l[j].at.1 with h1 | h1 | h1
 ·exact h1
 ·exfalso
  have := (List.getElem_inj (h₀ := by simpa using hi) (h₁ := by simpa using hj) hn).1 (by simpa using h1)
  omega
 ·rw [h1] at h; cases h

set_option maxHeartbeats 2000000 in
theorem o_109 (L : Sp) (hu : Uq L) (h0 : 1 ≤ L.length) (hl : L.length < 4611686018427387904) (K : Sp) (hK : SortTo L K) :
  Eqn Tryz.prog o_fc [.own 0 6 L.length, .fn (.func o_fd) []] [⟨91, rowA atomC L⟩] (.tup []) [⟨91, rowA atomC K⟩] := by
 refine ⟨by simp, by simp, by rfl, by simp [rowA, o_5w], ?_⟩
 intro m vs hb hv ho hinj htop
 obtain ⟨v1, r1, rfl, hv1, v2, r2, rfl, hv2, rfl⟩ := hv
 obtain ⟨b, t, k, cap, hρ, hsh, rfl, rfl, hcap, hmax⟩ := hv1
 obtain ⟨cs, rfl, rfl⟩ := hv2
 obtain ⟨b', us, more, hρ', hheap, hone, hrep, hnI⟩ := ho 0 _ rfl
 obtain rfl : b = b' := by rw [hρ] at hρ'; exact Option.some.inj hρ'
 have hrep' : D.reps m.I m.w (L.flatMap atomC) us := V.reps_map_d.1 hrep
 rw [o_0 (show (91 : Nat) < TG by decide)] at hheap
 have hbs := hb.dom 0 b hρ
 obtain ⟨dl, hd1, hd2⟩ := o_zv L us hrep' hone
 have hlen : dl.length = L.length := by rw [← hd1]; simp
 haveI : Inhabited (AtV m.I m.w) := ⟨dl.head fun e => by rw [e] at hlen; simp at hlen; omega⟩
 have hfl := o_zz AtV.enc AtV.len o_zx dl
 have hH : Go.Sort.HoldsK AtV.enc 6 m.w b 0 dl.toArray := by
  unfold Go.Sort.HoldsK
  rw [hfl, hd2]
  intro j hj
  have hj' : j < us.length := by simpa using hj
  refine ⟨?_, ?_⟩
  ·unfold World.cell?
   rw [hheap]
   simp [List.getElem?_append_left hj', hj']
  ·unfold World.frozen?
   simp [hheap]
 have main := AnyQ.slices_SortFunc (ρ := renA) sortL 6 aggAtom sizeAtom AtV.enc AtV.len (fun x v hv => x.one v hv) cfA swoA o_fd #[] b 0 cap dl.toArray m.w (fun vs w => o_6d o_ff vs w) (cmpA hb b hnI hbs _) hH hbs (by simp; omega)
 refine .inr ⟨sortL.f6.enters rfl _ _, ?_⟩
 have e0 : (dl.toArray.size : Nat) = L.length := by simp [hlen]
 rw [e0] at main
 refine main.mono ?_
 rintro e w' ⟨rfl, d', n, os, hp, hs, rfl⟩
 obtain ⟨l', rfl⟩ : ∃ l' : List (AtV m.I m.w), d' = l'.toArray := ⟨d'.toList, by simp⟩
 have hl' : l'.length = dl.length := by have := hp.1; simpa using this
 have hp' : l'.Perm dl := by
  have := hp.2.2
  rw [← e0] at this
  have h2 : (List.take dl.length l').Perm dl := by simpa using this
  rwa [← hl', List.take_length] at h2
 have hfl' := o_zz AtV.enc AtV.len o_zx l'
 have hus : (l'.flatMap AtV.enc).length = us.length := by rw [← hd2, o_zx, o_zx, hl']
 have hnod : (l'.map fun x => x.at.1).Nodup := by
  have : (dl.map fun x => x.at.1) = L.map (·.1) := by rw [← hd1, List.map_map]; rfl
  rw [(hp'.map _).nodup_iff, this]; exact hu
 have hKe : l'.map AtV.«at» = K := hK _ (by rw [← hd1]; exact hp'.map _) (o_108 l' hnod (by rw [hl', hlen]; exact hs))
 have hblk := o_102 AtV.enc 6 m.w b 0 n l'.toArray os hheap
 rw [hfl', o_104 _ _ _ hus] at hblk
 obtain ⟨W, hW⟩ : ∃ W, W = sortWorldK AtV.enc 6 m.w b 0 n l'.toArray os := ⟨_, rfl⟩
 have hne : ∀ c, c < m.w.heap.size → c ≠ b → W.heap[c]? = m.w.heap[c]? := fun c hc h => by rw [hW]; exact o_101 _ _ _ _ _ _ _ _ hc h
 have hsz : m.w.heap.size ≤ W.heap.size := by rw [hW, o_103]; omega
 have hshp : ∀ c, c < m.w.heap.size → W.shape? c = m.w.shape? c := fun c hc => by rw [hW]; exact o_105 _ _ _ _ _ _ _ hc
 have hI : ∀ c, m.I c → W.heap[c]? = m.w.heap[c]? := fun c hc => hne c (hb.imm c hc) fun e => hnI (e ▸ hc)
 have l1 : W.os = m.w.os := by rw [hW]; rfl
 have l2 : W.tape = m.w.tape := by rw [hW]; rfl
 have l3 : W.output = m.w.output := by rw [hW]; rfl
 have l4 : m.w.drawn ≤ W.drawn := by rw [hW]; exact Nat.le_add_right _ _
 rw [← hW] at hblk ⊢
 have hle : m.le ⟨m.ρ, m.I, W⟩ (· < 1) := ⟨fun _ _ h => h, fun _ h => h, l1, l2, l3, l4, hsz, fun c hc h => hne c hc fun e => h 0 (by decide) (by rw [e]; exact hρ), hshp, hI, fun _ h => .inl h, fun _ _ h => .inl h⟩
 refine ⟨.tuple #[], ⟨m.ρ, m.I, W⟩, rfl, rfl, ⟨fun c hc => Nat.lt_of_lt_of_le (hb.imm c hc) hsz, fun i c hc => Nat.lt_of_lt_of_le (hb.dom i c hc) hsz, hb.tabs.mono (fun _ h => h) hI⟩, hle, ⟨[], rfl, rfl⟩, ?_, ?_, ?_, ?_⟩
 ·intro i ob _ hob
  match i, hob with
  | 0, hob =>
   simp only [List.getElem?_cons_zero, Option.some.injEq] at hob
   subst hob
   refine ⟨b, l'.flatMap AtV.enc, more, hρ, ?_, ?_, ?_, hnI⟩
   ·rw [o_0 (show (91 : Nat) < TG by decide)]; exact hblk
   ·intro u hu
    rw [List.mem_flatMap] at hu
    obtain ⟨x, _, hx⟩ := hu
    exact x.one u hx
   ·refine V.reps_map_d.2 (D.reps_mono (fun _ h => h) hI _ _ ?_)
    rw [← hKe]
    exact o_zw l'
  | i + 1, hob => simp at hob
 ·intro i j c _ _ hi hj _ _
  simp at hi hj
  omega
 ·intro i hi; exact htop i (by simpa using hi)
 ·intro i c hi hc
  rw [show (⟨m.ρ, m.I, W⟩ : Mem).ρ i = m.ρ i from rfl, htop i (by simpa using hi)] at hc
  cases hc
end
section
open Go.RowKit
@[simp] theorem o_10a (n s : Nat) (ds l : List D) : V.frzs n s ds (l.map V.d) = l.map V.d := by
 rw [o_53, List.map_map]
 apply List.map_congr_left
 intro x _
 simp
def slM (l : Sp) (σ : List Nat) : List V := setS (List.replicate 26 .junk) [(0, .mp 0), (3, if (metQ l σ).length = 0 then .d .nilsl else .own 2 6 (metQ l σ).length), (7, .p 1 0)]
def hpM (l : Sp) (σ : List Nat) : List (Option Ob) := [some (spO l), some ⟨1000000, .mp 0 :: .d (.int .i64 (l.length : Nat)) :: seenV σ⟩] ++ if (metQ l σ).length = 0 then [] else [some ⟨91, rowA atomC (metQ l σ)⟩]
theorem o_10b (q : Rat) : (cmpQ q 0 ≠ 0) ↔ q ≠ 0 := by
 unfold cmpQ
 by_cases h1 : q < 0
 ·rw [if_pos h1]; constructor
  ·intro _ h; subst h; exact absurd h1 (by decide)
  ·intro _ h; cases h
 ·rw [if_neg h1]
  by_cases h2 : 0 < q
  ·rw [if_pos h2]; constructor
   ·intro _ h; subst h; exact absurd h2 (by decide)
   ·intro _ h; cases h
  ·rw [if_neg h2]; constructor
   ·intro h; exact absurd rfl h
   ·intro h; exact absurd (Rat.le_antisymm (Rat.not_lt.1 h2) (Rat.not_lt.1 h1)) h
set_option maxHeartbeats 4000000 in
theorem o_10c (l : Sp) (hu : Uq l) (h0 : nzQ l ≠ []) (h12 : (nzQ l).length ≤ 40) (hl : l.length ≤ 1000000) (hr : ∀ p ∈ l, RS p.2 100000) : Eqn Tryz.prog o_ba [.mp 0] [spO l] (.d (.sl (atQ l).length (spD rcD (atQ l)))) [spO l] := by
 refine Eqn.gen [0] o_bc (by simp) (by simp) (by rfl) (by decide) (by simp) (by simp [spO]) ?_
 have hn := o_xi rcD (fun _ => rfl) l
 simp only [o_bb, spO]
 refine A10 hn ?_; try with_reducible exact tt
 refine AW.loopG (α := List Nat) (fun σ => slM l σ) (fun σ => hpM l σ) (fun σ => σ.Nodup ∧ ∀ i ∈ σ, i < l.length) (fun σ => l.length - σ.length) [] ?_ ⟨by simp, by simp⟩ ?_ ?_ ?_
 ·intro σ _; unfold hpM; split <;> simp [spO]
 ·simp [slM, hpM, metQ]
 ·simp [hpM, metQ, spO, hn, o_zq]
 rintro σ ⟨hnd, hlt⟩
 have hbnd : σ.length ≤ l.length := by
  have h2 : σ.length ≤ (List.range l.length).length := hnd.length_le_of_subset fun i hi => List.mem_range.2 (hlt i hi)
  simpa using h2
 have ent : ∀ i (hi : i < l.length), ∃ (s1 s2 : Nat) (s3 : Bool) (q : Rat) (N1 N2 N3 : D), l[i] = ((s1, s2, s3), q) ∧ rcD q = [N1, N2, N3] ∧ RS q 100000 ∧ ((spD rcD l).drop (i * 6)).take 3 = [.int .i64 s1, .int .i64 s2, .bool s3] ∧ ((spD rcD l).drop (i * 6 + 3)).take 3 = [N1, N2, N3] := by
  intro i hi
  obtain ⟨⟨⟨s1, s2, s3⟩, q⟩, hp⟩ : ∃ p, l[i] = p := ⟨_, rfl⟩
  have h6 := o_wt (n := 6) (f := atomC) o_zj l i hi
  rw [hp, ← o_zk] at h6
  have h1 : ((spD rcD l).drop (i * 6)).take 3 = (((spD rcD l).drop (i * 6)).take 6).take 3 := by rw [List.take_take]; rfl
  have h2 : ((spD rcD l).drop (i * 6 + 3)).take 3 = (((spD rcD l).drop (i * 6)).take 6).drop 3 := by rw [← List.drop_drop]; simp [List.drop_take]
  refine ⟨s1, s2, s3, q, _, _, _, hp, rfl, hr ((s1, s2, s3), q) (by have := List.getElem_mem hi; rw [hp] at this; exact this), ?_, ?_⟩
  ·rw [h1, h6]; rfl
  ·rw [h2, h6]; rfl
 have allp : (∀ i, i < l.length → i ∈ σ) → σ.Perm (List.range l.length) := fun hall => (List.perm_ext_iff_of_nodup hnd List.nodup_range).2 fun i => ⟨fun h => List.mem_range.2 (hlt i h), fun h => hall i (List.mem_range.1 h)⟩
 have ho := rof0
 by_cases m0 : (metQ l σ).length = 0
 ·have mz : metQ l σ = [] := List.eq_nil_of_length_eq_zero m0
  rw [slM, hpM, if_pos m0, if_pos m0]
  simp [spO]
  refine A10 hn ?_; try with_reducible exact tt
  refine ⟨fun i hi hin => ?_, fun hall => ?_⟩
  ·obtain ⟨s1, s2, s3, q, N1, N2, N3, hp, hN, hq, hK, hV⟩ := ent i hi
   have hc := o_r7 q 0 hq (show RS (0 : Rat) 100000 from ⟨by decide, by decide⟩)
   have hms := o_zr l σ i hi
   rw [hp] at hms
   have hR : (σ ++ [i]).Nodup ∧ ∀ j ∈ σ ++ [i], j < l.length := by
    refine ⟨by rw [List.nodup_append]; exact ⟨hnd, by simp, fun a ha b hb e => by simp at hb; subst hb; exact hin (e ▸ ha)⟩, fun j hj => ?_⟩
    rcases List.mem_append.1 hj with hj | hj
    ·exact hlt j hj
    ·simp at hj; subst hj; exact hi
   have hl1 : (σ ++ [i]).length ≤ l.length := by
    have h2 : (σ ++ [i]).length ≤ (List.range l.length).length := hR.1.length_le_of_subset fun j hj => List.mem_range.2 (hR.2 j hj)
    simpa using h2
   rw [List.length_append, List.length_singleton] at hl1
   have hz0 : rcD 0 = [natW 0, .bool false, natW 0] := rfl
   rw [o_yp, o_yp, hN] at hc
   rw [o_yp] at ho
   rw [hz0] at hc ho
   refine A10 (fs hi (fs hn (fs hK hV))) ?_; try with_reducible exact tt
   refine CallS.pu (ho) (R1 (fs hi (fs hn (fs hK hV))) ?_); try with_reducible exact tt
   refine CallS.pu (hc) (R0 ?_); try with_reducible exact tt
   by_cases hq0 : q = 0
   ·have hc0 : cmpQ q 0 = 0 := Classical.byContradiction fun h => (o_10b q).1 h hq0
    refine A10 hc0 ?_; try with_reducible exact tt
    have e' : metQ l (σ ++ [i]) = [] := by rw [hms, mz]; simp [hq0]
    refine ⟨σ ++ [i], 1, 1, ⟨by omega, by omega, by omega, by omega⟩, hR, by simp; omega, ?_, ?_⟩
    ·simp [slM, hpM, e', spO, swT, swH, sw, Ob.sw, V.ren, V.rens]
    ·simp [slM, hpM, e', spO, swT, swH, sw, Ob.sw, V.ren, V.rens]
   ·have hc0 : ¬ cmpQ q 0 = 0 := (o_10b q).2 hq0
    refine A10 hc0 ?_; try with_reducible exact tt
    have e' : metQ l (σ ++ [i]) = [((s1, s2, s3), q)] := by rw [hms, mz]; simp [hq0]
    refine ⟨σ ++ [i], 2, 5, ⟨by omega, by omega, by omega, by omega⟩, hR, by simp; omega, ?_, ?_⟩
    ·simp [slM, hpM, e', spO, swT, swH, sw, Ob.sw, V.ren, V.rens]
    ·simp [slM, hpM, e', spO, swT, swH, sw, Ob.sw, V.ren, V.rens, rowA, atomC, stD, hN]
  ·exfalso
   have hp := o_zs l σ (allp hall)
   rw [mz] at hp
   exact h0 (List.Perm.eq_nil hp.symm)
 ·obtain ⟨M, hM⟩ : ∃ M, M = metQ l σ := ⟨_, rfl⟩
  have hMl := o_za o_zj M
  rw [slM, hpM, if_neg m0, if_neg m0]
  rw [← hM] at m0 ⊢
  have hmp : 0 < M.length := by omega
  have hmM : M.length ≤ l.length := by
   rw [hM]
   have key : ∀ τ : List Nat, (metQ l τ).length ≤ τ.length := by
    intro τ
    induction τ with
    | nil => simp [metQ]
    | cons j τ ih =>
     have : metQ l (j :: τ) = (match l[j]? with | some p => if p.2 = 0 then [] else [p] | none => []) ++ metQ l τ := by unfold metQ; exact List.flatMap_cons
     rw [this, List.length_append]
     have h1 : (match l[j]? with | some p => if p.2 = 0 then [] else [p] | none => [] : Sp).length ≤ 1 := by
      split
      ·split <;> simp
      ·simp
     simp only [List.length_cons]; omega
   exact Nat.le_trans (key σ) hbnd
  simp [spO]
  refine A10 hn ?_; try with_reducible exact tt
  refine ⟨fun i hi hin => ?_, fun hall => ?_⟩
  ·obtain ⟨s1, s2, s3, q, N1, N2, N3, hp, hN, hq, hK, hV⟩ := ent i hi
   have hc := o_r7 q 0 hq (show RS (0 : Rat) 100000 from ⟨by decide, by decide⟩)
   have hms := o_zr l σ i hi
   rw [hp, ← hM] at hms
   have hR : (σ ++ [i]).Nodup ∧ ∀ j ∈ σ ++ [i], j < l.length := by
    refine ⟨by rw [List.nodup_append]; exact ⟨hnd, by simp, fun a ha b hb e => by simp at hb; subst hb; exact hin (e ▸ ha)⟩, fun j hj => ?_⟩
    rcases List.mem_append.1 hj with hj | hj
    ·exact hlt j hj
    ·simp at hj; subst hj; exact hi
   have hl1 : (σ ++ [i]).length ≤ l.length := by
    have h2 : (σ ++ [i]).length ≤ (List.range l.length).length := hR.1.length_le_of_subset fun j hj => List.mem_range.2 (hR.2 j hj)
    simpa using h2
   rw [List.length_append, List.length_singleton] at hl1
   have hz0 : rcD 0 = [natW 0, .bool false, natW 0] := rfl
   rw [o_yp, o_yp, hN] at hc
   rw [o_yp] at ho
   rw [hz0] at hc ho
   refine A10 (fs hi (fs hn (fs hK hV))) ?_; try with_reducible exact tt
   refine CallS.pu (ho) (R1 (fs hi (fs hn (fs hK hV))) ?_); try with_reducible exact tt
   refine CallS.pu (hc) (R0 ?_); try with_reducible exact tt
   by_cases hq0 : q = 0
   ·have hc0 : cmpQ q 0 = 0 := Classical.byContradiction fun h => (o_10b q).1 h hq0
    refine A10 hc0 ?_; try with_reducible exact tt
    have e' : metQ l (σ ++ [i]) = M := by rw [hms]; simp [hq0]
    refine ⟨σ ++ [i], 2, 2, ⟨by omega, by omega, by omega, by omega⟩, hR, by simp; omega, ?_, ?_⟩
    ·simp [slM, hpM, e', m0, spO, swT, swH, sw, Ob.sw, V.ren, V.rens]
    ·simp [slM, hpM, e', m0, spO, swT, swH, sw, Ob.sw, V.ren, V.rens]
   ·have hc0 : ¬ cmpQ q 0 = 0 := (o_10b q).2 hq0
    refine A10 (fs hc0 hMl) ?_; try with_reducible exact tt
    have e' : metQ l (σ ++ [i]) = M ++ [((s1, s2, s3), q)] := by rw [hms]; simp [hq0]
    have e2 : rowA atomC (M ++ [((s1, s2, s3), q)]) = rowA atomC M ++ [.d (.int .i64 s1), .d (.int .i64 s2), .d (.bool s3), .d N1, .d N2, .d N3] := by rw [o_ze]; simp [rowA, atomC, stD, hN]
    refine ⟨σ ++ [i], 2, 6, ⟨by omega, by omega, by omega, by omega⟩, hR, by simp; omega, ?_, ?_⟩
    ·simp [slM, hpM, e', spO, swT, swH, sw, Ob.sw, V.ren, V.rens]
    ·simp [slM, hpM, e', spO, swT, swH, sw, Ob.sw, V.ren, V.rens, ← e2]
  ·have hp := o_zs l σ (allp hall)
   rw [← hM] at hp
   have hMl2 : M.length = (atQ l).length := by rw [hp.length_eq, (o_xz l).length_eq]
   have hso := o_109 M (by unfold Uq; exact (hp.map _).nodup_iff.2 (o_y1 hu)) hmp (by rw [hp.length_eq]; omega) (atQ l) (o_zt l M hu hp)
   have hal : (spD rcD (atQ l)).length = (atQ l).length * 6 := o_xi rcD (fun _ => rfl) _
   have htk : (spD rcD (atQ l)).take ((atQ l).length * 6) = spD rcD (atQ l) := List.take_of_length_le (by omega)
   rw [hMl2] at hso ⊢
   refine A00 ?_; try with_reducible exact tt
   refine CallS.g [2] hso ?_
   simp
   refine AW.freeze 2 6 ⟨91, rowA atomC (atQ l)⟩ (spD rcD (atQ l)) (by simp) rfl ?_
   simp [frzH, htk]
   refine A10 htk ?_; try with_reducible exact tt
end
section
open Go.RowKit
def Gr (D B : Nat) (q : Rat) : Prop := ∃ z : Nat, q * (D : Rat) = (z : Rat) ∧ z ≤ B * D
theorem o_10d {D : Nat} (h : 0 < D) : (D : Rat) ≠ 0 := by
 intro e
 have : D = 0 := by exact_mod_cast e
 omega
theorem Gr.rs {D B N : Nat} {q : Rat} (hD : 0 < D) (hB : 1 ≤ B) (h : Gr D B q) (hN : size (B * D) ≤ N) : RS q N := by
 obtain ⟨z, h1, h2⟩ := h
 have hd := o_10d hD
 have e : q = mkRat (z : Int) D := by
  rw [Rat.mkRat_eq_div]
  have : ((z : Int) : Rat) = (z : Rat) := rfl
  rw [this, ← h1]
  rw [Rat.mul_div_cancel hd]
 rw [e]
 refine RS.mk' hD ?_ ?_
 ·exact Nat.le_trans (o_ld (by simpa using h2)) hN
 ·exact Nat.le_trans (o_ld (by exact Nat.le_mul_of_pos_left D hB)) hN
theorem Gr.zero (D B : Nat) : Gr D B 0 := ⟨0, by grind, Nat.zero_le _⟩
theorem Gr.add {D B C : Nat} {x y : Rat} (hx : Gr D B x) (hy : Gr D C y) : Gr D (B + C) (x + y) := by
 obtain ⟨z, h1, h2⟩ := hx
 obtain ⟨w, h3, h4⟩ := hy
 refine ⟨z + w, ?_, by rw [Nat.add_mul]; omega⟩
 have : ((z + w : Nat) : Rat) = (z : Rat) + (w : Rat) := by simp
 rw [this, ← h1, ← h3]; grind
theorem Gr.mul {D E B C : Nat} {x y : Rat} (hx : Gr D B x) (hy : Gr E C y) : Gr (D * E) (B * C) (x * y) := by
 obtain ⟨z, h1, h2⟩ := hx
 obtain ⟨w, h3, h4⟩ := hy
 refine ⟨z * w, ?_, ?_⟩
 ·have e1 : ((z * w : Nat) : Rat) = (z : Rat) * (w : Rat) := by simp
  have e2 : ((D * E : Nat) : Rat) = (D : Rat) * (E : Rat) := by simp
  rw [e1, e2, ← h1, ← h3]; grind
 ·have := Nat.mul_le_mul h2 h4
  refine Nat.le_trans this (Nat.le_of_eq ?_)
  rw [Nat.mul_mul_mul_comm]
theorem Gr.le {D B C : Nat} {x : Rat} (h : Gr D B x) (hbc : B ≤ C) : Gr D C x := by
 obtain ⟨z, h1, h2⟩ := h
 exact ⟨z, h1, Nat.le_trans h2 (Nat.mul_le_mul_right _ hbc)⟩
theorem Gr.one (D : Nat) : Gr D 1 1 := ⟨D, by grind, by omega⟩
theorem Gr.sub1 {D : Nat} {x : Rat} (h : Gr D 1 x) : Gr D 1 (1 - x) := by
 obtain ⟨z, h1, h2⟩ := h
 refine ⟨D - z, ?_, by omega⟩
 have e1 : ((D - z : Nat) : Rat) = (D : Rat) - (z : Rat) := by
  have : (D : Rat) = ((D - z + z : Nat) : Rat) := by rw [Nat.sub_add_cancel (by omega)]
  rw [this]
  have e : ((D - z + z : Nat) : Rat) = ((D - z : Nat) : Rat) + (z : Rat) := by simp
  rw [e]; grind
 rw [e1, ← h1]; grind
theorem o_10e {k a w : Nat} (h : GoodS k a w) : ∃ G : Nat, 0 < G ∧ G ≤ 2 ^ 63 ∧ ∀ x, x ≤ 15 → Gr G 1 (chP k a x) := by
 by_cases hk : k = 1
 ·subst hk
  have ha : 1 ≤ a ∧ a ≤ 4 := by
   rcases h.1 with ⟨-, h1, h2⟩ | ⟨h1, -⟩ | ⟨h1, -⟩
   ·exact ⟨h1, h2⟩
   ·omega
   ·omega
  refine ⟨(a + 1) ^ 15, Nat.pow_pos (by omega), Nat.le_trans (Nat.pow_le_pow_left (show a + 1 ≤ 5 by omega) 15) (by decide), fun x hx => ?_⟩
  rw [chP, if_pos rfl]
  unfold chM
  have key : ∀ n, n ≤ 15 → ∃ z : Nat, mkRat (a : Int) (a + 1) ^ n * (((a + 1) ^ n : Nat) : Rat) = (z : Rat) ∧ z ≤ (a + 1) ^ n := by
   intro n
   induction n with
   | zero => intro _; exact ⟨1, by simp, by simp⟩
   | succ n ih =>
    intro hn
    obtain ⟨z, h1, h2⟩ := ih (by omega)
    refine ⟨z * a, ?_, by rw [Nat.pow_succ]; exact Nat.mul_le_mul h2 (by omega)⟩
    have e1 : mkRat (a : Int) (a + 1) * ((a + 1 : Nat) : Rat) = (a : Rat) := by
     rw [Rat.mkRat_eq_div]
     have : ((a : Int) : Rat) = (a : Rat) := rfl
     rw [this]
     exact Rat.div_mul_cancel (o_10d (by omega))
    have e2 : (((a + 1) ^ (n + 1) : Nat) : Rat) = (((a + 1) ^ n : Nat) : Rat) * ((a + 1 : Nat) : Rat) := by rw [Nat.pow_succ]; simp
    have e3 : ((z * a : Nat) : Rat) = (z : Rat) * (a : Rat) := by simp
    rw [Rat.pow_succ, e2, e3, ← h1, ← e1]; grind
  obtain ⟨z, h1, h2⟩ := key x hx
  refine ⟨z * (a + 1) ^ (15 - x), ?_, ?_⟩
  ·have e1 : (((a + 1) ^ 15 : Nat) : Rat) = (((a + 1) ^ x : Nat) : Rat) * (((a + 1) ^ (15 - x) : Nat) : Rat) := by
    have : (a + 1) ^ 15 = (a + 1) ^ x * (a + 1) ^ (15 - x) := by rw [← Nat.pow_add]; congr 1; omega
    rw [this]; simp
   have e2 : ((z * (a + 1) ^ (15 - x) : Nat) : Rat) = (z : Rat) * (((a + 1) ^ (15 - x) : Nat) : Rat) := by simp
   rw [e1, e2, ← h1]; grind
  ·rw [Nat.one_mul, show (a + 1) ^ 15 = (a + 1) ^ x * (a + 1) ^ (15 - x) by rw [← Nat.pow_add]; congr 1; omega]
   exact Nat.mul_le_mul_right _ h2
 ·refine ⟨2 ^ 63, by decide, Nat.le_refl _, fun x hx => ?_⟩
  rw [chP, if_neg hk]
  have he := o_tz h hk hx
  generalize expOf k a x = e at *
  refine ⟨2 ^ (63 - e), ?_, by rw [Nat.one_mul]; exact Nat.pow_le_pow_right (by decide) (by omega)⟩
  have e1 : mkRat 1 (2 ^ e) * ((2 ^ e : Nat) : Rat) = 1 := by
   rw [Rat.mkRat_eq_div]
   have := Rat.div_mul_cancel (a := ((1 : Int) : Rat)) (o_10d (Nat.two_pow_pos e))
   simpa using this
  have e2 : ((2 ^ 63 : Nat) : Rat) = ((2 ^ e : Nat) : Rat) * ((2 ^ (63 - e) : Nat) : Rat) := by
   have : 2 ^ 63 = 2 ^ e * 2 ^ (63 - e) := by rw [← Nat.pow_add]; congr 1; omega
   rw [this]; simp
  rw [e2, ← Rat.mul_assoc, e1]; grind
end
section
open Go.RowKit
theorem o_10f (q : Rat) (out K : Sp) (j : Nat) (h : j < K.length) : innQ q out (K.take (j + 1)) = addQ (innQ q out (K.take j)) K[j].1 (q * K[j].2) := by
 unfold innQ; rw [List.take_add_one, List.getElem?_eq_getElem h, Option.toList, List.foldl_append]; rfl
def outQ (next : St → Sp) (A : Sp) (i : Nat) : Sp := (A.take i).foldl (fun out a => innQ a.2 out (atQ (next a.1))) []
theorem o_10g (next : St → Sp) (A : Sp) (i : Nat) (h : i < A.length) : outQ next A (i + 1) = innQ A[i].2 (outQ next A i) (atQ (next A[i].1)) := by
 unfold outQ; rw [List.take_add_one, List.getElem?_eq_getElem h, Option.toList, List.foldl_append]; rfl
theorem o_10h (next : St → Sp) (l : Sp) : outQ next (atQ l) (atQ l).length = timesQ next l := by unfold outQ timesQ; rw [List.take_length]
theorem o_10i {D B : Nat} {l : Sp} (h : ∀ p ∈ l, Gr D B p.2) (s : St) : Gr D B (getQ l s) := by
 induction l with
 | nil => exact Gr.zero D B
 | cons p l ih =>
  unfold getQ
  split
  ·exact h p (by simp)
  ·exact ih fun q hq => h q (by simp [hq])
theorem o_10j {D B : Nat} {q : Rat} {out : Sp} {C : Nat} (ho : ∀ p ∈ out, Gr D C p.2) : ∀ (K : Sp), (∀ p ∈ K, Gr D B (q * p.2)) → ∀ p ∈ innQ q out K, Gr D (C + K.length * B) p.2 := by
 have key : ∀ (K out : Sp) (C : Nat), (∀ p ∈ out, Gr D C p.2) → (∀ p ∈ K, Gr D B (q * p.2)) → ∀ p ∈ innQ q out K, Gr D (C + K.length * B) p.2 := by
  intro K
  induction K with
  | nil => intro out C ho _ p hp; simpa [innQ] using ho p hp
  | cons b K ih =>
   intro out C ho hK p hp
   have h1 : ∀ p ∈ addQ out b.1 (q * b.2), Gr D (C + B) p.2 := by
    intro p hp
    rcases o_ye hp with hp | rfl
    ·exact (ho p hp).le (by omega)
    ·exact (o_10i ho _).add (hK b (by simp))
   have := ih (addQ out b.1 (q * b.2)) (C + B) h1 (fun p hp => hK p (by simp [hp])) p hp
   refine this.le (Nat.le_of_eq ?_)
   rw [List.length_cons, Nat.add_mul, Nat.one_mul]; omega
 exact fun K => key K out C ho
theorem o_10k {D E B J : Nat} {next : St → Sp} {A : Sp} (hA : ∀ p ∈ A, Gr D B p.2) (hN : ∀ p ∈ A, (∀ r ∈ next p.1, Gr E 1 r.2) ∧ (atQ (next p.1)).length ≤ J) : ∀ i, i ≤ A.length → ∀ p ∈ outQ next A i, Gr (D * E) (i * J * B) p.2
 | 0, _ => fun p hp => by simp [outQ] at hp
 | i + 1, hi => by
  have hi' : i < A.length := hi
  have ih := o_10k hA hN i (by omega)
  rw [o_10g next A i hi']
  obtain ⟨h1, h2⟩ := hN A[i] (List.getElem_mem hi')
  have hm : ∀ p ∈ atQ (next A[i].1), Gr (D * E) B (A[i].2 * p.2) := fun p hp => by
   have := (hA A[i] (List.getElem_mem hi')).mul (h1 p (List.mem_filter.1 ((o_xz _).mem_iff.1 hp)).1)
   rwa [Nat.mul_one] at this
  intro p hp
  refine (o_10j ih _ hm p hp).le ?_
  have := Nat.mul_le_mul_right B h2
  rw [Nat.add_mul i 1 J, Nat.one_mul, Nat.add_mul]; omega
theorem nz_ne {top : Nat} {c : Nat → Rat} (s : St) : nzQ (stepQ top c s) ≠ [] := by
 intro h
 have h1 := (o_yd (fun _ => 1) top c s).2
 have h2 : exQ (fun _ => (1 : Rat)) (stepQ top c s) = 1 := by
  rw [h1]; split
  ·rfl
  ·grind
 have h3 := o_xt (fun _ => (1 : Rat)) (stepQ top c s)
 rw [show (stepQ top c s).filter (fun p => decide (p.2 ≠ 0)) = nzQ (stepQ top c s) from rfl, h] at h3
 rw [h2] at h3
 exact absurd h3 (by decide)
theorem o_10l (l : Sp) (s : St) (q : Rat) : (setQ l s q).length ≤ l.length + 1 := by
 induction l with
 | nil => simp [setQ]
 | cons p l ih => unfold setQ; split <;> simp <;> omega
theorem o_10m (top : Nat) (c : Nat → Rat) (s : St) : (stepQ top c s).length ≤ 2 := by
 unfold stepQ
 split
 ·simp
 ·unfold eitQ addQ
  have := o_10l (setQ [] (s.1 + 1, s.2) (getQ [] (s.1 + 1, s.2) + c s.1)) s (getQ (setQ [] (s.1 + 1, s.2) (getQ [] (s.1 + 1, s.2) + c s.1)) s + (1 - c s.1))
  have h2 := o_10l [] (s.1 + 1, s.2) (getQ [] (s.1 + 1, s.2) + c s.1)
  simp at h2
  omega
theorem o_10n (l : Sp) : (atQ l).length ≤ l.length := by
 rw [(o_xz l).length_eq]; exact List.length_filter_le _ _
theorem o_10o {G top : Nat} {c : Nat → Rat} (hc : ∀ x, x < top → Gr G 1 (c x)) (s : St) (hs : s.1 ≤ top) : ∀ p ∈ stepQ top c s, Gr G 1 p.2 := by
 unfold stepQ
 split
 ·intro p hp; simp at hp; subst hp; exact Gr.one G
 ·rename_i e
  have h1 := hc s.1 (by omega)
  have hne : ¬ s = (s.1 + 1, s.2) := fun h => by have := congrArg Prod.fst h; simp at this
  intro p hp
  unfold eitQ at hp
  rcases o_ye hp with hp | rfl
  ·rcases o_ye hp with hp | rfl
   ·cases hp
   ·have := (Gr.zero G 0).add h1
    simpa [getQ] using this
  ·have h2 : getQ (addQ [] (s.1 + 1, s.2) (c s.1)) s = 0 := by unfold addQ; rw [o_xk, if_neg hne]; rfl
   show Gr G 1 (getQ (addQ [] (s.1 + 1, s.2) (c s.1)) s + (1 - c s.1))
   rw [h2]
   have := (Gr.zero G 0).add h1.sub1
   simpa using this
end
section
open Go.RowKit
def PO (k a w : Nat) : Ob := ⟨73, [.d (.int .i64 k), .d (.int .i64 a), .d (.int .i64 w)]⟩
theorem o_10p (A : Sp) (i : Nat) (hi : i < A.length) : ∃ (s1 s2 : Nat) (s3 : Bool) (q : Rat) (N1 N2 N3 : D), A[i] = ((s1, s2, s3), q) ∧ rcD q = [N1, N2, N3] ∧ ((spD rcD A).drop (i * 6)).take 6 = [.int .i64 s1, .int .i64 s2, .bool s3, N1, N2, N3] := by
 obtain ⟨⟨⟨s1, s2, s3⟩, q⟩, hp⟩ : ∃ p, A[i] = p := ⟨_, rfl⟩
 have h6 := o_wt (n := 6) (f := atomC) o_zj A i hi
 rw [hp, ← o_zk] at h6
 exact ⟨s1, s2, s3, q, _, _, _, hp, rfl, by rw [h6]; rfl⟩
set_option maxHeartbeats 4000000 in
theorem o_10q {k a w : Nat} (h : GoodS k a w) (l : Sp) (G D B : Nat) (hu : Uq l) (hok : oklQ (topC w) l) (hnz : nzQ l ≠ []) (h12 : (nzQ l).length ≤ 40) (hl : l.length ≤ 1000000) (hD : 0 < D) (hB : 1 ≤ B) (hgl : ∀ p ∈ l, Gr D B p.2) (hG : 0 < G) (hc : ∀ x, x ≤ 15 → Gr G 1 (chP k a x)) (hsz : size (80 * B * (D * G)) ≤ 100000) :
  Eqn Tryz.prog o_b1 [.mp 0, .fn (.func o_b4) [.p 1 0]] [spO l, PO k a w] (.mp 2) [spO l, PO k a w, spO (timesQ (stepQ (topC w) (chP k a)) l)] := by
 refine Eqn.gen [0, 1, 2] o_b3 (by simp) (by simp) (by rfl) (by decide) (by simp) (by simp [spO, PO]) ?_
 have h15 : topC w ≤ 15 := by have := Nat.pow_le_pow_right (n := 2) (by omega) h.2.2; unfold topC; omega
 obtain ⟨next, hnext⟩ : ∃ f, f = stepQ (topC w) (chP k a) := ⟨_, rfl⟩
 obtain ⟨A, hA⟩ : ∃ A, A = atQ l := ⟨_, rfl⟩
 have hAl : A.length ≤ 40 := by rw [hA, (o_xz l).length_eq]; exact h12
 have hA0 : 1 ≤ A.length := by
  rw [hA, (o_xz l).length_eq]
  rcases Nat.eq_zero_or_pos (nzQ l).length with e | e
  ·exact absurd (List.eq_nil_of_length_eq_zero e) hnz
  ·exact e
 have hAm : ∀ p ∈ A, p ∈ l := fun p hp => (List.mem_filter.1 ((o_xz l).mem_iff.1 (hA ▸ hp))).1
 have hDG : 0 < D * G := Nat.mul_pos hD hG
 have hBD : size (B * D) ≤ 100000 := by
  refine Nat.le_trans (o_ld ?_) hsz
  calc B * D = B * D * 1 := (Nat.mul_one _).symm
   _ ≤ B * D * (80 * G) := Nat.mul_le_mul_left _ (by omega)
   _ = 80 * B * (D * G) := by simp [Nat.mul_comm, Nat.mul_left_comm, Nat.mul_assoc]
 have hat := o_10c l hu hnz h12 hl (fun p hp => (hgl p hp).rs hD hB hBD)
 have hGs : size (1 * G) ≤ 100000 := by
  refine Nat.le_trans (o_ld ?_) hsz
  calc 1 * G ≤ (80 * B * D) * G := Nat.mul_le_mul_right _ (Nat.mul_pos (by omega) hD)
   _ = 80 * B * (D * G) := by rw [Nat.mul_assoc]
 have hgn : ∀ s : St, s.1 ≤ topC w → ∀ p ∈ next s, Gr G 1 p.2 := fun s hs => by rw [hnext]; exact o_10o (fun x hx => hc x (by omega)) s hs
 have hnl : ∀ s, (atQ (next s)).length ≤ 2 := fun s => Nat.le_trans (o_10n _) (by rw [hnext]; exact o_10m _ _ _)
 have hout := o_10k (D := D) (E := G) (B := B) (J := 2) (next := next) (A := A) (fun p hp => hgl p (hAm p hp)) (fun p hp => ⟨hgn p.1 (hok p (hAm p hp)).1.1, hnl p.1⟩)
 have hon := o_10g next A
 have hoa : outQ next A A.length = timesQ next l := by rw [hA]; exact o_10h next l
 have hADl := o_xi rcD (fun _ => rfl) A
 have hget := o_10p A
 rw [← hnext, ← hoa]
 rw [← hA] at hat
 have hcl : ∀ s : St, s.1 ≤ topC w → Eqn Tryz.prog o_b4 [.d (.agg (stD s)), .p 0 0] [PO k a w] (.mp 1) [PO k a w, spO (next s)] ∧ Eqn Tryz.prog o_ba [.mp 0] [spO (next s)] (.d (.sl (atQ (next s)).length (spD rcD (atQ (next s))))) [spO (next s)] := fun s hs => by
  refine ⟨by rw [hnext]; exact o_zi h s hs, o_10c _ (by rw [hnext]; exact (o_yd (fun _ => 0) _ _ s).1) (by rw [hnext]; exact nz_ne s) ?_ ?_ fun p hp => (hgn s hs p hp).rs hG (Nat.le_refl _) hGs⟩
  ·exact Nat.le_trans (List.length_filter_le _ _) (Nat.le_trans (by rw [hnext]; exact o_10m _ _ _) (by omega))
  ·exact Nat.le_trans (by rw [hnext]; exact o_10m _ _ _) (by omega)
 have hAok : ∀ p ∈ A, p.1.1 ≤ topC w := fun p hp => (hok p (hAm p hp)).1.1
 clear hnext hA hoa hnz
 simp only [o_b2, spO, PO] at hat hcl ⊢
 generalize hLl : spD rcD l = LL at *
 refine A00 ?_; try with_reducible exact tt
 refine CallS.g [0] (hat) (R0 ?_); try with_reducible exact tt
 refine AW.loopG (α := Nat) (fun i => setS (List.replicate 40 .junk) [(1, .fn (.func o_b4) [.p 1 0]), (5, .mp 2), (12, .d (.sl A.length (spD rcD A))), (13, .d (.int .i64 A.length)), (14, .d (.int .i64 (i : Nat)))]) (fun i => [some ⟨1000391, LL.map .d⟩, some ⟨73, [.d (.int .i64 k), .d (.int .i64 a), .d (.int .i64 w)]⟩, some ⟨1000391, (spD rcD (outQ next A i)).map .d⟩]) (fun i => i ≤ A.length) (fun i => A.length - i) 0 ?_ (Nat.zero_le _) ?_ ?_ ?_
 ·intro i hi; simp
 ·simp
 ·simp [outQ, spD]
 rintro i hi
 simp
 by_cases hi2 : i < A.length
 ·have hi3 : (i : Int) < A.length := by omega
  obtain ⟨s1, s2, s3, q, N1, N2, N3, hp, hN, hg⟩ := hget i hi2
  have hsk := hAok _ (List.getElem_mem hi2)
  rw [hp] at hsk
  obtain ⟨hof, han⟩ := hcl (s1, s2, s3) hsk
  have hgq : Gr D B q := by have := hgl _ (hAm _ (List.getElem_mem hi2)); rw [hp] at this; exact this
  have hon1 := hon i hi2
  rw [hp] at hon1
  simp only at hon1
  have hgo := hout i hi
  have hn2 := hnl (s1, s2, s3)
  have hgn2 := hgn (s1, s2, s3) hsk
  obtain ⟨C, hC⟩ : ∃ C, C = atQ (next (s1, s2, s3)) := ⟨_, rfl⟩
  have hCm : ∀ p ∈ C, Gr G 1 p.2 := fun p hp => hgn2 p (List.mem_filter.1 ((o_xz _).mem_iff.1 (hC ▸ hp))).1
  rw [← hC] at hon1 han hn2
  have hCl := o_xi rcD (fun _ => rfl) C
  have hgetC := o_10p C
  have ewi : IntKind.i64.wrap ((i : Int) + 1) = ((i + 1 : Nat) : Int) := by rw [w64 (by omega) (by omega)]; omega
  simp only [stD] at hof han
  generalize hNL : spD rcD (next (s1, s2, s3)) = NL at *
  have hb6 : i * 6 + 6 ≤ A.length * 6 := by omega
  have hb7 : i * 6 < A.length * 6 := by omega
  refine A10 (fs hi2 (fs hi3 (fs hg (fs hADl (fs hb6 hb7))))) ?_; try with_reducible exact tt
  refine CallS.g [1] (hof) (R0 ?_); try with_reducible exact tt
  refine CallS.g [4] (han) (R0 ?_); try with_reducible exact tt
  refine AW.loopG (α := Nat) (fun j => setS (List.replicate 40 .junk) [(1, .fn (.func o_b4) [.p 1 0]), (5, .mp 2), (7, .p 3 0), (12, .d (.sl A.length (spD rcD A))), (13, .d (.int .i64 A.length)), (14, .d (.int .i64 (i : Nat))), (22, .d (.sl C.length (spD rcD C))), (23, .d (.int .i64 C.length)), (24, .d (.int .i64 (j : Nat)))]) (fun j => [some ⟨1000391, LL.map .d⟩, some ⟨73, [.d (.int .i64 k), .d (.int .i64 a), .d (.int .i64 w)]⟩, some ⟨1000391, (spD rcD (innQ q (outQ next A i) (C.take j))).map .d⟩, some ⟨91, [.d (.int .i64 s1), .d (.int .i64 s2), .d (.bool s3), .d N1, .d N2, .d N3]⟩]) (fun j => j ≤ C.length) (fun j => C.length - j) 0 ?_ (Nat.zero_le _) ?_ ?_ ?_
  ·intro j hj; simp
  ·simp
  ·simp [innQ]
  rintro j hj
  simp
  by_cases hj2 : j < C.length
  ·have hj3 : (j : Int) < C.length := by omega
   obtain ⟨t1, t2, t3, r, M1, M2, M3, hpc, hM, hgc⟩ := hgetC j hj2
   have hinn := o_10f q (outQ next A i) C j hj2
   have hgr := hCm _ (List.getElem_mem hj2)
   rw [hpc] at hinn hgr
   simp only at hinn hgr
   have hqr := hgq.mul hgr
   have hgi := o_10j (q := q) (B := B) hgo (C.take j) (fun p hp => by
    have := hgq.mul (hCm p (List.mem_of_mem_take hp))
    rwa [Nat.mul_one] at this)
   have hget2 := (o_10i hgi (t1, t2, t3)).le (C := 80 * B) (by
    have e1 : (C.take j).length ≤ 2 := by rw [List.length_take]; omega
    have e2 := Nat.mul_le_mul_right B e1
    have e3 : i * 2 * B ≤ 78 * B := Nat.mul_le_mul_right _ (by omega)
    omega)
   have hq1 := hgq.rs hD hB hBD
   have hr1 := hgr.rs hG (Nat.le_refl _) hGs
   have hmul := o_r4 q r hq1 hr1
   have hadd := o_ys (innQ q (outQ next A i) (C.take j)) (t1, t2, t3) (q * r) (hget2.rs hDG (by omega) hsz) ((hqr.le (C := 80 * B) (by omega)).rs hDG (by omega) hsz)
   have ewj : IntKind.i64.wrap ((j : Int) + 1) = ((j + 1 : Nat) : Int) := by rw [w64 (by omega) (by omega)]; omega
   have hc6 : j * 6 + 6 ≤ C.length * 6 := by omega
   have hc7 : j * 6 < C.length * 6 := by omega
   rw [← hinn] at hadd
   rw [o_yp q, o_yp r, o_yp (q * r), hN, hM] at hmul
   rw [o_yp (q * r)] at hadd
   obtain ⟨P1, P2, P3, hP⟩ : ∃ P1 P2 P3, rcD (q * r) = [P1, P2, P3] := ⟨_, _, _, rfl⟩
   rw [hP] at hmul hadd
   simp only [spO, stD] at hadd
   refine A10 (fs hj2 (fs hj3 (fs hgc (fs hCl (fs hc6 hc7))))) ?_; try with_reducible exact tt
   refine CallS.pu (hmul) (R0 ?_); try with_reducible exact tt
   refine CallS.g [2] (hadd) (R0 ?_); try with_reducible exact tt
   refine A10 ewj ?_; try with_reducible exact tt
   refine ⟨j + 1, 2, 2, ⟨by omega, by omega, by omega, by omega⟩, by omega, by omega, ?_, ?_⟩
   ·simp [swT, swH, sw, Ob.sw, V.ren, V.rens]
   ·simp [swT, swH, sw, Ob.sw, V.ren, V.rens]
  ·have h2 : j = C.length := by omega
   subst h2
   rw [List.take_length, ← hon1]
   refine A00 ?_; try with_reducible exact tt
   refine A10 ewi ?_; try with_reducible exact tt
   refine ⟨i + 1, 2, 2, ⟨by omega, by omega, by omega, by omega⟩, by omega, by omega, ?_, ?_⟩
   ·simp [swT, swH, sw, Ob.sw, V.ren, V.rens]
   ·simp [swT, swH, sw, Ob.sw, V.ren, V.rens]
 ·have h2 : i = A.length := by omega
  subst h2
  refine A00 ?_; try with_reducible exact tt
end
section
open Go.RowKit
theorem o_10r {k a w : Nat} (h : GoodR k a w) (s : St) (hw : WellR k a w s.1 s.2.1 s.2.2) : Eqn Tryz.prog o_ex [.d (.agg (stD s)), .p 0 0] [PO k a w] (.d (.bool false)) [PO k a w] := by
 refine Eqn.gen [0] o_ez (by simp) (by simp) (by rfl) (by decide) (by simp) (by simp [PO]) ?_
 have hwl := o_um h s.1 s.2.1 s.2.2
 rw [o_ul.2 hw] at hwl
 simp only [o_ey, PO, stD, parD, tsD] at hwl ⊢
 refine A00 ?_; try with_reducible exact tt
 refine CallS.pu (hwl) (R0 ?_); try with_reducible exact tt
theorem o_10s {k a w : Nat} (h : GoodR k a w) (s : St) (hw : WellR k a w s.1 s.2.1 s.2.2) : Eqn Tryz.prog o_gm [.d (.sl 1 (stD s)), .fn (.func o_ex) [.p 0 0]] [PO k a w] (.d (.int .i64 (-1))) [PO k a w] := by
 refine Eqn.gen [0] o_go (by simp) (by simp) (by rfl) (by decide) (by simp) (by simp [PO]) ?_
 have hw1 := o_10r h s hw
 simp only [o_gn, PO, stD] at hw1 ⊢
 refine A00 ?_; try with_reducible exact tt
 refine AW.rounds 2 ?_
 refine A00 ?_; try with_reducible exact tt
 refine CallS.g [0] (hw1) (R0 ?_); try with_reducible exact tt
 refine A00 ?_; try with_reducible exact tt
theorem o_10t {k a w : Nat} (h : GoodR k a w) (s : St) (hw : WellR k a w s.1 s.2.1 s.2.2) : Eqn Tryz.prog o_eu [.d (.sl 1 (stD s)), .fn (.func o_ex) [.p 0 0]] [PO k a w] (.d (.bool false)) [PO k a w] := by
 refine Eqn.gen [0] o_ew (by simp) (by simp) (by rfl) (by decide) (by simp) (by simp [PO]) ?_
 have hi := o_10s h s hw
 simp only [o_ev, PO, stD] at hi ⊢
 refine A00 ?_; try with_reducible exact tt
 refine CallS.g [0] (hi) (R0 ?_); try with_reducible exact tt
theorem o_10u {k a w : Nat} (h : GoodR k a w) (s : St) (hw : WellR k a w s.1 s.2.1 s.2.2) : Eqn Tryz.prog o_as [.d (parD k a w), .d (.sl 1 (stD s))] [] (.d (.int .i64 0)) [] := by
 refine Eqn.pure o_au Plain.ok ?_
 have hc := o_uk h
 have hi := o_10t h s hw
 simp only [o_at, PO, stD, parD] at hc hi ⊢
 refine A00 ?_; try with_reducible exact tt
 refine CallS.pu (hc) (R0 ?_); try with_reducible exact tt
 refine A00 ?_; try with_reducible exact tt
 refine CallS.g [0] (hi) (R0 ?_); try with_reducible exact tt
 refine A00 ?_; try with_reducible exact tt
theorem o_10v {k a w : Nat} (hk : k ≠ 4) (hw : w ≤ 10) : Eqn Tryz.prog o_av [.d (parD k a w)] [] (.d (.int .i64 (2 ^ w : Nat))) [] := by
 refine Eqn.pure o_ax Plain.ok ?_
 have hk' : ¬ (k : Int) = 4 := by omega
 have e0 : (2 : Int) ^ w = (2 ^ w : Nat) := by rw [Int.natCast_pow]; rfl
 have h2 : 2 ^ w ≤ 1024 := Nat.pow_le_pow_right (n := 2) (by omega) hw
 simp only [o_aw, parD]
 generalize 2 ^ w = S at *
 have e1 : IntKind.i64.wrap (S : Int) = S := w64 (by omega) (by omega)
 refine A10 (fs hk (fs hk' (fs e0 e1))) ?_; try with_reducible exact tt
end
section
open Go.RowKit
def kyQ (P : St → Prop) (l : Sp) : Prop := ∀ p ∈ l, P p.1
theorem o_10w {P : St → Prop} {q : Rat} : ∀ {l out : Sp}, kyQ P out → kyQ P l → kyQ P (innQ q out l)
 | [], out, h, _ => h
 | b :: l, out, h, hl => o_10w (out := addQ out b.1 (q * b.2)) (l := l) (fun p hp => by
   rcases o_ye hp with hp | rfl
   ·exact h p hp
   ·exact hl b (by simp)) fun p hp => hl p (by simp [hp])
theorem ky_at {P : St → Prop} {l : Sp} (h : kyQ P l) : kyQ P (atQ l) := fun p hp => h p (List.mem_filter.1 ((o_xz l).mem_iff.1 hp)).1
theorem o_10x {P P' : St → Prop} {next : St → Sp} (hn : ∀ s, P s → kyQ P' (next s)) {l : Sp} (h : kyQ P l) : kyQ P' (timesQ next l) := by
 have key : ∀ (k out : Sp), kyQ P' out → kyQ P k → kyQ P' (k.foldl (fun out a => innQ a.2 out (atQ (next a.1))) out) := by
  intro k
  induction k with
  | nil => intro out h _; exact h
  | cons a k ih =>
   intro out ho hk
   exact ih _ (o_10w ho (ky_at (hn _ (hk a (by simp))))) fun p hp => hk p (by simp [hp])
 exact key _ _ (fun p hp => by cases hp) (ky_at h)
def reach (top k : Nat) (i : Nat) (t : St) : Prop := t = (top, 0, true) ∨ t.2 = (0, false) ∧ k ≤ t.1 ∧ t.1 ≤ k + i ∧ t.1 ≤ top
theorem o_10y {top k i : Nat} {c : Nat → Rat} {t : St} (h : reach top k i t) : kyQ (reach top k (i + 1)) (stepQ top c t) := by
 obtain ⟨a, b, f⟩ := t
 unfold stepQ
 split
 ·rename_i e
  intro p hp
  simp at hp; subst hp
  left
  rcases h with h | ⟨h, -⟩
  ·have h1 := congrArg (fun x : St => x.2.1) h
   simp only at e h1
   rw [e, h1]
  ·simp only [Prod.mk.injEq] at h
   simp only at e
   rw [e, h.1]
 ·rename_i e
  simp only at e
  rcases h with h | ⟨h, h1, h2, h3⟩
  ·exact absurd (congrArg (fun x : St => x.1) h) e
  ·simp only at h h1 h2 h3
   intro p hp
   unfold eitQ at hp
   rcases o_ye hp with hp | rfl
   ·rcases o_ye hp with hp | rfl
    ·cases hp
    ·exact .inr ⟨h, by simp only; omega, by simp only; omega, by simp only; omega⟩
   ·exact .inr ⟨h, h1, by simp only; omega, h3⟩
theorem o_10z {top : Nat} {c : Nat → Rat} {s : St} (hs : okQ top s) : ∀ i, kyQ (reach top s.1 i) (ofQ (stepQ top c) s i)
 | 0 => fun p hp => by
  simp [ofQ] at hp; subst hp
  obtain ⟨a, b, f⟩ := s
  obtain ⟨h1, h2, h3⟩ := hs
  simp only at h1 h2 h3
  subst h2
  cases f with
  | false => exact .inr ⟨rfl, Nat.le_refl _, Nat.le_refl _, h1⟩
  | true => left; rw [h3 rfl]
 | i + 1 => o_10x (fun t ht => o_10y ht) (o_10z hs i)
theorem nz_of {top : Nat} {c : Nat → Rat} (s : St) (n : Nat) : nzQ (ofQ (stepQ top c) s n) ≠ [] := by
 intro h
 have h2 := o_ym (top := top) (c := c) s n
 have h3 := o_xt (fun _ => (1 : Rat)) (ofQ (stepQ top c) s n)
 rw [show (ofQ (stepQ top c) s n).filter (fun p => decide (p.2 ≠ 0)) = nzQ (ofQ (stepQ top c) s n) from rfl, h] at h3
 rw [h2] at h3
 exact absurd h3 (by decide)
theorem o_110 (a : Nat) (h : size a ≤ 1) : ∀ n, size (a ^ n) ≤ n + 1
 | 0 => Nat.le_trans (by decide : size 1 ≤ 1) (by omega)
 | n + 1 => by
  rw [Nat.pow_succ]
  have := o_qq (a ^ n) a
  have := o_110 a h n
  omega
theorem o_111 {k a w : Nat} (h : GoodS k a w) : (∀ x, x < topC w → 0 ≤ chP k a x) ∧ (∀ x, x < topC w → chP k a x ≤ 1) := by
 have h15 : topC w ≤ 15 := by have := Nat.pow_le_pow_right (n := 2) (by omega) h.2.2; unfold topC; omega
 obtain ⟨G, hG, -, hc⟩ := o_10e h
 have hp : (0 : Rat) < (G : Rat) := by exact_mod_cast hG
 refine ⟨fun x hx => ?_, fun x hx => ?_⟩
 ·obtain ⟨z, h1, h2⟩ := hc x (by omega)
  apply Classical.byContradiction
  intro hn
  have hz : (0 : Rat) ≤ (z : Rat) := by exact_mod_cast Nat.zero_le z
  have := Rat.mul_lt_mul_of_pos_right (Rat.not_le.1 hn) hp
  grind
 ·obtain ⟨z, h1, h2⟩ := hc x (by omega)
  apply Classical.byContradiction
  intro hn
  have hz : (z : Rat) ≤ (G : Rat) := by exact_mod_cast (by omega : z ≤ G)
  have := Rat.mul_lt_mul_of_pos_right (Rat.not_le.1 hn) hp
  grind
end
section
open Go.RowKit
def dstQ (k a w : Nat) (s : St) (n : Nat) : Sp := ofQ (stepQ (topC w) (chP k a)) s n
end
section
open Go.RowKit
structure NextOK (next : St → Sp) (G : Nat) (s : St) : Prop where
 uq : Uq (next s)
 nz : nzQ (next s) ≠ []
 len : (next s).length ≤ 2
 gr : ∀ p ∈ next s, Gr G 1 p.2
end
section
open Go.RowKit
end
section
open Go.RowKit
def zeroR : D := .agg [natW 0, .bool false, natW 0]
end
section
open Go.RowKit
theorem powB {a E k : Nat} (h : a < 2 ^ E) : a ^ k < 2 ^ (E * k + 1) := by
 have h1 : a ^ k ≤ (2 ^ E) ^ k := Nat.pow_le_pow_left (Nat.le_of_lt h) k
 rw [← Nat.pow_mul] at h1
 have := Nat.two_pow_pos (E * k)
 rw [Nat.pow_succ]; omega
theorem dpowB (a k : Nat) (ha : a ≤ 4097) (hk : k ≤ 24) : Eqn Tryz.prog o_9j [.d (nD a), .d (.int .i64 k)] [] (.d (nD (a ^ k))) [] :=
 have h13 : a < 2 ^ 13 := by omega
 o_x0 a k (by omega) (fun i hi => sizeB (powB (k := i) h13) (by omega)) (sizeB h13 (by omega))
theorem o_112 (p q : Nat) : Eqn Tryz.prog o_9g [.d (nD p), .d (nD q)] [] (.d (qD3 p 0 q)) [] := by
 refine Eqn.pure o_9i Plain.ok ?_
 have h1 := (o_wk p 0 q).sub (args := [.d (.agg [nD p, .nilsl]), .d (nD q)]) (Subs.cons (Sub1.aggd (l := [nD p, .nilsl]) (Subs.cons (Sub1.refl _) (Subs.cons Sub1.nil (Subs.refl _)))) (Subs.refl _))
 simp only [o_9h, qD3] at h1 ⊢
 generalize qD1 : nD p = D1 at *
 obtain ⟨nD1, lD1, rfl⟩ : ∃ n l, D1 = D.sl n l := ⟨_, _, qD1.symm⟩
 clear qD1
 generalize qD2 : nD q = D2 at *
 obtain ⟨nD2, lD2, rfl⟩ : ∃ n l, D2 = D.sl n l := ⟨_, _, qD2.symm⟩
 clear qD2
 generalize qD3 : nD 0 = D3 at *
 obtain ⟨nD3, lD3, rfl⟩ : ∃ n l, D3 = D.sl n l := ⟨_, _, qD3.symm⟩
 clear qD3
 refine A01 h1 ?_; try with_reducible exact tt
theorem o_113 (a k : Nat) (ha : a ≤ 4096) (hk : k ≤ 24) : Eqn Tryz.prog o_77 [.d (.int .i64 a), .d (.int .i64 k)] [] (.d (qD3 (a ^ k) 0 ((a + 1) ^ k))) [] := by
 refine Eqn.pure o_79 Plain.ok ?_
 have s1 := o_v5 a (by omega)
 have s2 := o_v5 (a + 1) (by omega)
 have p1 := dpowB a k (by omega) hk
 have p2 := dpowB (a + 1) k (by omega) hk
 have f1 := o_112 (a ^ k) ((a + 1) ^ k)
 have e1 : IntKind.i64.wrap ((a : Int) + 1) = ((a + 1 : Nat) : Int) := by rw [w64 (by omega) (by omega)]; omega
 simp only [o_78, qD3] at f1 ⊢
 generalize qD1 : nD ((a + 1) ^ k) = D1 at *
 obtain ⟨nD1, lD1, rfl⟩ : ∃ n l, D1 = D.sl n l := ⟨_, _, qD1.symm⟩
 clear qD1
 generalize qD2 : nD (a ^ k) = D2 at *
 obtain ⟨nD2, lD2, rfl⟩ : ∃ n l, D2 = D.sl n l := ⟨_, _, qD2.symm⟩
 clear qD2
 generalize qD4 : nD (a + 1) = D4 at *
 obtain ⟨nD4, lD4, rfl⟩ : ∃ n l, D4 = D.sl n l := ⟨_, _, qD4.symm⟩
 clear qD4
 generalize qD5 : nD a = D5 at *
 obtain ⟨nD5, lD5, rfl⟩ : ∃ n l, D5 = D.sl n l := ⟨_, _, qD5.symm⟩
 clear qD5
 generalize qD3 : nD 0 = D3 at *
 obtain ⟨nD3, lD3, rfl⟩ : ∃ n l, D3 = D.sl n l := ⟨_, _, qD3.symm⟩
 clear qD3
 generalize a + 1 = A1 at *
 refine A16 e1 s1 p1 s2 p2 f1 f1 ?_; try with_reducible exact tt
def svM (a k i : Nat) : Nat := a ^ (k - i) * (a + 1) ^ i - a ^ k
theorem o_114 (a k : Nat) (ha : 1 ≤ a) : chM a k = qval (a ^ k) 0 ((a + 1) ^ k) := by
 unfold chM qval
 rw [o_rk]
 obtain ⟨q1, q2⟩ := o_wv (a := a)
 rw [q1, q2, Int.natCast_zero, Int.sub_zero, Int.natCast_pow]
end
section
open Go.RowKit
theorem gs_a {k a w : Nat} (h : GoodS k a w) (hk : k = 1) : 1 ≤ a ∧ a ≤ 4 := by
 rcases h.1 with ⟨-, h1, h2⟩ | ⟨h1, -⟩ | ⟨h1, -⟩
 ·exact ⟨h1, h2⟩
 ·omega
 ·omega
def ratC (k a r x : Nat) : Rat := if r ≤ x then chP k a x / chP k a r else 0
end
section
open Go.RowKit
def RO (q : Rat) : Ob := ⟨29, [.d (natW q.num.natAbs), .d (.bool (decide (q.num < 0))), .d (natW (q.den - 1))]⟩
def SO (s : St) : Ob := ⟨78, [.d (.int .i64 s.1), .d (.int .i64 s.2.1), .d (.bool s.2.2)]⟩
end
section
open Go.RowKit
def clQ (top k a : Nat) (s : St) : Nat → Sp
 | 0 => [(s, 1)]
 | r + 1 => timesQ (stepQ top (ratC k a r)) (clQ top k a s r)
def fullQ (f : Bool) (s : St) : Sp := [((s.1, s.2.1, s.2.2 || f), 1)]
def mgQ (top k a : Nat) (s o : St) : Sp := timesQ (fullQ o.2.2) (clQ top k a s o.1)
end
section
open Go.RowKit
def SQ (top : Nat) (c g : Nat → Rat) (k : Nat) : Rat := if k = top then g top else c k * g (k + 1) + (1 - c k) * g k
def SnQ (top : Nat) (c : Nat → Rat) : Nat → (Nat → Rat) → Nat → Rat
 | 0, g => g
 | n + 1, g => SnQ top c n (SQ top c g)
def WQ (top k a : Nat) : Nat → (Nat → Rat) → Nat → Rat
 | 0, g => g
 | b + 1, g => WQ top k a b (SQ top (ratC k a b) g)
def plQ (g : Nat → Rat) (s : St) : Rat := g s.1
def mrgdQ (top k a : Nat) (A B : Sp) : Sp := A.foldl (fun out x => B.foldl (fun out y => innQ (x.2 * y.2) out (atQ (mgQ top k a x.1 y.1))) out) []
end
section
open Go.RowKit
theorem o_115 (k a : Int) (w : Nat) (hw : w ≤ 10) : Eqn Tryz.prog o_aa [.d (.agg [.int .i64 k, .int .i64 a, .int .i64 w])] [] (.d (.int .i64 (topC w : Nat))) [] := by
 refine Eqn.pure o_ac Plain.ok ?_
 have h1 := o_tg w (by omega)
 have h2 : p2 w ≤ 1024 := Nat.pow_le_pow_right (n := 2) (by omega) hw
 have h3 := o_te w
 have e1 : IntKind.i64.wrap ((p2 w : Int) - 1) = ((topC w : Nat) : Int) := by
  rw [w64 (by omega) (by omega), show topC w = p2 w - 1 from rfl]; omega
 generalize p2 w = W at *
 generalize topC w = TP at *
 simp only [o_ab]
 refine A11 e1 h1 ?_; try with_reducible exact tt
theorem o_116 (e : Nat) (he : e ≤ 100) : Eqn Tryz.prog o_ef [.d (.int .i64 e)] [] (.d (qD3 1 0 (2 ^ e))) [] := by
 refine Eqn.pure o_eh Plain.ok ?_
 have h1 := o_w3 1 (by decide)
 have h2 := o_v5 2 (by decide)
 have h3 := o_x0 2 e (by omega) (fun i hi => sizeB (E := i + 1) (Nat.pow_lt_pow_right (by decide) (by omega)) (by omega)) (by decide)
 have h4 := o_wk 1 0 (2 ^ e)
 simp only [o_eg, zW, qD3] at h1 h4 ⊢
 generalize 2 ^ e = E at *
 generalize qD1 : nD E = D1 at *
 obtain ⟨nD1, lD1, rfl⟩ : ∃ n l, D1 = D.sl n l := ⟨_, _, qD1.symm⟩
 clear qD1
 generalize qD2 : nD 1 = D2 at *
 obtain ⟨nD2, lD2, rfl⟩ : ∃ n l, D2 = D.sl n l := ⟨_, _, qD2.symm⟩
 clear qD2
 generalize qD3 : nD 0 = D3 at *
 obtain ⟨nD3, lD3, rfl⟩ : ∃ n l, D3 = D.sl n l := ⟨_, _, qD3.symm⟩
 clear qD3
 generalize qD4 : nD 2 = D4 at *
 obtain ⟨nD4, lD4, rfl⟩ : ∃ n l, D4 = D.sl n l := ⟨_, _, qD4.symm⟩
 clear qD4
 have e1 : ((1 : Nat) : Int) = 1 := rfl
 have e2 : ((2 : Nat) : Int) = 2 := rfl
 simp only [e1, e2] at h1 h2
 refine A04 h1 h2 h3 h4 ?_; try with_reducible exact tt
abbrev T3 := Nat × Nat × Nat
def qT (t : T3) : D := qD3 t.1 t.2.1 t.2.2
def vT (t : T3) : Rat := qval t.1 t.2.1 t.2.2
def chT (k a j : Nat) : T3 := if k = 1 then (a ^ j, 0, (a + 1) ^ j) else (1, 0, 2 ^ expOf k a j)
theorem o_117 {k a w j : Nat} (h : GoodS k a w) (hj : j < topC w) : Eqn Tryz.prog o_aj [.d (.agg [.int .i64 k, .int .i64 a, .int .i64 w]), .d (.int .i64 j)] [] (.d (qT (chT k a j))) [] := by
 refine Eqn.pure o_al Plain.ok ?_
 have h15 : topC w ≤ 15 := by have := Nat.pow_le_pow_right (n := 2) (by omega) h.2.2; unfold topC; omega
 have ht := o_115 k a w (by have := h.2.2; omega)
 have hj1 : ¬ ((topC w : Nat) : Int) ≤ j := by omega
 have hj2 : ¬ topC w ≤ j := by omega
 generalize hTP : topC w = TP at *
 unfold chT
 by_cases hk : k = 1
 ·have ha := gs_a h hk
  subst hk
  have hc := o_113 a j (by omega) (by omega)
  have e1 : ((1 : Nat) : Int) = 1 := rfl
  simp only [o_ak, qT, if_true, qD3, e1] at hc ht ⊢
  generalize (a + 1) ^ j = x at *
  generalize a ^ j = y at *
  generalize qD1 : nD x = D1 at *
  obtain ⟨nD1, lD1, rfl⟩ : ∃ n l, D1 = D.sl n l := ⟨_, _, qD1.symm⟩
  clear qD1
  generalize qD2 : nD y = D2 at *
  obtain ⟨nD2, lD2, rfl⟩ : ∃ n l, D2 = D.sl n l := ⟨_, _, qD2.symm⟩
  clear qD2
  generalize qD3 : nD 0 = D3 at *
  obtain ⟨nD3, lD3, rfl⟩ : ∃ n l, D3 = D.sl n l := ⟨_, _, qD3.symm⟩
  clear qD3
  refine A12 (fs hj1 hj2) ht hc ?_; try with_reducible exact tt
 ·have he := o_tz h hk (x := j) (by omega)
  have hh := o_116 (expOf k a j) (by omega)
  rw [if_neg hk]
  have hk' : ¬ (k : Int) = 1 := by omega
  by_cases hk2 : k = 2
  ·have hx := o_th a j (by have := h.1; omega) (by omega)
   have ee : expOf k a j = j / p2 a := by unfold expOf; rw [if_pos hk2]; rfl
   rw [← ee] at hx
   generalize expOf k a j = e at *
   subst hk2
   have e2 : ((2 : Nat) : Int) = 2 := rfl
   simp only [o_ak, qT, qD3, e2] at hh ht ⊢
   generalize 2 ^ e = x at *
   generalize qD1 : nD x = D1 at *
   obtain ⟨nD1, lD1, rfl⟩ : ∃ n l, D1 = D.sl n l := ⟨_, _, qD1.symm⟩
   clear qD1
   generalize qD2 : nD 1 = D2 at *
   obtain ⟨nD2, lD2, rfl⟩ : ∃ n l, D2 = D.sl n l := ⟨_, _, qD2.symm⟩
   clear qD2
   generalize qD3 : nD 0 = D3 at *
   obtain ⟨nD3, lD3, rfl⟩ : ∃ n l, D3 = D.sl n l := ⟨_, _, qD3.symm⟩
   clear qD3
   refine A13 (fs hj1 hj2) ht hx hh ?_; try with_reducible exact tt
  ·have hk2' : ¬ (k : Int) = 2 := by omega
   have hx := o_x5 a j (by have := h.1; omega) (by have := h.1; omega) (by omega)
   have ee : expOf k a j = (placeY a j).shift := by unfold expOf; rw [if_neg hk2]
   rw [← ee] at hx
   generalize expOf k a j = e at *
   simp only [o_ak, qT, qD3] at hh ht ⊢
   generalize (placeY a j).x = px at *
   generalize (placeY a j).value = pv at *
   generalize (placeY a j).reply = pr at *
   generalize 2 ^ e = x at *
   generalize qD1 : nD x = D1 at *
   obtain ⟨nD1, lD1, rfl⟩ : ∃ n l, D1 = D.sl n l := ⟨_, _, qD1.symm⟩
   clear qD1
   generalize qD2 : nD 1 = D2 at *
   obtain ⟨nD2, lD2, rfl⟩ : ∃ n l, D2 = D.sl n l := ⟨_, _, qD2.symm⟩
   clear qD2
   generalize qD3 : nD 0 = D3 at *
   obtain ⟨nD3, lD3, rfl⟩ : ∃ n l, D3 = D.sl n l := ⟨_, _, qD3.symm⟩
   clear qD3
   generalize qD4 : nD pv = D4 at *
   obtain ⟨nD4, lD4, rfl⟩ : ∃ n l, D4 = D.sl n l := ⟨_, _, qD4.symm⟩
   clear qD4
   generalize qD5 : nD pr = D5 at *
   obtain ⟨nD5, lD5, rfl⟩ : ∃ n l, D5 = D.sl n l := ⟨_, _, qD5.symm⟩
   clear qD5
   refine A13 (fs hj1 (fs hj2 (fs hk (fs hk' (fs hk2 hk2'))))) ht hx hh ?_; try with_reducible exact tt
end
section
open Go.RowKit
end
section
open Go.RowKit
def stsD (l : List St) : List D := l.flatMap stD
end
section
open Go.RowKit
def psum (L : Sp) (i : Nat) : Rat := (L.take i).foldl (fun x p => x + p.2) 0
theorem o_118 (L : Sp) (i : Nat) (h : i < L.length) : psum L (i + 1) = psum L i + L[i].2 := by
 unfold psum; rw [List.take_add_one, List.getElem?_eq_getElem h, Option.toList, List.foldl_append]; rfl
theorem o_119 {x : Rat} (h : 0 < x) : cmpQ x 0 = 1 := by
 unfold cmpQ
 rw [if_neg (Rat.not_lt.2 (Rat.le_of_lt h)), if_pos h]
set_option maxHeartbeats 4000000 in
theorem o_11a {k a w : Nat} (h : GoodR k a w) (L : Sp) (hl : L.length ≤ 1000000) (hw : ∀ p ∈ L, WellR k a w p.1.1 p.1.2.1 p.1.2.2) (hpos : ∀ p ∈ L, 0 < p.2) (hs : ∀ i (h : i + 1 < L.length), ltS (L[i]).1 (L[i + 1]).1 = true) (hrs : ∀ p ∈ L, RS p.2 100000) (hsum : ∀ i, i ≤ L.length → RS (psum L i) 100000) (h1 : psum L L.length = 1) : Eqn Tryz.prog o_7s [.d (parD k a w), .d (.sl L.length (spD rcD L))] [] (.d (.bool true)) [] := by
 refine Eqn.pure o_7u Plain.ok ?_
 have ho0 := rof0
 have ho1 := rof1
 have hLl := o_xi rcD (fun _ => rfl) L
 have hget := o_10p L
 have hfin := o_r7 1 1 (o_yt.le (by omega)) (o_yt.le (by omega))
 have hfc : cmpQ 1 1 = 0 := by unfold cmpQ; simp [Rat.lt_irrefl]
 rw [hfc] at hfin
 have hz : psum L 0 = 0 := rfl
 have hz2 : RS (0 : Rat) 100000 := ⟨by decide, by decide⟩
 simp only [o_7t, parD, o_yp] at ho0 ho1 hfin ⊢
 rw [← h1] at hfin ho1
 refine A00 ?_; try with_reducible exact tt
 refine CallS.pu (ho0) (R0 ?_); try with_reducible exact tt
 refine A00 ?_; try with_reducible exact tt
 refine AW.loopW (α := Nat) (fun i => setS (List.replicate 84 .junk) [(1, .d (.sl L.length (spD rcD L))), (2, .p 0 0), (5, .p 1 0), (11, .d (.sl L.length (spD rcD L))), (12, .d (.int .i64 L.length)), (13, .d (.int .i64 (i : Nat)))]) (fun i => [some ⟨73, [.d (.int .i64 k), .d (.int .i64 a), .d (.int .i64 w)]⟩, some ⟨29, (rcD (psum L i)).map .d⟩]) (fun i => i ≤ L.length) (fun i => L.length - i) 2 (fun _ => rfl) (by simp) 0 (Nat.zero_le _) ?_ ?_ ?_
 ·simp
 ·simp [hz, rcD]
 rintro i hi
 simp
 by_cases hi2 : i < L.length
 ·have hi3 : (i : Int) < L.length := by omega
  have ew : IntKind.i64.wrap ((i : Int) + 1) = ((i + 1 : Nat) : Int) := by rw [w64 (by omega) (by omega)]; omega
  obtain ⟨s1, s2, s3, q, N1, N2, N3, hp, hN, hg⟩ := hget i hi2
  have hwi := hw _ (List.getElem_mem hi2)
  have hpi := hpos _ (List.getElem_mem hi2)
  have hri := hrs _ (List.getElem_mem hi2)
  have hnx := o_118 L i hi2
  have hsi := hsum i hi
  have hsd := hs (i - 1)
  rw [hp] at hwi hpi hri hnx
  simp only at hwi hpi hri hnx
  have hwl := o_um h s1 s2 s3
  rw [o_ul.2 hwi] at hwl
  have hcm := o_r7 q 0 hri hz2
  rw [o_119 hpi] at hcm
  have had := o_r5 (psum L i) q hsi hri
  rw [← hnx] at had
  have hb6 : i * 6 + 6 ≤ L.length * 6 := by omega
  have hb7 : i * 6 < L.length * 6 := by omega
  simp only [o_yp, parD, tsD] at hwl hcm had
  rw [hN] at hcm had
  have e3 : (rcD (psum L i)).length = 3 := rfl
  obtain ⟨A1, A2, A3, hA⟩ : ∃ A1 A2 A3, rcD (psum L i) = [A1, A2, A3] := ⟨_, _, _, rfl⟩
  obtain ⟨B1, B2, B3, hB⟩ : ∃ B1 B2 B3, rcD (psum L (i + 1)) = [B1, B2, B3] := ⟨_, _, _, rfl⟩
  rw [hA, hB] at had
  obtain ⟨O1, O2, O3, hO⟩ : ∃ O1 O2 O3, rcD 0 = [O1, O2, O3] := ⟨_, _, _, rfl⟩
  rw [hO] at hcm ho0
  rw [hA]
  refine A10 (fs hi2 (fs hi3 (fs hLl (fs hg (fs hb6 hb7))))) ?_; try with_reducible exact tt
  refine CallS.pu (hwl) (R0 ?_); try with_reducible exact tt
  refine CallS.pu (ho0) (R0 ?_); try with_reducible exact tt
  refine CallS.pu (hcm) (R0 ?_); try with_reducible exact tt
  refine A00 ?_; try with_reducible exact tt
  refine CallS.pu (had) (R0 ?_); try with_reducible exact tt
  by_cases h0 : (i : Int) = 0
  ·refine A10 (fs ew h0) ?_; try with_reducible exact tt
   have hi0 : i = 0 := by omega
   refine ⟨i + 1, by omega, by omega, ?_, ?_⟩
   ·rw [hi0]; exact Sub1.refl _
   ·rw [hB]; exact Subs.refl _
  ·obtain ⟨j, rfl⟩ : ∃ j, i = j + 1 := ⟨i - 1, by omega⟩
   have h0' : ¬ j + 1 = 0 := by omega
   have ej : IntKind.i64.wrap (((j + 1 : Nat) : Int) - 1) = (j : Int) := by rw [w64 (by omega) (by omega)]; omega
   have hj : j < L.length := by omega
   have hj3 : (j : Int) < L.length := by omega
   obtain ⟨r1, r2, r3, q', M1, M2, M3, hpj, hM, hgj⟩ := hget j hj
   have hst := hs j hi2
   rw [hp, hpj] at hst
   have hc6 : j * 6 + 6 ≤ L.length * 6 := by omega
   have hc7 : j * 6 < L.length * 6 := by omega
   refine AW.cond rfl (fun hh => ?_) (fun hh => ?_)
   ·simp at hh; omega
   refine AW.skip ?_
   have hg3 : List.take 3 (List.drop (j * 6) (spD rcD L)) = [.int .i64 r1, .int .i64 r2, .bool r3] := by
    have := congrArg (List.take 3) hgj
    rw [List.take_take] at this
    simpa using this
   have hg3m : List.take 3 (List.drop (j * 6) ((spD rcD L).map V.d)) = [.d (.int .i64 r1), .d (.int .i64 r2), .d (.bool r3)] := by
    rw [← List.map_drop, ← List.map_take, hg3]; rfl
   refine A10 (fs ej (fs hc6 (fs hc7 (fs hj (fs hj3 hLl))))) ?_; try with_reducible exact tt
   simp only [Int.toNat_natCast, hg3, hg3m]
   simp
   have hor : (r1 < s1 ∧ ¬ s1 < r1 ∧ ¬ r1 = s1) ∨ (r1 = s1 ∧ ((r2 < s2 ∧ ¬ s2 < r2 ∧ ¬ r2 = s2) ∨ (r2 = s2 ∧ r3 = false ∧ s3 = true))) := by
    unfold ltS at hst
    simp only [Bool.or_eq_true, Bool.and_eq_true, decide_eq_true_eq, Bool.not_eq_true'] at hst
    rcases hst with g | ⟨g, g' | ⟨g', g3, g4⟩⟩
    ·exact .inl ⟨g, by omega, by omega⟩
    ·exact .inr ⟨g, .inl ⟨g', by omega, by omega⟩⟩
    ·exact .inr ⟨g, .inr ⟨g', g3, g4⟩⟩
   clear hst
   rcases hor with ⟨g1, g2, g3⟩ | ⟨rfl, ⟨g1, g2, g3⟩ | ⟨rfl, rfl, rfl⟩⟩
   ·have g4 : ¬ (s1 : Int) < r1 := by omega
    have g5 : ¬ (r1 : Int) = s1 := by omega
    refine A10 (fs g2 (fs g3 (fs g4 (fs g5 ew)))) ?_; try with_reducible exact tt
    exact ⟨j + 1 + 1, by omega, by omega, Sub1.refl _, by rw [hB]; exact Subs.refl _⟩
   ·have g4 : ¬ (s2 : Int) < r2 := by omega
    have g5 : ¬ (r2 : Int) = s2 := by omega
    refine A10 (fs g2 (fs g3 (fs g4 (fs g5 ew)))) ?_; try with_reducible exact tt
    exact ⟨j + 1 + 1, by omega, by omega, Sub1.refl _, by rw [hB]; exact Subs.refl _⟩
   ·refine A10 ew ?_; try with_reducible exact tt
    exact ⟨j + 1 + 1, by omega, by omega, Sub1.refl _, by rw [hB]; exact Subs.refl _⟩
 ·have h2 : i = L.length := by omega
  subst h2
  obtain ⟨C1, C2, C3, hC⟩ : ∃ C1 C2 C3, rcD (psum L L.length) = [C1, C2, C3] := ⟨_, _, _, rfl⟩
  rw [hC] at ho1 hfin ⊢
  refine A00 ?_; try with_reducible exact tt
  refine CallS.pu (ho1) (R0 ?_); try with_reducible exact tt
  refine CallS.pu (hfin) (R0 ?_); try with_reducible exact tt
end
section
open Go.RowKit
theorem o_11b {top k i : Nat} {l : Sp} (hu : Uq l) (h : kyQ (reach top k i) l) : l.length ≤ top + 2 := by
 have h1 : (l.map (·.1)).length ≤ ((top, 0, true) :: (List.range (top + 1)).map fun j => (j, 0, false) : List St).length := by
  refine List.Nodup.length_le_of_subset hu fun t ht => ?_
  obtain ⟨p, hp, rfl⟩ := List.mem_map.1 ht
  rcases h p hp with e | ⟨e, e1, e2, e3⟩
  ·rw [e]; simp
  ·refine List.mem_cons_of_mem _ (List.mem_map.2 ⟨p.1.1, List.mem_range.2 (by omega), ?_⟩)
   rw [← e]
 simpa using h1
theorem o_11c {G top : Nat} {c : Nat → Rat} (h7 : top ≤ 15) (h0 : ∀ k, k < top → 0 ≤ c k) (h1 : ∀ k, k < top → c k ≤ 1) (hc : ∀ x, x < top → Gr G 1 (c x)) {s : St} (hs : okQ top s) : ∀ n, ∀ p ∈ ofQ (stepQ top c) s n, Gr (G ^ n) (80 ^ n) p.2
 | 0 => fun p hp => by
  simp [ofQ] at hp; subst hp
  exact Gr.one _
 | n + 1 => by
  have ih := o_11c h7 h0 h1 hc hs n
  have hl := o_11b (o_yb _ s n) (o_10z (c := c) hs n)
  have hA : (atQ (ofQ (stepQ top c) s n)).length ≤ 40 := Nat.le_trans (o_10n _) (by omega)
  have hm : ∀ p ∈ atQ (ofQ (stepQ top c) s n), p ∈ ofQ (stepQ top c) s n := fun p hp => (List.mem_filter.1 ((o_xz _).mem_iff.1 hp)).1
  have := o_10k (D := G ^ n) (E := G) (B := 80 ^ n) (J := 2) (next := stepQ top c) (A := atQ (ofQ (stepQ top c) s n)) (fun p hp => ih p (hm p hp)) (fun p hp => ⟨o_10o hc p.1 (o_yl h0 h1 hs n p (hm p hp)).1.1, Nat.le_trans (o_10n _) (o_10m _ _ _)⟩) _ (Nat.le_refl _)
  rw [o_10h] at this
  intro p hp
  rw [Nat.pow_succ]
  refine (this p hp).le ?_
  rw [Nat.pow_succ, Nat.mul_comm (80 ^ n) 80]
  exact Nat.mul_le_mul_right _ (by omega)
theorem o_11d {G n : Nat} (hG : G ≤ 2 ^ 63) (hn : n ≤ 100) : size (80 * 80 ^ n * (G ^ n * G)) ≤ 100000 ∧ size (80 ^ n * G ^ n) ≤ 100000 := by
 have h1 : size G ≤ 1 := o_lv (Nat.lt_of_le_of_lt hG (by decide))
 have h2 : size 80 ≤ 1 := o_lv (by decide)
 have a1 := o_110 80 h2 n
 have a2 := o_110 G h1 n
 have a3 := o_qq (80 * 80 ^ n) (G ^ n * G)
 have a4 := o_qq 80 (80 ^ n)
 have a5 := o_qq (G ^ n) G
 have a6 := o_qq (80 ^ n) (G ^ n)
 omega
set_option maxHeartbeats 4000000 in
theorem o_11e {k a w : Nat} (h : GoodS k a w) (w3 : w ≤ 4) (s : St) (hw : WellR k a w s.1 s.2.1 s.2.2) (hs : okQ (topC w) s) (n : Nat) (hn : n ≤ 15) : Eqn Tryz.prog o_7m [.d (parD k a w), .d (.agg (stD s)), .d (.int .i64 n)] [] (.tup [.d (.sl (atQ (dstQ k a w s n)).length (spD rcD (atQ (dstQ k a w s n)))), .d (.int .i64 0)]) [] := by
 refine Eqn.pure o_7o Plain.ok ?_
 have hk4 : k ≠ 4 := by have := h.1; omega
 have w4 := h.2.2
 have hg : GoodR k a w := .inr ⟨hk4, o_u3 h⟩
 have h15 : topC w ≤ 15 := by have := Nat.pow_le_pow_right (n := 2) (by omega) h.2.2; unfold topC; omega
 have hwr := o_10u hg s hw
 have hst := o_10v (a := a) hk4 (show w ≤ 10 by omega)
 have hsu := o_yw s
 obtain ⟨c0, c1⟩ := o_111 h
 obtain ⟨G, hG, hG63, hc⟩ := o_10e h
 have h16 : 2 ^ w ≤ 16 := Nat.pow_le_pow_right (n := 2) (by omega) w3
 have h7 : topC w ≤ 15 := by unfold topC; omega
 have hti : ∀ i, i ≤ 14 → Eqn Tryz.prog o_b1 [.mp 0, .fn (.func o_b4) [.p 1 0]] [spO (dstQ k a w s i), PO k a w] (.mp 2) [spO (dstQ k a w s i), PO k a w, spO (dstQ k a w s (i + 1))] := fun i hi => by
  have hl := o_11b (o_yb _ s i) (o_10z (c := chP k a) hs i)
  exact o_10q h (dstQ k a w s i) G (G ^ i) (80 ^ i) (o_yb _ s i) (o_yl c0 c1 hs i) (nz_of s i) (Nat.le_trans (List.length_filter_le _ _) (Nat.le_trans hl (by omega))) (Nat.le_trans hl (by omega)) (Nat.pow_pos hG) (Nat.pow_pos (by decide)) (o_11c h7 c0 c1 (fun x hx => hc x (by omega)) hs i) hG hc (o_11d hG63 (by omega)).1
 have hat : Eqn Tryz.prog o_ba [.mp 0] [spO (dstQ k a w s n)] (.d (.sl (atQ (dstQ k a w s n)).length (spD rcD (atQ (dstQ k a w s n))))) [spO (dstQ k a w s n)] := by
  have hl := o_11b (o_yb _ s n) (o_10z (c := chP k a) hs n)
  exact o_10c _ (o_yb _ s n) (nz_of s n) (Nat.le_trans (List.length_filter_le _ _) (Nat.le_trans hl (by omega))) (Nat.le_trans hl (by omega)) (fun p hp => (o_11c h7 c0 c1 (fun x hx => hc x (by omega)) hs n p hp).rs (Nat.pow_pos hG) (Nat.pow_pos (by decide)) (o_11d hG63 (by omega)).2)
 have hd0 : dstQ k a w s 0 = [(s, 1)] := rfl
 rw [← hd0] at hsu
 have e1 : IntKind.i64.wrap ((n : Int) + 1) = ((n + 1 : Nat) : Int) := by rw [w64 (by omega) (by omega)]; omega
 obtain ⟨W, hW⟩ : ∃ W, W = 2 ^ w := ⟨_, rfl⟩
 rw [← hW] at hst h16
 have hmul : (n + 1) * W ≤ 16 * 16 := Nat.mul_le_mul (by omega) h16
 have e2 : IntKind.i64.wrap (((n + 1 : Nat) : Int) * (W : Int)) = (((n + 1) * W : Nat) : Int) := by rw [← Int.natCast_mul]; exact w64 (by omega) (by omega)
 obtain ⟨M, hM⟩ : ∃ M, M = (n + 1) * W := ⟨_, rfl⟩
 rw [← hM] at e2 hmul
 obtain ⟨n1, hn1⟩ : ∃ n1, n1 = n + 1 := ⟨_, rfl⟩
 rw [← hn1] at e1 e2
 have g1 : ¬ (n : Int) < 0 := by omega
 have g2 : ¬ (64 : Int) < n := by omega
 have g3 : ¬ (512 : Int) < M := by omega
 have g4 : ¬ 512 < M := by omega
 have g5 : ¬ 64 < n := by omega
 generalize hA : atQ (dstQ k a w s n) = A at *
 simp only [o_7n, stD, parD, spO, PO] at hwr hst hsu hti hat ⊢
 refine A00 ?_; try with_reducible exact tt
 refine CallS.pf 2 3 ⟨78, [.d (.int .i64 s.1), .d (.int .i64 s.2.1), .d (.bool s.2.2)]⟩ [.int .i64 s.1, .int .i64 s.2.1, .bool s.2.2] (hwr) (by first | rfl | (simp [g1, g2, g5]; done)) (R1 (fs g1 (fs g2 g5)) ?_); try with_reducible exact tt
 refine A10 (fs g1 (fs g2 (fs g5 e1))) ?_; try with_reducible exact tt
 refine CallS.pu (hst) (R1 (fs e2 (fs g3 g4)) ?_); try with_reducible exact tt
 refine A10 (fs e2 (fs g3 g4)) ?_; try with_reducible exact tt
 refine CallS.nX (hsu) (R0 ?_); try with_reducible exact tt
 refine AW.loopG (α := Nat) (fun i => setS (List.replicate 43 .junk) [(3, .p 0 0), (9, .mp 3), (34, .d (.int .i64 n)), (35, .d (.int .i64 (i : Nat)))]) (fun i => [some ⟨73, [.d (.int .i64 k), .d (.int .i64 a), .d (.int .i64 w)]⟩, none, none, some ⟨1000391, (spD rcD (dstQ k a w s i)).map .d⟩]) (fun i => i ≤ n) (fun i => n - i) 0 ?_ (Nat.zero_le _) ?_ ?_ ?_
 ·intro i hi; simp
 ·simp
 ·simp
 rintro i hi
 simp
 by_cases hi2 : i < n
 ·have hi3 : (i : Int) < n := by omega
  have ew : IntKind.i64.wrap ((i : Int) + 1) = ((i + 1 : Nat) : Int) := by rw [w64 (by omega) (by omega)]; omega
  have ht := hti i (by omega)
  refine A10 (fs hi2 hi3) ?_; try with_reducible exact tt
  refine CallS.g [3, 0] (ht) (R1 ew ?_); try with_reducible exact tt
  refine A10 ew ?_; try with_reducible exact tt
  refine ⟨i + 1, 3, 4, by omega, by omega, by omega, ?_, ?_⟩
  ·simp [swT, swH, sw, Ob.sw, V.ren, V.rens]
  ·simp [swT, swH, sw, Ob.sw, V.ren, V.rens]
 ·have h2 : i = n := by omega
  subst h2
  refine A00 ?_; try with_reducible exact tt
  refine CallS.g [3] (hat) (R0 ?_); try with_reducible exact tt
  done
end
section
open Go.RowKit
theorem o_11f {top : Nat} {t : St} (h : okQ top t) : reach top 0 top t := by
 obtain ⟨a, b, f⟩ := t
 obtain ⟨h1, h2, h3⟩ := h
 simp only at h1 h2 h3
 subst h2
 cases f with
 | false => exact .inr ⟨rfl, Nat.zero_le _, by simp only; omega, h1⟩
 | true => left; rw [h3 rfl]
theorem o_11g {top : Nat} {l : Sp} (hu : Uq l) (h : oklQ top l) : l.length ≤ top + 2 := o_11b hu (k := 0) (i := top) fun p hp => o_11f (h p hp).1
end
section
open Go.RowKit
def inMQ (top k a : Nat) (x : St × Rat) (B : Sp) (out : Sp) (j : Nat) : Sp := (B.take j).foldl (fun out y => innQ (x.2 * y.2) out (atQ (mgQ top k a x.1 y.1))) out
def outMQ (top k a : Nat) (A B : Sp) (i : Nat) : Sp := (A.take i).foldl (fun out x => B.foldl (fun out y => innQ (x.2 * y.2) out (atQ (mgQ top k a x.1 y.1))) out) []
end
section
open Go.RowKit
theorem o_11h {l : Sp} (hu : Uq l) (i : Nat) (hi : i + 1 < (atQ l).length) : ltS (atQ l)[i].1 (atQ l)[i + 1].1 = true := by
 have h2 : (atQ l).Pairwise fun a b => leP a b = true := List.pairwise_mergeSort o_xx o_xy _
 have h3 := List.pairwise_iff_getElem.1 h2 i (i + 1) (by omega) hi (Nat.lt_succ_self _)
 have hua : Uq (atQ l) := o_y2 hu
 have hne : (atQ l)[i].1 ≠ (atQ l)[i + 1].1 := by
  unfold Uq at hua
  have h4 := List.pairwise_iff_getElem.1 hua i (i + 1) (by simp; omega) (by simpa using hi) (Nat.lt_succ_self _)
  simpa using h4
 unfold leP at h3
 simp only [Bool.not_eq_true'] at h3
 rcases o_xw (atQ l)[i].1 (atQ l)[i + 1].1 with h | h | h
 ·exact h
 ·exact absurd h hne
 ·rw [h] at h3; cases h3
theorem o_11i (L : Sp) : psum L L.length = exQ (fun _ => 1) L := by
 have key : ∀ (L : Sp) (x : Rat), L.foldl (fun x p => x + p.2) x = x + exQ (fun _ => 1) L := by
  intro L
  induction L with
  | nil => intro x; simp only [List.foldl_nil, exQ]; grind
  | cons p L ih => intro x; rw [List.foldl_cons, ih]; simp only [exQ]; grind
 unfold psum
 rw [List.take_length, key]; grind
theorem o_11j {D B : Nat} {L : Sp} (h : ∀ p ∈ L, Gr D B p.2) : ∀ i, i ≤ L.length → Gr D (i * B) (psum L i)
 | 0, _ => by simpa [psum] using Gr.zero D (0 * B)
 | i + 1, hi => by
  have hi' : i < L.length := hi
  rw [o_118 L i hi']
  have := (o_11j h i (by omega)).add (h L[i] (List.getElem_mem hi'))
  rwa [Nat.add_mul, Nat.one_mul]
theorem o_11k {top : Nat} {l : Sp} (h : oklQ top l) : ∀ p ∈ atQ l, 0 < p.2 := fun p hp => by
 have h1 := List.mem_filter.1 ((o_xz l).mem_iff.1 hp)
 have h2 : p.2 ≠ 0 := by simpa using h1.2
 have h3 := (h p h1.1).2
 exact Classical.byContradiction fun hn => h2 (Rat.le_antisymm (Rat.not_lt.1 hn) h3)
end
section
open Go.RowKit
end
section
open Go.RowKit
def inG (mg : St → St → Sp) (x : St × Rat) (B : Sp) (out : Sp) (j : Nat) : Sp := (B.take j).foldl (fun out y => innQ (x.2 * y.2) out (atQ (mg x.1 y.1))) out
def outG (mg : St → St → Sp) (A B : Sp) (i : Nat) : Sp := (A.take i).foldl (fun out x => B.foldl (fun out y => innQ (x.2 * y.2) out (atQ (mg x.1 y.1))) out) []
def mrgG (mg : St → St → Sp) (A B : Sp) : Sp := A.foldl (fun out x => B.foldl (fun out y => innQ (x.2 * y.2) out (atQ (mg x.1 y.1))) out) []
structure MrgOK (k a w : Nat) (mg : St → St → Sp) (A B : Sp) (D M J L : Nat) : Prop where
 dp : 0 < D
 mp : 1 ≤ M
 jp : 1 ≤ J
 lp : 1 ≤ L
 j2 : J ≤ 1000
 a1 : 1 ≤ A.length
 a2 : A.length ≤ 1000
 b1 : 1 ≤ B.length
 b2 : B.length ≤ L
 l2 : L ≤ 1000
 xs : ∀ x ∈ A, 0 ≤ x.2 ∧ RS x.2 40000
 ys : ∀ y ∈ B, 0 ≤ y.2 ∧ RS y.2 40000
 gr : ∀ x ∈ A, ∀ y ∈ B, (∀ p ∈ atQ (mg x.1 y.1), Gr D M (x.2 * y.2 * p.2)) ∧ (atQ (mg x.1 y.1)).length ≤ J
 rs : ∀ x ∈ A, ∀ y ∈ B, ∀ p ∈ atQ (mg x.1 y.1), RS p.2 100000
 sz : size ((A.length + 2) * (L * J) * M * D) ≤ 100000
 cost : Eqn Tryz.prog o_bg [.d (parD k a w), .d (.sl (A.length + B.length) (stsD ((A ++ B).map (·.1))))] [] (.d (.int .i64 0)) []
 call : ∀ x ∈ A, ∀ y ∈ B, Eqn Tryz.prog o_bh [.d (parD k a w), .d (.agg (stD x.1)), .d (.agg (stD y.1))] [] (.mp 0) [spO (mg x.1 y.1)] ∧ Eqn Tryz.prog o_ba [.mp 0] [spO (mg x.1 y.1)] (.d (.sl (atQ (mg x.1 y.1)).length (spD rcD (atQ (mg x.1 y.1))))) [spO (mg x.1 y.1)]
 out : Eqn Tryz.prog o_ba [.mp 0] [spO (mrgG mg A B)] (.d (.sl (atQ (mrgG mg A B)).length (spD rcD (atQ (mrgG mg A B))))) [spO (mrgG mg A B)]
def slC (la lb : Nat) (A B C : List D) (n i : Nat) : List V := setS (List.replicate 100 .junk) [(1, .d (.sl la A)), (2, .d (.sl lb B)), (3, .p 0 0), (8, if i = 0 then .d .nilsl else .own 1 3 i), (9, .d (.bool false)), (23, .d (.sl n C)), (24, .d (.int .i64 n)), (25, .d (.int .i64 (i : Nat)))]
def hpC (k a w : Nat) (S : List St) (i : Nat) : List (Option Ob) := [some ⟨73, [.d (.int .i64 k), .d (.int .i64 a), .d (.int .i64 w)]⟩] ++ if i = 0 then [] else [some ⟨78, (stsD (S.take i)).map .d⟩]
end
section
open Go.RowKit
theorem wellQ {k a w : Nat} (h : GoodS k a w) {t : St} (ht : okQ (topC w) t) : WellR k a w t.1 t.2.1 t.2.2 := .inr ⟨by have := h.1; omega, ht.2.1, ht.1, ht.2.2⟩
end
section
open Go.RowKit
theorem o_11l {s : St} : ∀ (A : Sp) (j : Nat) (h : j < A.length), (∀ i (hi : i < A.length), i < j → A[i].1 ≠ s) → A[j].1 = s → getQ A s = A[j].2
 | [], j, h, _, _ => by simp at h
 | p :: A, 0, h, _, e => by
  have e' : p.1 = s := e
  unfold getQ; rw [if_pos e'.symm]; rfl
 | p :: A, j + 1, h, hn, e => by
  have h0 := hn 0 (by simp) (by omega)
  simp only [List.getElem_cons_zero] at h0
  unfold getQ
  rw [if_neg fun e => h0 e.symm]
  have := o_11l (s := s) A j (by simpa using h) (fun i hi hij => by have := hn (i + 1) (by simpa using hi) (by omega); simpa using this) (by simpa using e)
  simpa using this
theorem o_11m {s : St} : ∀ (A : Sp), (∀ i (hi : i < A.length), A[i].1 ≠ s) → getQ A s = 0
 | [], _ => rfl
 | p :: A, hn => by
  have h0 := hn 0 (by simp)
  simp only [List.getElem_cons_zero] at h0
  unfold getQ
  rw [if_neg fun e => h0 e.symm]
  exact o_11m A fun i hi => by have := hn (i + 1) (by simpa using hi); simpa using this
set_option maxHeartbeats 2000000 in
theorem o_11n (A : Sp) (hA : A.length ≤ 1000000) (y1 y2 : Nat) (y3 : Bool) : Eqn Tryz.prog o_7y [.d (.sl A.length (spD rcD A)), .d (.agg [.int .i64 y1, .int .i64 y2, .bool y3])] [] (.d (rD (getQ A (y1, y2, y3)))) [] := by
 refine Eqn.pure o_80 Plain.ok ?_
 have hl := o_xi rcD (fun _ => rfl) A
 have hget := o_10p A
 have ho := rof0
 simp only [o_7z]
 obtain ⟨Z1, Z2, Z3, hZ⟩ : ∃ Z1 Z2 Z3, rcD (getQ A (y1, y2, y3)) = [Z1, Z2, Z3] := ⟨_, _, _, rfl⟩
 rw [o_yp, hZ]
 refine A00 ?_; try with_reducible exact tt
 refine AW.loopG (α := Nat) (fun j => setS (List.replicate 21 .junk) [(3, .p 0 0), (4, .p 1 0), (7, .d (.sl A.length (spD rcD A))), (8, .d (.int .i64 A.length)), (9, .d (.int .i64 (j : Nat)))]) (fun j => [some ⟨78, [.d (.int .i64 y1), .d (.int .i64 y2), .d (.bool y3)]⟩, some ⟨29, [.d .nilsl, .d (.bool false), .d .nilsl]⟩]) (fun j => j ≤ A.length ∧ ∀ i (hi : i < A.length), i < j → A[i].1 ≠ (y1, y2, y3)) (fun j => A.length - j) 0 ?_ ⟨Nat.zero_le _, fun _ _ h => by omega⟩ ?_ ?_ ?_
 ·intro j hj; simp
 ·simp
 ·simp
 rintro j ⟨hj, hno⟩
 simp
 by_cases hj2 : j < A.length
 ·have hj3 : (j : Int) < A.length := by omega
  obtain ⟨s1, s2, s3, q, N1, N2, N3, hp, hN, hg⟩ := hget j hj2
  have hb6 : j * 6 + 6 ≤ A.length * 6 := by omega
  have hb7 : j * 6 < A.length * 6 := by omega
  have ewj : IntKind.i64.wrap ((j : Int) + 1) = ((j + 1 : Nat) : Int) := by rw [w64 (by omega) (by omega)]; omega
  by_cases h1 : s1 = y1
  ·by_cases h2 : s2 = y2
   ·by_cases h3 : s3 = y3
    ·have hf := o_11l A j hj2 hno (by rw [hp, h1, h2, h3])
     rw [hp] at hf
     simp only at hf
     rw [hf, hN] at hZ
     simp only [List.cons.injEq, and_true] at hZ
     obtain ⟨z1, z2, z3⟩ := hZ
     subst h1 h2 h3 z1 z2 z3
     refine A10 (fs hj2 (fs hj3 (fs hg (fs hl (fs hb6 hb7))))) ?_; try with_reducible exact tt
     done
    ·have hne : (s1, s2, s3) ≠ (y1, y2, y3) := fun e => h3 (by simpa using congrArg (fun x : St => x.2.2) e)
     subst h1 h2
     have h4 : (s3 == y3) = false := by simpa using h3
     refine A10 (fs hj2 (fs hj3 (fs hg (fs hl (fs hb6 (fs hb7 (fs h3 h4))))))) ?_; try with_reducible exact tt
     refine A10 ewj ?_; try with_reducible exact tt
     have hno2 : ∀ i (hi : i < A.length), i < j + 1 → A[i].1 ≠ (s1, s2, y3) := fun i hi h => by
      by_cases e : i = j
      ·subst e; rw [hp]; exact hne
      ·exact hno i hi (by omega)
     refine ⟨j + 1, 0, 0, by simp, ⟨by omega, hno2⟩, by omega, ?_, ?_⟩
     ·simp [swT, swH, sw, Ob.sw, V.ren, V.rens]
     ·simp [swT, swH, sw, Ob.sw, V.ren, V.rens]
   ·have hne : (s1, s2, s3) ≠ (y1, y2, y3) := fun e => h2 (by simpa using congrArg (fun x : St => x.2.1) e)
    subst h1
    have h4 : ((s2 : Int) == (y2 : Int)) = false := by simp; omega
    have h5 : ¬ (s2 : Int) = (y2 : Int) := by omega
    refine A10 (fs hj2 (fs hj3 (fs hg (fs hl (fs hb6 (fs hb7 (fs h2 (fs h4 h5)))))))) ?_; try with_reducible exact tt
    refine A10 ewj ?_; try with_reducible exact tt
    have hno2 : ∀ i (hi : i < A.length), i < j + 1 → A[i].1 ≠ (s1, y2, y3) := fun i hi h => by
     by_cases e : i = j
     ·subst e; rw [hp]; exact hne
     ·exact hno i hi (by omega)
    refine ⟨j + 1, 0, 0, by simp, ⟨by omega, hno2⟩, by omega, ?_, ?_⟩
    ·simp [swT, swH, sw, Ob.sw, V.ren, V.rens]
    ·simp [swT, swH, sw, Ob.sw, V.ren, V.rens]
  ·have hne : (s1, s2, s3) ≠ (y1, y2, y3) := fun e => h1 (by simpa using congrArg (fun x : St => x.1) e)
   have h4 : ((s1 : Int) == (y1 : Int)) = false := by simp; omega
   have h5 : ¬ (s1 : Int) = (y1 : Int) := by omega
   refine A10 (fs hj2 (fs hj3 (fs hg (fs hl (fs hb6 (fs hb7 (fs h1 (fs h4 h5)))))))) ?_; try with_reducible exact tt
   refine A10 ewj ?_; try with_reducible exact tt
   have hno2 : ∀ i (hi : i < A.length), i < j + 1 → A[i].1 ≠ (y1, y2, y3) := fun i hi h => by
    by_cases e : i = j
    ·subst e; rw [hp]; exact hne
    ·exact hno i hi (by omega)
   refine ⟨j + 1, 0, 0, by simp, ⟨by omega, hno2⟩, by omega, ?_, ?_⟩
   ·simp [swT, swH, sw, Ob.sw, V.ren, V.rens]
   ·simp [swT, swH, sw, Ob.sw, V.ren, V.rens]
 ·have h2 : j = A.length := by omega
  have hz : getQ A (y1, y2, y3) = 0 := o_11m A fun i hi => hno i hi (by omega)
  rw [o_yp] at ho
  rw [← hz, hZ] at ho
  subst h2
  refine A00 ?_; try with_reducible exact tt
  refine CallS.pu (ho) (R0 ?_); try with_reducible exact tt
end
section
open Go.RowKit
theorem at_eq {l K N : Sp} (hu : Uq l) (hN : nzQ l = N) (hp : K.Perm N) (hs : K.Pairwise fun a b => ltS a.1 b.1 = true) : atQ l = K := (o_y4 hu (hN ▸ hp) hs).symm
def hf2 : Rat := mkRat 1 2
theorem dst2 : atQ (dstQ 1 1 2 (0, 0, false) 2) = [((1, 0, false), hf2), ((2, 0, false), hf2)] := by
 have c0 : stepQ (topC 2) (chP 1 1) (0, 0, false) = [((1, 0, false), 1), ((0, 0, false), 0)] := by kernel_rfl
 have c1 : stepQ (topC 2) (chP 1 1) (1, 0, false) = [((2, 0, false), hf2), ((1, 0, false), hf2)] := by kernel_rfl
 have a0 : atQ [(((0, 0, false) : St), (1 : Rat))] = [((0, 0, false), 1)] := at_eq (N := [((0, 0, false), 1)]) (by unfold Uq; decide) (by kernel_rfl) (List.Perm.refl _) (by decide)
 have a1 : atQ [(((1, 0, false) : St), (1 : Rat)), ((0, 0, false), 0)] = [((1, 0, false), 1)] := at_eq (N := [((1, 0, false), 1)]) (by unfold Uq; decide) (by kernel_rfl) (List.Perm.refl _) (by decide)
 have a2 : atQ [(((1, 0, false) : St), (1 : Rat))] = [((1, 0, false), 1)] := at_eq (N := [((1, 0, false), 1)]) (by unfold Uq; decide) (by kernel_rfl) (List.Perm.refl _) (by decide)
 have a3 : atQ [(((2, 0, false) : St), hf2), ((1, 0, false), hf2)] = [((1, 0, false), hf2), ((2, 0, false), hf2)] := at_eq (N := [((2, 0, false), hf2), ((1, 0, false), hf2)]) (by unfold Uq; decide) (by kernel_rfl) (List.Perm.swap _ _ _) (by decide)
 have a4 : atQ [(((1, 0, false) : St), hf2), ((2, 0, false), hf2)] = [((1, 0, false), hf2), ((2, 0, false), hf2)] := at_eq (N := [((1, 0, false), hf2), ((2, 0, false), hf2)]) (by unfold Uq; decide) (by kernel_rfl) (List.Perm.refl _) (by decide)
 have d1 : dstQ 1 1 2 (0, 0, false) 1 = [((1, 0, false), 1)] := by
  show timesQ _ [((0, 0, false), 1)] = _
  unfold timesQ
  rw [a0]
  simp only [List.foldl_cons, List.foldl_nil]
  rw [c0, a1]
  kernel_rfl
 have d2 : dstQ 1 1 2 (0, 0, false) 2 = [((1, 0, false), hf2), ((2, 0, false), hf2)] := by
  show timesQ _ (dstQ 1 1 2 (0, 0, false) 1) = _
  rw [d1]
  unfold timesQ
  rw [a2]
  simp only [List.foldl_cons, List.foldl_nil]
  rw [c1, a3]
  kernel_rfl
 rw [d2, a4]
end
section
open Go.RowKit
def dlQ (s t : St) : Rat := if t = s then 1 else 0
def gA (top : Nat) : Nat → St → Rat
 | 0, _ => 0
 | i + 1, t => (gA top i t + dlQ (top - i, 0, true) t) + dlQ (top - i, 0, false) t
def gM (top i : Nat) (t : St) : Rat := gA top i t + dlQ (top - i, 0, true) t
def accQ (l : Sp) (top : Nat) : Nat → Rat
 | 0 => 0
 | i + 1 => (accQ l top i + getQ l (top - i, 0, true)) + getQ l (top - i, 0, false)
def midQ (l : Sp) (top i : Nat) : Rat := accQ l top i + getQ l (top - i, 0, true)
end
section
open Go.RowKit
theorem o_11o {g h : St → Rat} : ∀ {l : Sp}, (∀ p ∈ l, g p.1 = h p.1) → exQ g l = exQ h l
 | [], _ => rfl
 | p :: l, hl => by simp only [exQ]; rw [hl p (by simp), o_11o (l := l) fun q hq => hl q (by simp [hq])]
end
section
open Go.RowKit
def add3 (x y : T3) : T3 := (x.1 * y.2.2 + y.1 * x.2.2, x.2.1 * y.2.2 + y.2.1 * x.2.2, x.2.2 * y.2.2)
def mul3 (x y : T3) : T3 := (x.1 * y.1 + x.2.1 * y.2.1, x.1 * y.2.1 + x.2.1 * y.1, x.2.2 * y.2.2)
def turn3 (x : T3) : T3 := (x.2.1, x.1, x.2.2)
def zero3 : T3 := (0, 0, 1)
def one3 : T3 := (1, 0, 1)
def BT (E : Nat) (t : T3) : Prop := t.1 < 2 ^ E ∧ t.2.1 < 2 ^ E ∧ t.2.2 < 2 ^ E ∧ 0 < t.2.2
theorem BT.up {E F : Nat} {t : T3} (h : BT E t) (hf : E ≤ F) : BT F t := ⟨o_vw h.1 hf, o_vw h.2.1 hf, o_vw h.2.2.1 hf, h.2.2.2⟩
theorem BT.add {E : Nat} {x y : T3} (hx : BT E x) (hy : BT E y) : BT (E + E + 1) (add3 x y) :=
 ⟨o_vv (o_vu hx.1 hy.2.2.1) (o_vu hy.1 hx.2.2.1), o_vv (o_vu hx.2.1 hy.2.2.1) (o_vu hy.2.1 hx.2.2.1), o_vw (o_vu hx.2.2.1 hy.2.2.1) (by omega), Nat.mul_pos hx.2.2.2 hy.2.2.2⟩
theorem BT.mul {E F : Nat} {x y : T3} (hx : BT E x) (hy : BT F y) : BT (E + F + 1) (mul3 x y) :=
 ⟨o_vv (o_vu hx.1 hy.1) (o_vu hx.2.1 hy.2.1), o_vv (o_vu hx.1 hy.2.1) (o_vu hx.2.1 hy.1), o_vw (o_vu hx.2.2.1 hy.2.2.1) (by omega), Nat.mul_pos hx.2.2.2 hy.2.2.2⟩
theorem BT.turn {E : Nat} {x : T3} (hx : BT E x) : BT E (turn3 x) := ⟨hx.2.1, hx.1, hx.2.2.1, hx.2.2.2⟩
theorem BT.zero {E : Nat} (h : 1 ≤ E) : BT E zero3 := ⟨Nat.two_pow_pos _, Nat.two_pow_pos _, Nat.one_lt_two_pow (by omega), by decide⟩
theorem BT.one {E : Nat} (h : 1 ≤ E) : BT E one3 := ⟨Nat.one_lt_two_pow (by omega), Nat.two_pow_pos _, Nat.one_lt_two_pow (by omega), by decide⟩
theorem o_11p {E F : Nat} {x y : T3} (hx : BT E x) (hy : BT F y) : vT (add3 x y) = vT x + vT y := o_wl hx.2.2.2 hy.2.2.2
theorem o_11q {E F : Nat} {x y : T3} (hx : BT E x) (hy : BT F y) : vT (mul3 x y) = vT x * vT y := o_wm hx.2.2.2 hy.2.2.2
theorem o_11r (x : T3) : vT (turn3 x) = -vT x := o_wn _ _ _
theorem o_11s : vT zero3 = 0 := by
 have := o_wo 0
 exact this
theorem o_11t : vT one3 = 1 := by
 have := o_wo 1
 exact this
theorem o_11u {k a w j : Nat} (h : GoodS k a w) (hj : j ≤ 15) : vT (chT k a j) = chP k a j ∧ BT 65 (chT k a j) := by
 unfold chT chP
 by_cases hk : k = 1
 ·rw [if_pos hk, if_pos hk]
  have ha := gs_a h hk
  refine ⟨(o_114 a j ha.1).symm, o_vw (powB (E := 3) (by omega)) (by omega), Nat.two_pow_pos _, o_vw (powB (E := 3) (by omega)) (by omega), Nat.pow_pos (by omega)⟩
 ·rw [if_neg hk, if_neg hk]
  have he := o_tz h hk hj
  refine ⟨?_, Nat.one_lt_two_pow (by omega), Nat.two_pow_pos _, Nat.pow_lt_pow_right (by decide) (by omega), Nat.two_pow_pos _⟩
  show mkRat (((1 : Nat) : Int) - ((0 : Nat) : Int)) (2 ^ expOf k a j) = _
  rfl
def baseT (top k a : Nat) (l : List T3) (j : Nat) : T3 := if j < top then mul3 (l.getD j zero3) (add3 one3 (turn3 (chT k a j))) else zero3
def nxT (top k a : Nat) (l : List T3) (j : Nat) : T3 := if 0 < j then add3 (baseT top k a l j) (mul3 (l.getD (j - 1) zero3) (chT k a (j - 1))) else baseT top k a l j
def stepT (top k a : Nat) (l : List T3) : List T3 := (List.range (top + 1)).map (nxT top k a l)
def startT (top x : Nat) (f : Bool) : List T3 := (List.range (top + 1)).map fun j => if f = false ∧ j = x then one3 else zero3
def atT (top k a x : Nat) (f : Bool) : Nat → List T3
 | 0 => startT top x f
 | n + 1 => stepT top k a (atT top k a x f n)
def fulT (top k a x : Nat) (f : Bool) : Nat → T3
 | 0 => if f then one3 else zero3
 | n + 1 => add3 (fulT top k a x f n) ((atT top k a x f n).getD top zero3)
theorem o_11v (top k a x : Nat) (f : Bool) : ∀ n, (atT top k a x f n).length = top + 1
 | 0 => by simp [atT, startT]
 | n + 1 => by simp [atT, stepT]
def eB : Nat → Nat
 | 0 => 1
 | n + 1 => 2 * eB n + 275
theorem o_11w : ∀ n, 1 ≤ eB n
 | 0 => Nat.le_refl _
 | n + 1 => by have := o_11w n; rw [eB]; omega
theorem o_11x {α : Type} (g : Nat → α) (d : α) (n j : Nat) (h : j < n) : ((List.range n).map g).getD j d = g j := by
 rw [List.getD_eq_getElem?_getD, List.getElem?_map, List.getElem?_range h]; rfl
theorem o_11y {k a w E : Nat} (h : GoodS k a w) (hE : 1 ≤ E) (l : List T3) (hl : ∀ j, BT E (l.getD j zero3)) (j : Nat) : BT (E + 135) (baseT (topC w) k a l j) := by
 have h15 : topC w ≤ 15 := by have := Nat.pow_le_pow_right (n := 2) (by omega) h.2.2; unfold topC; omega
 unfold baseT
 split
 ·exact ((hl j).mul ((BT.one (E := 65) (by omega)).add ((o_11u h (by omega)).2.turn))).up (by omega)
 ·exact BT.zero (by omega)
theorem o_11z {k a w E : Nat} (h : GoodS k a w) (hE : 1 ≤ E) (l : List T3) (hl : ∀ j, BT E (l.getD j zero3)) (j : Nat) (hj : j ≤ topC w) : BT (2 * E + 140 + 135) (nxT (topC w) k a l j) := by
 have h15 : topC w ≤ 15 := by have := Nat.pow_le_pow_right (n := 2) (by omega) h.2.2; unfold topC; omega
 have hb := o_11y h hE l hl j
 unfold nxT
 split
 ·exact (hb.add (((hl (j - 1)).mul (o_11u h (show j - 1 ≤ 15 by omega)).2).up (F := E + 135) (by omega))).up (by omega)
 ·exact hb.up (by omega)
end
section
open Go.RowKit
def topI (top : Nat) (k : Nat) : Rat := if k = top then 1 else 0
def fulI (s : St) : Rat := if s.2.2 then 1 else 0
abbrev ofZ (top : Nat) (c : Nat → Rat) (n : Nat) : Sp := ofQ (stepQ top c) (0, 0, false) n
def lostQ (top : Nat) (c : Nat → Rat) : Nat → Rat
 | 0 => 0
 | n + 1 => lostQ top c n + exQ (plQ (topI top)) (ofZ top c n)
structure ValOK (top : Nat) (c V : Nat → Rat) : Prop where
 v0 : V 0 = 0
 step : ∀ k, k < top → c k * (V (k + 1) - V k) = 1
 c0 : ∀ k, k < top → 0 ≤ c k
 c1 : ∀ k, k < top → c k ≤ 1
section
variable {top : Nat} {c V : Nat → Rat}
theorem o_120 (g h : St → Rat) : ∀ l : Sp, exQ (fun t => g t + h t) l = exQ g l + exQ h l
 | [] => by simp only [exQ]; grind
 | p :: l => by simp only [exQ, o_120 g h l]; grind
theorem o_121 (u : Rat) (g : St → Rat) : ∀ l : Sp, exQ (fun t => u * g t) l = u * exQ g l
 | [] => by simp only [exQ]; grind
 | p :: l => by simp only [exQ, o_121 u g l]; grind
end
end
section
open Go.RowKit
theorem o_122 {k a w x : Nat} {f : Bool} (h : GoodS k a w) : ∀ n j, BT (eB n) ((atT (topC w) k a x f n).getD j zero3)
 | 0, j => by
  by_cases hj : j < topC w + 1
  ·rw [atT, startT, o_11x _ _ _ _ hj]
   split
   ·exact BT.one (o_11w 0)
   ·exact BT.zero (o_11w 0)
  ·rw [List.getD_eq_getElem?_getD, List.getElem?_eq_none (by rw [o_11v]; omega)]
   exact BT.zero (o_11w 0)
 | n + 1, j => by
  by_cases hj : j < topC w + 1
  ·rw [atT, stepT, o_11x _ _ _ _ hj]
   exact (o_11z h (o_11w n) _ (o_122 h n) j (by omega)).up (by rw [eB]; omega)
  ·rw [List.getD_eq_getElem?_getD, List.getElem?_eq_none (by rw [o_11v]; omega)]
   exact BT.zero (o_11w _)
theorem o_123 {k a w x : Nat} {f : Bool} (h : GoodS k a w) : ∀ n, BT (eB n) (fulT (topC w) k a x f n)
 | 0 => by
  rw [fulT]; split
  ·exact BT.one (o_11w 0)
  ·exact BT.zero (o_11w 0)
 | n + 1 => by
  rw [fulT]
  exact ((o_123 h n).add (o_122 h n _)).up (by rw [eB]; omega)
theorem eB_le : ∀ n, n ≤ 7 → eB n ≤ 40000 := by decide
def dl (s t : St) : Rat := if t = s then 1 else 0
theorem o_124 {top : Nat} {c : Nat → Rat} {l : Sp} (hu : Uq l) (hok : oklQ top l) (j : Nat) (hj : j ≤ top) : getQ (timesQ (stepQ top c) l) (j, 0, false) = (if j < top then getQ l (j, 0, false) * (1 - c j) else 0) + (if 0 < j then getQ l (j - 1, 0, false) * c (j - 1) else 0) := by
 rw [o_y5 _ _ (o_y9 _ _), o_ya]
 obtain ⟨u, hu'⟩ : ∃ u, u = (if j < top then 1 - c j else 0) := ⟨_, rfl⟩
 obtain ⟨v, hv'⟩ : ∃ v, v = (if 0 < j then c (j - 1) else 0) := ⟨_, rfl⟩
 have e : exQ (fun s => exQ (fun t => if t = (j, 0, false) then (1 : Rat) else 0) (stepQ top c s)) l = exQ (fun t => u * (if t = (j, 0, false) then 1 else 0) + v * (if t = (j - 1, 0, false) then 1 else 0)) l := by
  refine o_11o fun p hp => ?_
  rw [(o_yd _ top c p.1).2]
  obtain ⟨⟨x, b, f⟩, q⟩ := p
  obtain ⟨h1, h2, h3⟩ := (hok _ hp).1
  simp only at h1 h2 h3
  subst h2
  simp only [Prod.mk.injEq, true_and]
  rw [hu', hv']
  by_cases e : x = top
  ·rw [if_pos e]
   have n1 : ¬ (j < top ∧ x = j) := by omega
   by_cases hjt : j < top
   ·rw [if_pos hjt]
    cases f <;> simp [e] <;> (repeat' split) <;> first | omega | grind
   ·rw [if_neg hjt]
    cases f <;> simp [e] <;> (repeat' split) <;> first | omega | grind
  ·rw [if_neg e]
   have hf : f = false := by
    cases f with
    | false => rfl
    | true => exact absurd (h3 rfl) e
   subst hf
   simp only [and_true]
   by_cases e1 : x = j
   ·subst e1
    rw [if_pos (by omega : x < top)]
    by_cases h0 : 0 < x
    ·rw [if_pos h0, if_neg (by omega), if_pos rfl, if_neg (by omega)]; grind
    ·rw [if_neg h0, if_neg (by omega), if_pos rfl]; grind
   ·by_cases e2 : x + 1 = j
    ·rw [if_pos e2, if_neg e1, if_pos (by omega : 0 < j), if_pos (by omega : x = j - 1), show j - 1 = x by omega]; grind
    ·rw [if_neg e2, if_neg e1]
     by_cases h0 : 0 < j
     ·rw [if_pos h0, if_neg (by omega : ¬ x = j - 1)]; grind
     ·rw [if_neg h0]; grind
 rw [e, o_120 (fun t => u * _), o_121, o_121, ← o_y5 _ _ hu, ← o_y5 _ _ hu, hu', hv']
 by_cases h1 : j < top
 ·rw [if_pos h1, if_pos h1]
  by_cases h2 : 0 < j
  ·rw [if_pos h2, if_pos h2]; grind
  ·rw [if_neg h2, if_neg h2]; grind
 ·rw [if_neg h1, if_neg h1]
  by_cases h2 : 0 < j
  ·rw [if_pos h2, if_pos h2]; grind
  ·rw [if_neg h2, if_neg h2]; grind
theorem o_125 {top : Nat} {c : Nat → Rat} {l : Sp} (hu : Uq l) (hok : oklQ top l) : getQ (timesQ (stepQ top c) l) (top, 0, true) = getQ l (top, 0, true) + getQ l (top, 0, false) := by
 rw [o_y5 _ _ (o_y9 _ _), o_ya]
 have e : exQ (fun s => exQ (fun t => if t = (top, 0, true) then (1 : Rat) else 0) (stepQ top c s)) l = exQ (fun t => (if t = (top, 0, true) then 1 else 0) + (if t = (top, 0, false) then 1 else 0)) l := by
  refine o_11o fun p hp => ?_
  rw [(o_yd _ top c p.1).2]
  obtain ⟨⟨x, b, f⟩, q⟩ := p
  obtain ⟨h1, h2, h3⟩ := (hok _ hp).1
  simp only at h1 h2 h3
  subst h2
  simp only [Prod.mk.injEq, true_and]
  by_cases e : x = top
  ·rw [if_pos e]
   cases f <;> simp [e] <;> grind
  ·rw [if_neg e]
   have hf : f = false := by
    cases f with
    | false => rfl
    | true => exact absurd (h3 rfl) e
   subst hf
   simp [e] <;> grind
 rw [e, o_120 (fun t => if t = (top, 0, true) then (1 : Rat) else 0), ← o_y5 _ _ hu, ← o_y5 _ _ hu]
theorem o_126 {k a w x : Nat} {f : Bool} (h : GoodS k a w) (hs : okQ (topC w) (x, 0, f)) : ∀ n, (∀ j, j ≤ topC w → vT ((atT (topC w) k a x f n).getD j zero3) = getQ (dstQ k a w (x, 0, f) n) (j, 0, false)) ∧ vT (fulT (topC w) k a x f n) = getQ (dstQ k a w (x, 0, f) n) (topC w, 0, true)
 | 0 => by
  have hx := hs.1
  have hf := hs.2.2
  simp only at hx hf
  constructor
  ·intro j hj
   rw [atT, startT, o_11x _ _ _ _ (by omega)]
   show _ = getQ [((x, 0, f), 1)] (j, 0, false)
   unfold getQ
   simp only [Prod.mk.injEq, true_and]
   by_cases e : f = false ∧ j = x
   ·rw [if_pos e, if_pos ⟨e.2, e.1.symm⟩, o_11t]
   ·rw [if_neg e, if_neg (fun e' => e ⟨e'.2.symm, e'.1⟩), o_11s]; rfl
  ·show vT (if f then one3 else zero3) = getQ [((x, 0, f), 1)] (topC w, 0, true)
   unfold getQ
   simp only [Prod.mk.injEq, true_and]
   cases f with
   | true => rw [if_pos rfl, if_pos ⟨(hf rfl).symm, rfl⟩, o_11t]
   | false => rw [if_neg (by simp), if_neg (by simp), o_11s]; rfl
 | n + 1 => by
  obtain ⟨i1, i2⟩ := o_126 h hs n
  obtain ⟨c0, c1⟩ := o_111 h
  have h15 : topC w ≤ 15 := by have := Nat.pow_le_pow_right (n := 2) (by omega) h.2.2; unfold topC; omega
  have hb := o_122 (x := x) (f := f) h n
  have hu := o_yb (stepQ (topC w) (chP k a)) (x, 0, f) n
  have hok := o_yl (c := chP k a) c0 c1 hs n
  constructor
  ·intro j hj
   have e := o_124 (c := chP k a) hu hok j hj
   rw [show getQ (dstQ k a w (x, 0, f) (n + 1)) (j, 0, false) = _ from e]
   rw [atT, stepT, o_11x _ _ _ _ (by omega)]
   have hbase : vT (baseT (topC w) k a (atT (topC w) k a x f n) j) = if j < topC w then getQ (dstQ k a w (x, 0, f) n) (j, 0, false) * (1 - chP k a j) else 0 := by
    unfold baseT
    split
    ·have hc := o_11u h (show j ≤ 15 by omega)
     rw [o_11q (hb j) ((BT.one (E := 65) (by omega)).add hc.2.turn), o_11p (BT.one (E := 65) (by omega)) hc.2.turn, o_11r, o_11t, hc.1, i1 j hj]
     grind
    ·exact o_11s
   unfold nxT
   by_cases h0 : 0 < j
   ·have hc := o_11u h (show j - 1 ≤ 15 by omega)
    rw [if_pos h0, if_pos h0, o_11p (o_11y h (o_11w n) _ hb j) ((hb (j - 1)).mul hc.2), o_11q (hb (j - 1)) hc.2, hc.1, i1 (j - 1) (by omega), hbase]
    rfl
   ·rw [if_neg h0, if_neg h0, hbase]
    show _ = (if j < topC w then getQ (dstQ k a w (x, 0, f) n) (j, 0, false) * (1 - chP k a j) else 0) + 0
    grind
  ·have e := o_125 (c := chP k a) hu hok
   rw [show getQ (dstQ k a w (x, 0, f) (n + 1)) (topC w, 0, true) = _ from e]
   rw [fulT, o_11p (o_123 h n) (hb _), i2, i1 _ (Nat.le_refl _)]
   rfl
end
section
open Go.RowKit
theorem o_127 {R c : List V} {o : Nat} (h : o + c.length ≤ R.length) : ((setMany R o c).drop o).take c.length = c := by
 rw [o_l _ _ _ h]
 have h1 : (R.take o).length = o := by rw [List.length_take]; omega
 rw [List.append_assoc, List.drop_append, List.drop_of_length_le (by omega), h1, Nat.sub_self]
 simp
theorem o_128 {R c : List V} {o p n : Nat} (h : o + c.length ≤ R.length) (hd : p + n ≤ o ∨ o + c.length ≤ p) : ((setMany R o c).drop p).take n = (R.drop p).take n := by
 apply List.ext_getElem?
 intro i
 rw [List.getElem?_take, List.getElem?_take]
 split
 ·rename_i hi
  rw [List.getElem?_drop, List.getElem?_drop, o_l _ _ _ h]
  rcases hd with hd | hd
  ·rw [List.append_assoc, List.getElem?_append_left (by rw [List.length_take]; omega), List.getElem?_take, if_pos (by omega)]
  ·rw [List.getElem?_append_right (by simp; omega), List.getElem?_drop]
   congr 1
   simp
   omega
 ·rfl
def qc (t : T3) : List D := [nD t.1, nD t.2.1, nD t.2.2]
def qv (t : T3) : List V := [.d (nD t.1), .d (nD t.2.1), .d (nD t.2.2)]
def rT (l : List T3) : List V := (l.flatMap qc).map .d
theorem o_129 (l : List T3) : (rT l).length = l.length * 3 := by rw [rT, List.length_map, o_wr (n := 3) (f := qc) (fun _ => rfl)]
theorem o_12a (l : List T3) (i : Nat) (h : i < l.length) : ((rT l).drop (i * 3)).take 3 = qv (l.getD i zero3) := by
 rw [rT, ← List.map_drop, ← List.map_take, o_wt (n := 3) (f := qc) (fun _ => rfl) l i h, List.getD_eq_getElem?_getD, List.getElem?_eq_getElem h]
 rfl
def holdT (R : List V) (m : Nat) (g : Nat → T3) (n : Nat) : Prop := R.length = m * 3 ∧ ∀ i, i < n → (R.drop (i * 3)).take 3 = qv (g i)
theorem holdT.set {R : List V} {m n : Nat} {g : Nat → T3} (h : holdT R m g n) (hn : n < m) : holdT (setMany R (n * 3) (qv (g n))) m g (n + 1) := by
 have h3 : (qv (g n)).length = 3 := rfl
 refine ⟨by rw [o_5]; exact h.1, fun i hi => ?_⟩
 by_cases e : i = n
 ·subst e
  exact o_127 (R := R) (c := qv (g i)) (o := i * 3) (by rw [h3, h.1]; omega)
 ·rw [o_128 (o := n * 3) (by rw [h3, h.1]; omega) (.inl (by omega))]
  exact h.2 i (by omega)
theorem holdT.eq {R : List V} {m : Nat} {g : Nat → T3} (h : holdT R m g m) : R = rT ((List.range m).map g) := by
 have hl : ((List.range m).map g).length = m := by simp
 apply List.ext_getElem?
 intro t
 rcases Nat.lt_or_ge t (m * 3) with ht | ht
 ·have hi : t / 3 < m := by omega
  have h1 := h.2 (t / 3) hi
  have h2 := o_12a ((List.range m).map g) (t / 3) (by rw [hl]; exact hi)
  rw [o_11x _ _ _ _ hi, ← h1] at h2
  have h3 := congrArg (fun l => l[t % 3]?) h2
  simp only [List.getElem?_take, List.getElem?_drop] at h3
  rw [if_pos (Nat.mod_lt _ (by decide)), if_pos (Nat.mod_lt _ (by decide)), show t / 3 * 3 + t % 3 = t by omega] at h3
  exact h3.symm
 ·rw [List.getElem?_eq_none (by rw [h.1]; exact ht), List.getElem?_eq_none (by rw [o_129, hl]; exact ht)]
theorem o_12b {R c d : List V} {o : Nat} (h : o + c.length ≤ R.length) (hcd : c.length = d.length) : setMany (setMany R o c) o d = setMany R o d := by
 rw [o_l _ _ _ (by rw [o_5, ← hcd]; exact h), o_l _ _ _ h, o_l d R o (by rw [← hcd]; exact h)]
 have h1 : (R.take o).length = o := by rw [List.length_take]; omega
 congr 1
 ·congr 1
  rw [List.append_assoc, List.take_append_of_le_length (by omega), List.take_of_length_le (by omega)]
 ·rw [← hcd, List.drop_append, List.drop_of_length_le (by simp; omega)]
  simp
  congr 1
  omega
@[simp] theorem o_12c (n : Nat) (t : T3) : V.lowl n (qv t) = true := by simp [qv, V.lowl, V.low]
end
end Go.Proofs.YtmpjlkclkhnpfaaGreatDoor.Am
