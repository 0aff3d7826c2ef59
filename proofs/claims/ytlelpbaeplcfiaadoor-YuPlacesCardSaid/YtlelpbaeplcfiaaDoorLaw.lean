/- Parts of the proof: DecP, YuP, YuB, Float3, Rise1, AmLaw, AmTT, YuQ, YuQL. -/
import Derived.Test.YtlelpbaeplcfiaaDoorPd
set_option linter.unusedVariables false
set_option linter.unusedSimpArgs false
set_option maxRecDepth 100000
namespace Go.Proofs.YtlelpbaeplcfiaaDoor.Am
section
open Go.RowKit
theorem o_k1 {x m : Nat} (h : x < 10000 ^ m) : sizeD x ≤ m := o_12 (o_1i x) (by rwa [o_1g])
theorem o_k2 {n m : Nat} (h : n ≤ m) : sizeD (2 ^ n) ≤ m + 1 := o_k1 (Nat.lt_of_le_of_lt (Nat.pow_le_pow_left (by decide : 2 ≤ 10000) n) (Nat.pow_lt_pow_right (by decide) (by omega)))
theorem o_k3 {m n : Nat} (h : m ≤ n) : cmpZ m n ≤ 0 := by unfold cmpZ; split; decide; split <;> omega
theorem o_k4 (x n : Nat) (hn : n ≤ 100000) (hx : ∀ i, i ≤ n → sizeD (x ^ i) ≤ 100000) (hx1 : sizeD x ≤ 100000) : Eqn Tryd.prog o_9r [.d (nD x), .d (.int .i64 n)] [] (.d (nD (x ^ n))) [] := by
 refine Eqn.pure o_9t Plain.ok ?_
 simp only [o_9s]
 have h1 := o_gz 1 (by decide)
 refine A01 h1 ?_; try with_reducible exact tt
 refine AW.loopT (α := Nat) 0 (fun i => [(5, .d (nD (x ^ i))), (6, .d (.int .i64 (i : Nat)))]) (fun i => []) (fun i => i ≤ n) (fun i => n - i) 0 ?_ ?_ (Nat.zero_le _) ?_ ?_ ?_
 ·simp
 ·simp
 ·simp
 ·simp
 intro i hi
 simp
 by_cases hin : i < n
 ·have hin' : (i : Int) < n := by omega
  have hm := o_jw (x ^ i) x (hx i hi) hx1
  rw [← Nat.pow_succ] at hm
  have xei : IntKind.i64.wrap ((i : Int) + 1) = ((i + 1 : Nat) : Int) := by rw [w64 (by omega) (by omega)]; omega
  obtain ⟨Y, hY⟩ : ∃ Y, Y = x ^ (i + 1) := ⟨_, rfl⟩
  rw [← hY] at hm
  generalize x ^ i = Y0 at *
  refine A11 (fs hin (fs hin' xei)) hm ?_; try with_reducible exact tt
  exact ⟨i + 1, by omega, by omega, Sub1.of (by rw [hY]), Sub1.int (by omega)⟩
 ·have : i = n := by omega
  subst this
  refine A00 ?_; try with_reducible exact tt
theorem o_k5 (a B : Nat) (ha : a < 2 ^ B) (hB : B ≤ 10000) (ha0 : sizeD a ≤ 100000) : Eqn Tryd.prog o_a0 [.d (nD a)] [] (.d (.int .i64 (bitsN a : Nat))) [] := by
 refine Eqn.pure o_a2 Plain.ok ?_
 simp only [o_a1]
 have h1 := o_gz 1 (by decide)
 have hbB := o_ee ha
 refine A01 h1 ?_; try with_reducible exact tt
 refine AW.loopT (α := Nat) 0 (fun i => [(4, .d (nD (2 ^ i))), (3, .d (.int .i64 (i : Nat)))]) (fun i => []) (fun i => i ≤ bitsN a) (fun i => bitsN a - i) 0 ?_ ?_ (Nat.zero_le _) ?_ ?_ ?_
 ·simp
 ·simp
 ·simp
 ·simp
 intro i hi
 simp
 have hs := o_k2 (n := i) (m := B) (by omega)
 have hc := o_h3 (2 ^ i) a (by omega) (by omega)
 have hd := o_h2 (2 ^ i) (2 ^ i) (by omega) (by omega)
 rw [← Nat.two_mul, Nat.mul_comm, ← Nat.pow_succ] at hd
 have xei : IntKind.i64.wrap ((i : Int) + 1) = ((i + 1 : Nat) : Int) := by rw [w64 (by omega) (by omega)]; omega
 by_cases hle : 2 ^ i ≤ a
 ·have hz : cmpZ (2 ^ i) a ≤ 0 := o_k3 hle
  have hlt : i < bitsN a := by
   rcases Nat.lt_or_ge i (bitsN a) with h | h
   ·exact h
   ·have h2 := o_ed a
    have h3 := Nat.pow_le_pow_right (n := 2) (by decide) h
    omega
  obtain ⟨Y, hY⟩ : ∃ Y, Y = 2 ^ (i + 1) := ⟨_, rfl⟩
  rw [← hY] at hd
  generalize 2 ^ i = Y0 at *
  generalize cmpZ Y0 a = z at *
  refine A12 (fs hz xei) hc hd ?_; try with_reducible exact tt
  exact ⟨i + 1, by omega, by omega, Sub1.int (by omega), Sub1.of (by rw [hY])⟩
 ·have hz : ¬ cmpZ (2 ^ i) a ≤ 0 := by unfold cmpZ; rw [if_neg (by omega), if_pos (by omega)]; decide
  have hie : i = bitsN a := by
   have := o_ee (n := a) (k := i) (by omega)
   omega
  generalize 2 ^ i = Y0 at *
  generalize cmpZ Y0 a = z at *
  subst hie
  refine A11 hz hc ?_; try with_reducible exact tt

theorem o_k6 (s t E : Nat) (hs : s ≤ 5) (hE : E ≤ 2000) (ht : t < 2 ^ E) : Eqn Tryd.prog o_9x [.d (.int .i64 s), .d (nD t)] [] (.d (nD (moreY s t))) [] := by
 refine Eqn.pure o_9z Plain.ok ?_
 have h2 := o_gz 2 (by decide)
 have h1 := o_gz 1 (by decide)
 have hp := o_k4 2 s (by omega) (fun i hi => Nat.le_trans (o_k2 (m := 5) (by omega)) (by omega)) (Nat.le_trans (o_k2 (n := 1) (m := 1) (Nat.le_refl _)) (by omega))
 obtain ⟨M, hM⟩ : ∃ M, M = 2000 := ⟨_, rfl⟩
 have hN : t < 10000 ^ M := Nat.lt_of_lt_of_le ht (Nat.le_trans (Nat.pow_le_pow_left (by decide : 2 ≤ 10000) E) (Nat.pow_le_pow_right (by decide) (by omega)))
 have hst := o_k1 hN
 have hdv := o_k0 t (2 ^ s) M (Nat.two_pow_pos s) (by omega) hN (Nat.lt_of_le_of_lt (Nat.pow_le_pow_left (by decide : 2 ≤ 10000) s) (Nat.pow_lt_pow_right (by decide) (by omega)))
 have hq : t / 2 ^ s ≤ t := Nat.div_le_self _ _
 have hsq := o_k1 (Nat.lt_of_le_of_lt hq hN)
 have hsq1 : sizeD (t / 2 ^ s + 1) ≤ M + 1 := o_k1 (Nat.lt_of_le_of_lt (Nat.succ_le_of_lt (Nat.lt_of_le_of_lt hq hN)) (Nat.pow_lt_pow_right (by decide) (by omega)))
 have ha1 := o_h2 (t / 2 ^ s) 1 (by omega) (Nat.le_trans (o_k2 (n := 0) (m := 1) (by omega)) (by omega))
 have ha2 := o_h2 t (t / 2 ^ s + 1) (by omega) (by omega)
 have ha3 := o_h2 t (t / 2 ^ s) (by omega) (by omega)
 have hm : (t / 2 ^ s * 2 ^ s < t) ↔ t % 2 ^ s ≠ 0 := by
  have := Nat.div_add_mod t (2 ^ s)
  rw [Nat.mul_comm] at this
  omega
 have hmr : moreY s t = t + (if t % 2 ^ s ≠ 0 then t / 2 ^ s + 1 else t / 2 ^ s) := by
  unfold moreY
  by_cases h : t % 2 ^ s ≠ 0
  ·rw [if_pos h, if_pos (hm.2 h)]
  ·rw [if_neg h, if_neg (fun k => h (hm.1 k))]
 simp only [o_9y]
 rw [hmr]
 clear hmr hm hN ht hst hsq hsq1
 by_cases h : t % 2 ^ s = 0
 ·rw [if_neg (by simp [h])]
  rw [h] at hdv
  generalize 2 ^ s = u at *
  generalize t / u = q at *
  have e : nD 0 = .sl 0 [] := rfl
  rw [e] at hdv
  refine A04 h2 hp hdv ha3 ?_; try with_reducible exact tt
 ·rw [if_pos h]
  generalize 2 ^ s = u at *
  generalize t % u = m at *
  generalize t / u = q at *
  have hL : 0 < sizeD m := by
   rcases Nat.eq_zero_or_pos (sizeD m) with h5 | h5
   ·exact absurd (o_1k.1 (List.eq_nil_of_length_eq_zero h5)) h
   ·exact h5
  obtain ⟨z, DS, hz⟩ : ∃ z DS, nD m = .sl z DS ∧ 0 < z := ⟨_, _, rfl, hL⟩
  rw [hz.1] at hdv
  have hz2 := hz.2
  have hz3 : (0 : Int) < z := by omega
  refine A13 (fs hz2 hz3) h2 hp hdv ?_; try with_reducible exact tt
  refine A03 h1 ha1 ha2 ?_; try with_reducible exact tt
end
end Go.Proofs.YtlelpbaeplcfiaaDoor.Am
namespace Go.Proofs.YtlelpbaeplcfiaaDoor.Am
section
open Go.RowKit
def plR (p : Pl) : List V := [.d (.int .i64 p.x), .d (.int .i64 p.shift), .d (.sl (sizeD p.value) (dsD (decs p.value))), .d (.sl (sizeD p.reply) (dsD (decs p.reply)))]
theorem o_k7 {s k : Nat} (h1 : 1 ≤ s) (h5 : s ≤ 5) (hk : k ≤ 1023) : (placeY s k).reply < 2 ^ 1100 ∧ (placeY s k).value < 2 ^ 1100 ∧ (placeY s k).shift ≤ 1100 ∧ (placeY s k).x ≤ 1023 := by
 obtain ⟨a1, a2, a3, a4, a5⟩ := o_ei h1 k
 obtain ⟨E, hE⟩ : ∃ E, E = 1100 := ⟨_, rfl⟩
 rw [← hE]
 have e4 : (2 : Nat) ^ (2 * s + k) < 2 ^ E := Nat.pow_lt_pow_right (by decide) (by omega)
 have e2 : k * 2 ^ (2 * s + k) < 2 ^ 10 * 2 ^ (2 * s + k) := Nat.mul_lt_mul_of_pos_right (by omega) (Nat.two_pow_pos _)
 rw [← Nat.pow_add] at e2
 have e3 : (2 : Nat) ^ (10 + (2 * s + k)) < 2 ^ E := Nat.pow_lt_pow_right (by decide) (by omega)
 refine ⟨Nat.lt_of_le_of_lt a2 e4, Nat.lt_of_le_of_lt a4 (Nat.lt_trans e2 e3), by omega, by omega⟩
theorem o_k8 {x n m : Nat} (h : x < 2 ^ n) (hm : n ≤ m) : sizeD x ≤ m := o_k1 (Nat.lt_of_lt_of_le h (Nat.le_trans (Nat.pow_le_pow_left (by decide : 2 ≤ 10000) n) (Nat.pow_le_pow_right (by decide) hm)))
set_option maxHeartbeats 4000000 in
theorem o_k9 (s k : Nat) (s1 : 1 ≤ s) (s5 : s ≤ 5) (hk : k ≤ 1023) : Eqn Tryd.prog o_86 [.d (.int .i64 s), .d (.int .i64 k)] [] (.d (.agg [.int .i64 (placeY s k).x, .int .i64 (placeY s k).shift, nD (placeY s k).value, nD (placeY s k).reply])) [] := by
 refine Eqn.pure o_88 Plain.ok ?_
 have h4 := o_gz 4 (by decide)
 have h2 := o_gz 2 (by decide)
 have hp4 := o_k4 4 s (by omega) (fun i hi => o_k8 (n := 2 * i + 1) (by rw [show (4 : Nat) = 2 ^ 2 from rfl, ← Nat.pow_mul]; exact Nat.pow_lt_pow_right (by decide) (by omega)) (by omega)) (o_k8 (n := 3) (by decide) (by omega))
 rw [show 4 ^ s = 2 ^ (2 * s) by rw [show (4 : Nat) = 2 ^ 2 from rfl, ← Nat.pow_mul]] at hp4
 simp only [o_87]
 simp only [nD] at h4 h2 hp4 ⊢
 refine A02 h4 hp4 ?_; try with_reducible exact tt
 refine AW.loopT (α := Nat) 2 (fun i => [(6, .d (.int .i64 (i : Nat)))]) (fun i => [(1, ⟨55, plR (placeY s i)⟩)]) (fun i => i ≤ k) (fun i => k - i) 0 ?_ ?_ (Nat.zero_le _) ?_ ?_ ?_
 ·simp
 ·simp
 ·simp
 ·simp [plR, placeY]
  exact Subs.cons (Sub1.refl _) (Subs.cons (Sub1.refl _) (Subs.cons Sub1.nil (Subs.refl _)))
 intro i hi
 obtain ⟨b1, b2, b3, b4⟩ := o_k7 (k := i) s1 s5 (by omega)
 simp only [plR]
 simp
 by_cases hin : i < k
 ·have hin' : (i : Int) < k := by omega
  have xei : IntKind.i64.wrap ((i : Int) + 1) = ((i + 1 : Nat) : Int) := by rw [w64 (by omega) (by omega)]; omega
  obtain ⟨c1, c2, c3, c4⟩ := o_k7 (k := i + 1) s1 s5 (by omega)
  have hnx : placeY s (i + 1) = nextY s (placeY s i) := rfl
  obtain ⟨q, hq⟩ : ∃ q, q = placeY s (i + 1) := ⟨_, rfl⟩
  rw [← hq] at c1 c2 c3 c4 hnx
  have hqq := hq
  generalize placeY s i = p at *
  obtain ⟨px, ps, pv, pr⟩ := p
  simp only at b1 b2 b3 b4
  have hp2 := o_k4 2 ps (by omega) (fun i hi => o_k8 (n := i + 1) (Nat.pow_lt_pow_right (by decide) (by omega)) (by omega)) (o_k8 (n := 3) (by decide) (by omega))
  have z1 := o_k8 b1 (m := 2000) (by omega)
  have z2 := o_k8 b2 (m := 2000) (by omega)
  have z3 := o_k8 (x := 2 ^ ps) (n := ps + 1) (m := 2000) (Nat.pow_lt_pow_right (by decide) (by omega)) (by omega)
  have had := o_h2 pv (2 ^ ps) (by omega) (by omega)
  have hqv : q.value = pv + 2 ^ ps := by rw [hnx, nextY]; split <;> rfl
  rw [← hqv] at had
  have z4 := o_k8 c2 (m := 2000) (by omega)
  have hcm := o_h3 q.value pr (by omega) (by omega)
  by_cases hge : pr ≤ q.value
  ·have hqe : q = ⟨px + 1, shiftY s (moreY s pr), q.value, moreY s pr⟩ := by
    have : nextY s ⟨px, ps, pv, pr⟩ = ⟨px + 1, shiftY s (moreY s pr), pv + 2 ^ ps, moreY s pr⟩ := by
     rw [nextY, if_pos (by rw [hqv] at hge; exact hge)]
    rw [hnx, this]
   have hz : 0 ≤ cmpZ q.value pr := by unfold cmpZ; rw [if_neg (by omega)]; split <;> decide
   have hqr : q.reply = moreY s pr := by rw [hqe]
   have hmr := o_k6 s pr 1100 s5 (by omega) b1
   have hbt := o_k5 (moreY s pr) 1100 (by rw [← hqr]; exact c1) (by omega) (by rw [← hqr]; exact o_k8 c1 (by omega))
   have hsh : q.shift = shiftY s (moreY s pr) := by rw [hqe]
   have hqx : q.x = px + 1 := by rw [hqe]
   unfold shiftY at hsh
   rw [← hqr] at hmr hbt hsh
   have hbl := o_ee c1
   clear hnx hqe hqr hp2
   have hp2 := o_k4 2 ps (by omega) (fun i hi => o_k8 (n := i + 1) (Nat.pow_lt_pow_right (by decide) (by omega)) (by omega)) (o_k8 (n := 3) (by decide) (by omega))
   generalize bitsN q.reply = B at *
   have xpx : IntKind.i64.wrap ((px : Int) + 1) = (q.x : Nat) := by rw [w64 (by omega) (by omega)]; omega
   have xb1 : IntKind.i64.wrap ((B : Int) - 1) = (B : Int) - 1 := w64 (by omega) (by omega)
   have x2s : IntKind.i64.wrap (2 * (s : Int)) = 2 * (s : Int) := w64 (by omega) (by omega)
   have xb2 : IntKind.i64.wrap ((B : Int) - 1 - 2 * (s : Int)) = (B : Int) - 1 - 2 * (s : Int) := w64 (by omega) (by omega)
   simp only [nD] at had hcm hmr hbt hp2
   clear b1 b2 c1 c2 z1 z2 z3 z4 hqv
   generalize 2 ^ ps = u at *
   generalize cmpZ q.value pr = z at *
   by_cases hneg : (B : Int) - 1 - 2 * (s : Int) < 0
   ·have hq0 : q.shift = 0 := by omega
    refine A16 (fs hin (fs hin' (fs hz (fs xpx (fs xb1 (fs x2s (fs xb2 (fs hneg xei)))))))) h2 hp2 had hcm hmr hbt ?_; try with_reducible exact tt
    exact ⟨i + 1, by omega, by omega, Sub1.int (by omega), by rw [← hqq, hq0]; exact Subs.refl _⟩
   ·have hq0 : (B : Int) - 1 - 2 * (s : Int) = (q.shift : Nat) := by omega
    replace xb2 := xb2.trans hq0
    rw [hq0] at hneg
    refine A16 (fs hin (fs hin' (fs hz (fs xpx (fs xb1 (fs x2s (fs xb2 (fs hneg xei)))))))) h2 hp2 had hcm hmr hbt ?_; try with_reducible exact tt
    exact ⟨i + 1, by omega, by omega, Sub1.int (by omega), by rw [← hqq]; exact Subs.refl _⟩
  ·have hqe : q = ⟨px, ps, q.value, pr⟩ := by
    have : nextY s ⟨px, ps, pv, pr⟩ = ⟨px, ps, pv + 2 ^ ps, pr⟩ := by
     rw [nextY, if_neg (by rw [hqv] at hge; exact hge)]
    rw [hqv, hnx, this]
   have hz : ¬ 0 ≤ cmpZ q.value pr := by unfold cmpZ; rw [if_pos (by omega)]; decide
   have hqx : q.x = px := by rw [hqe]
   have hqs : q.shift = ps := by rw [hqe]
   have hqr : q.reply = pr := by rw [hqe]
   simp only [nD] at had hcm hp2
   clear b1 b2 c1 c2 z1 z2 z3 z4 hqv hnx hqe
   generalize 2 ^ ps = u at *
   generalize cmpZ q.value pr = z at *
   refine A14 (fs hin (fs hin' (fs hz xei))) h2 hp2 had hcm ?_; try with_reducible exact tt
   exact ⟨i + 1, by omega, by omega, Sub1.int (by omega), by rw [← hqq, hqx, hqs, hqr]; exact Subs.refl _⟩
 ·have : i = k := by omega
  subst this
  refine A00 ?_; try with_reducible exact tt
end
end Go.Proofs.YtlelpbaeplcfiaaDoor.Am
namespace Go.Proofs.YtlelpbaeplcfiaaDoor.Am
section
open Go.RowKit
def lowJ (k n : Nat) : Nat := if n = 0 then k else k + 1 - n
def iI (j n : Nat) : Int := (j : Int) - n
end
end Go.Proofs.YtlelpbaeplcfiaaDoor.Am
namespace Go.Proofs.YtlelpbaeplcfiaaDoor.Am
section
open Go.RowKit
end
end Go.Proofs.YtlelpbaeplcfiaaDoor.Am
namespace Go.Proofs.YtlelpbaeplcfiaaDoor.Am
section
open Go.RowKit
theorem o_ka (a b : Nat) (ha : size a ≤ 1000000) (hb : size b ≤ 1000000) : Eqn Tryd.prog o_9c [.d (.agg [natW a, .bool false]), .d (.agg [natW b, .bool false])] [] (.d (.agg [natW (a * b), .bool false])) [] := by
 refine Eqn.pure o_9e (o_5k _) ?_
 simp only [o_9d]
 refine G0 ?_; try with_reducible exact tt
 refine CallS.pu (o_in a b ha hb) (R0 ?_); try with_reducible exact tt
 refine CallS.pu (o_dx (a * b)) (R0 ?_); try with_reducible exact tt

theorem o_kb (a b : Nat) (ha : size a ≤ 1000000) (hb : size b ≤ 1000000) : Eqn Tryd.prog o_99 [.d (.agg [natW a, .bool false]), .d (.agg [natW b, .bool false])] [] (.d (.int .i64 (cmpZ a b))) [] := by
 refine Eqn.pure o_9b (o_5k _) ?_
 simp only [o_9a]
 refine G0 ?_; try with_reducible exact tt
 refine AW.cond rfl (fun h => ?_) (fun h => ?_)
 ·simp at h
 refine G0 ?_; try with_reducible exact tt
 refine AW.cond rfl (fun h => ?_) (fun h => ?_)
 ·simp at h
 refine G0 ?_; try with_reducible exact tt
 refine AW.cond rfl (fun h => ?_) (fun h => ?_)
 ·simp at h
 refine G0 ?_; try with_reducible exact tt
 refine CallS.pu (o_cz a b ha hb) (R0 ?_); try with_reducible exact tt

theorem o_kc (a d : Nat) (h : size d ≤ 1000000) : Eqn Tryd.prog o_9f [.d (.agg [natW a, .bool false, natW d])] [] (.d (.agg [natW (d + 1), .bool false])) [] := by
 refine Eqn.pure o_9h (o_5k _) ?_
 simp only [o_9g]
 refine G0 ?_; try with_reducible exact tt
 refine CallS.pu (o_e1 a d false h) (R0 ?_); try with_reducible exact tt
 refine CallS.pu (o_dx (d + 1)) (R0 ?_); try with_reducible exact tt

theorem o_kd (a b : Nat) (ha : size a ≤ 1000) (hb : size b ≤ 1000) (ha' : size (a + 1) ≤ 1000) (hb' : size (b + 1) ≤ 1000) :
  Eqn Tryd.prog o_7r [.d (.agg [natW 1, .bool false, natW a]), .d (.agg [natW 1, .bool false, natW b])] [] (.d (.int .i64 (cmpZ (b + 1) (a + 1)))) [] := by
 refine Eqn.pure o_7t (o_5k _) ?_
 simp only [o_7s]
 have s1 : size 1 ≤ 1 := o_dw (by omega)
 have h1 := o_ka 1 (b + 1) (by omega) (by omega)
 have h2 := o_ka 1 (a + 1) (by omega) (by omega)
 rw [Nat.one_mul] at h1 h2
 refine G0 ?_; try with_reducible exact tt
 refine CallS.pu (o_kc 1 b (by omega)) (R0 ?_); try with_reducible exact tt
 refine CallS.pu (h1) (R0 ?_); try with_reducible exact tt
 refine CallS.pu (o_kc 1 a (by omega)) (R0 ?_); try with_reducible exact tt
 refine CallS.pu (h2) (R0 ?_); try with_reducible exact tt
 refine CallS.pu (o_kb (b + 1) (a + 1) (by omega) (by omega)) (R0 ?_); try with_reducible exact tt
end
end Go.Proofs.YtlelpbaeplcfiaaDoor.Am
namespace Go.Proofs.YtlelpbaeplcfiaaDoor.Am
section
open Go.RowKit

theorem o_ke {P : Program} {f : FuncId} {c : C} {rs : List RV} {nt : Nat} (hf : fnOf P f = some (c, rs, nt, false)) (vs : Array Value) (w : World) : (callFunc f vs).run P w = .ok (.enter f vs) w := by
 unfold fnOf at hf
 split at hf
 ·rename_i fn hfn
  split at hf
  ·rename_i b hb
   simp only [Option.some.injEq, Prod.mk.injEq] at hf
   obtain ⟨h1, h2, h3, h4⟩ := hf
   have h1 : ¬ fn.name = "runtime.NumGoroutine" := by simpa using h4
   simp [callFunc, hfn, h1, hb]
  ·cases hf
 ·cases hf

abbrev memW (W : World) : Mem := ⟨fun _ => none, fun b => b < W.heap.size, W⟩

theorem o_kf {P : Program} {f : FuncId} {args : List V} {c : C} {rs : List RV} {nt : Nat} (hf : fnOf P f = some (c, rs, nt, false)) (E : Eqn P f args [] (.d (.bool true)) []) {W : World} {vs : List Value} (h : V.reps (memW W) args vs) (ht : Tabs (memW W)) :
  Calls P f vs.toArray W (fun e W' => e = .returned (.bool true) ∧ Same W W') := by
 rcases E.run (memW W) vs ⟨fun b h => h, fun n b h => (by cases h), ht⟩ h (by simp) (fun n i b h => by simp at h) (fun _ _ => rfl) with ⟨v, h1, _⟩ | ⟨_, h2⟩
 ·rw [o_ke hf] at h1; cases h1
 ·refine h2.mono ?_
  rintro e w' ⟨v, m', rfl, rfl, hE⟩
  have hv := hE.rep
  rw [V.rep_d] at hv
  unfold D.rep at hv
  subst hv
  exact ⟨rfl, hE.le.os, hE.le.tape, hE.le.output, hE.le.size, fun k hk _ => hE.le.imm k hk⟩

theorem reps_of {I : Nat → Prop} {w : World} {α : Type} (f : α → D) (g : α → Value) (h : ∀ a, D.rep I w (f a) (g a)) : ∀ l : List α, D.reps I w (l.map f) (l.map g)
 | [] => by simp
 | a :: l => by
  rw [List.map_cons, List.map_cons, D.reps_cons]
  exact ⟨h a, reps_of f g h l⟩
end
end Go.Proofs.YtlelpbaeplcfiaaDoor.Am
namespace Go.Proofs.YtlelpbaeplcfiaaDoor.Am
section
open Go.RowKit
theorem o_kg {W : World} {g0 : Nat} {zs : List Int} (ht : ∀ g l, tab g = some l → g = g0 ∧ l = zs.map fun z : Int => D.int .u64 z) (hlt : g0 < W.heap.size) (hc : ∀ (i : Nat) u, (zs.map (Value.int .u64))[i]? = some u → W.cell? ⟨g0, i, none⟩ = some u) : Tabs (memW W) := by
 intro g l hg
 obtain ⟨rfl, rfl⟩ := ht g l hg
 unfold D.rep
 refine ⟨g, 0, rfl, hlt, zs.map (Value.int .u64), fun u hu => ?_, reps_of (fun z : Int => D.int .u64 z) (Value.int .u64) (fun _ => by unfold D.rep; rfl) zs, fun i u hu => ?_⟩
 ·obtain ⟨z, -, rfl⟩ := List.mem_map.1 hu
  rfl
 ·rw [Nat.zero_add]; exact hc i u hu
end
end Go.Proofs.YtlelpbaeplcfiaaDoor.Am
namespace Go.Proofs.YtlelpbaeplcfiaaDoor.Am
section
open Go.RowKit
theorem o_kh (n : Nat) (hn : size n ≤ 1000) (hd : sizeD n ≤ 10000) : Eqn Tryd.prog o_7u [.d (.agg [natW n]), .d (nD n)] [] (.d (.bool true)) [] := by
 refine Eqn.pure o_7w Plain.ok ?_
 simp only [o_7v]
 have h1 := o_jg n hn
 have h2 := o_jr n hd
 refine A02 h1 h2 ?_; try with_reducible exact tt
theorem o_ki (n : Nat) (h : size n ≤ 1000) : Eqn Tryd.prog o_8x [.d (.agg [natW n, .bool false])] [] (.d (.str (txt n))) [] := by
 refine Eqn.pure o_8z (o_5k _) ?_
 simp only [o_8y]
 have h1 := o_jg n h
 refine A01 h1 ?_; try with_reducible exact tt
theorem o_kj (n : Nat) (h : size n ≤ 1000) : Eqn Tryd.prog o_7i [.d (.agg [natW n, .bool false, natW 0])] [] (.d (.str (txt n))) [] := by
 refine Eqn.pure o_7k (o_5k _) ?_
 simp only [o_7j]
 have h1 := o_e2 n 0 false
 have h2 := o_ki n h
 refine A02 h1 h2 ?_; try with_reducible exact tt
def chD (s k : Int) : D := if atE s k = 0 then .agg [natW 1, .bool false, natW (2 ^ (atP s k).shift - 1)] else .agg [natW 0, .bool false, natW 0]
theorem o_kk (s k : Int) : Eqn Tryd.prog o_7x [.d (.int .i64 s), .d (.int .i64 k)] [] (.tup [.d (chD s k), .d (.int .i64 (atE s k))]) [] := by
 refine Eqn.pure o_7z (o_db _ _) ?_
 simp only [o_7y]
 have ha := o_fw s k
 by_cases hw : atE s k = 0
 ·have hsh := o_g5 hw
  rw [chD, if_pos hw, hw]
  rw [hw] at ha
  generalize atP s k = p at *
  obtain ⟨px, ps, pv, pr⟩ := p
  simp only [plD] at ha hsh ⊢
  have hh := o_ix ps hsh
  generalize 2 ^ ps - 1 = u at *
  refine A02 ha hh ?_; try with_reducible exact tt
 ·rw [chD, if_neg hw]
  generalize atP s k = p at *
  obtain ⟨px, ps, pv, pr⟩ := p
  simp only [plD] at ha ⊢
  refine A11 hw ha ?_; try with_reducible exact tt
  exact Sub1.tup (Subs.cons (Sub1.aggd (Subs.cons Sub1.nil (Subs.cons (Sub1.refl _) (Subs.cons Sub1.nil (Subs.refl _))))) (Subs.refl _))
theorem o_kl (s : Int) : (atE s 0 == 0) = decide (1 ≤ s ∧ s ≤ 5) := by
 unfold atE
 by_cases h : 1 ≤ s ∧ s ≤ 5
 ·simp [h]
 ·rw [if_neg h]; simp [h]
theorem o_km (s : Nat) (q : Pl) : (q.reply ≤ q.value + 2 ^ q.shift ∧ (nextY s q).x = q.x + 1 ∧ (nextY s q).value = q.value + 2 ^ q.shift) ∨ (¬ q.reply ≤ q.value + 2 ^ q.shift ∧ (nextY s q).x = q.x ∧ (nextY s q).value = q.value + 2 ^ q.shift) := by
 unfold nextY
 split
 ·exact .inl ⟨‹_›, rfl, rfl⟩
 ·exact .inr ⟨‹_›, rfl, rfl⟩
set_option maxHeartbeats 8000000 in
theorem o_kn (s k : Int) : Eqn Tryd.prog o_6u [.d (.int .i64 s), .d (.int .i64 k)] [] (.d (.bool true)) [] := by
 refine Eqn.pure o_6w (o_5k _) ?_
 simp only [o_6v]
 have hlaw := o_fx
 have ha := o_fw s k
 have hc := o_kk s k
 have hg := o_f5 s
 have hw0 := o_g3 s 0
 have hw := o_g3 s k
 have hgw := o_kl s
 generalize decide (1 ≤ s ∧ s ≤ 5) = gd at *
 generalize atE s 0 = E0 at *
 by_cases hE : atE s k = 0
 ·have hz := o_g4 hE
  rw [chD, if_pos hE] at hc
  rw [hE] at ha hc hw
  rw [atP, if_pos hE] at ha hc
  obtain ⟨S, hS⟩ : ∃ S : Nat, s = S := ⟨s.toNat, by omega⟩
  obtain ⟨K, hK⟩ : ∃ K : Nat, k = K := ⟨k.toNat, by omega⟩
  subst hS
  subst hK
  rw [Int.toNat_natCast, Int.toNat_natCast] at ha hc
  have hS1 : 1 ≤ S := by omega
  have hS5 : S ≤ 5 := by omega
  have hKm : K ≤ 1023 := by omega
  obtain ⟨z1, z2, z3, z4⟩ := o_fn hS1 hS5 (k := K) (by omega)
  clear hE hz
  obtain ⟨p, hp⟩ : ∃ p, p = placeY S K := ⟨_, rfl⟩
  rw [← hp] at ha hc z1 z2 z3 z4
  have hp' := hp
  obtain ⟨px, ps, pv, pr⟩ := p
  simp only [plD] at ha hc z1 z2 z3 z4
  have hh := o_ix ps z2
  have y1 := o_iw ps z2
  have y0 : size (2 ^ ps - 1) ≤ 129 := Nat.le_trans (o_dg (Nat.sub_le _ _)) y1
  have hcr := o_kd (2 ^ ps - 1) (2 ^ ps - 1) (by omega) (by omega) (by rw [Nat.sub_add_cancel (Nat.one_le_two_pow)]; omega) (by rw [Nat.sub_add_cancel (Nat.one_le_two_pow)]; omega)
  rw [show cmpZ (2 ^ ps - 1 + 1) (2 ^ ps - 1 + 1) = 0 by unfold cmpZ; simp] at hcr
  generalize 2 ^ ps - 1 = u at *
  by_cases h90 : 90 < K
  ·have h90' : (90 : Int) < K := by omega
   obtain ⟨J, hJ⟩ : ∃ J, K = J + 1 := ⟨K - 1, by omega⟩
   have xk : IntKind.i64.wrap ((K : Int) - 1) = J := by rw [w64 (by omega) (by omega)]; omega
   have ha2 := o_fv S J hS1 hS5 (by omega)
   obtain ⟨w1, w2, w3, w4⟩ := o_fn hS1 hS5 (k := J) (by omega)
   have hri := (o_g2 (s := S) (k := J) hS1).2.1
   have hnx : placeY S (J + 1) = nextY S (placeY S J) := rfl
   rw [hJ] at hp
   have hcs := o_km S (placeY S J)
   rw [← hnx, ← hp] at hcs
   rw [← hp] at hri
   generalize placeY S J = q at *
   obtain ⟨qx, qs, qv, qr⟩ := q
   simp only [plD] at ha2 w1 w2 w3 w4 hri hcs
   have hof := o_cw [1] (o_ds (by omega)) (by simp)
   rw [show wval [1] = 1 by simp [wval]] at hof
   simp only [W, List.length_cons, List.length_nil, List.map_cons, List.map_nil] at hof
   have hsl := o_dq 1 qs (by rw [show size 1 = 1 from rfl]; omega) w2
   rw [Nat.one_mul] at hsl
   have y3 := o_iw qs w2
   have had := o_dd qv (2 ^ qs) (by omega) (by omega)
   have hpv : pv = qv + 2 ^ qs := by rcases hcs with ⟨-, -, h⟩ | ⟨-, -, h⟩ <;> exact h
   rw [← hpv] at had
   have hc0 := o_cz pv pv (by omega) (by omega)
   rw [show cmpZ pv pv = 0 by unfold cmpZ; simp] at hc0
   have hc1 := o_cz pv qr (by omega) (by omega)
   have xn : IntKind.i64.wrap ((px : Int) - qx) = (px : Int) - qx := w64 (by omega) (by omega)
   have hri' : (qs : Int) ≤ ps := by omega
   rw [← hpv] at hcs
   generalize 2 ^ qs = u2 at *
   clear hp hp' hnx hJ hpv
   rcases hcs with ⟨k1, k2, -⟩ | ⟨k1, k2, -⟩
   ·have kz : 0 ≤ cmpZ pv qr := by unfold cmpZ; rw [if_neg (by omega)]; split <;> decide
    have kx : (px : Int) - qx = 1 := by omega
    generalize cmpZ pv qr = z at *
    replace xn := xn.trans kx
    refine A18 (fs hgw (fs h90 (fs h90' xk))) hlaw ha hc hg hw0 hw hh hcr ?_; try with_reducible exact tt
    refine A01 ha2 ?_; try with_reducible exact tt
    refine CallS.gf 4 1 ⟨34, [.d (.int .u64 1)]⟩ [.int .u64 1] [] (hof) (R0 ?_); try with_reducible exact tt
    refine CallS.pu (hsl) (R1 xn ?_); try with_reducible exact tt
    refine A10 xn ?_; try with_reducible exact tt
    refine CallS.pu (had) (R1 (fs xn (fs kz (fs hri hri'))) ?_); try with_reducible exact tt
    refine CallS.pu (hc0) (R1 (fs xn (fs kz (fs hri hri'))) ?_); try with_reducible exact tt
    refine CallS.pu (hc1) (R1 (fs xn (fs kz (fs hri hri'))) ?_); try with_reducible exact tt
   ·have kz : ¬ 0 ≤ cmpZ pv qr := by unfold cmpZ; rw [if_pos (by omega)]; decide
    have kx : (px : Int) - qx = 0 := by omega
    generalize cmpZ pv qr = z at *
    replace xn := xn.trans kx
    refine A18 (fs hgw (fs h90 (fs h90' xk))) hlaw ha hc hg hw0 hw hh hcr ?_; try with_reducible exact tt
    refine A01 ha2 ?_; try with_reducible exact tt
    refine CallS.gf 4 1 ⟨34, [.d (.int .u64 1)]⟩ [.int .u64 1] [] (hof) (R0 ?_); try with_reducible exact tt
    refine CallS.pu (hsl) (R1 xn ?_); try with_reducible exact tt
    refine A10 xn ?_; try with_reducible exact tt
    refine CallS.pu (had) (R1 (fs xn (fs kz (fs hri hri'))) ?_); try with_reducible exact tt
    refine CallS.pu (hc0) (R1 (fs xn (fs kz (fs hri hri'))) ?_); try with_reducible exact tt
    refine CallS.pu (hc1) (R1 (fs xn (fs kz (fs hri hri'))) ?_); try with_reducible exact tt
  ·have h90' : ¬ (90 : Int) < K := by omega
   have hra := o_k9 S K hS1 hS5 hKm
   obtain ⟨b1, b2, -, -⟩ := o_k7 (k := K) hS1 hS5 hKm
   rw [← hp] at hra b1 b2
   simp only at hra b1 b2
   have hi1 := o_kh pv (by omega) (Nat.le_trans (o_k8 b2 (m := 2000) (by omega)) (by omega))
   have hi2 := o_kh pr (by omega) (Nat.le_trans (o_k8 b1 (m := 2000) (by omega)) (by omega))
   simp only [nD] at hra hi1 hi2
   clear hp hp' b1 b2
   refine A18 (fs hgw (fs h90 h90')) hlaw ha hc hg hw0 hw hh hcr ?_; try with_reducible exact tt
   refine A03 hra hi1 hi2 ?_; try with_reducible exact tt
   done
 ·rw [chD, if_neg hE] at hc
  rw [atP, if_neg hE] at ha
  have hr := o_kj 0 (by decide)
  rw [o_jb] at hr
  have hz0 := o_cx 0
  simp only [plD] at ha
  generalize atE s k = e at *
  refine A18 (fs hgw hE) hlaw ha hc hg hw0 hw hr hz0 ?_; try with_reducible exact tt
  done
end
end Go.Proofs.YtlelpbaeplcfiaaDoor.Am
namespace Go.Proofs.YtlelpbaeplcfiaaDoor.Am
section
open Go.RowKit

theorem tabsIn {W : World} {g0 : Nat} {zs : List Int} (ht : ∀ g l, tab g = some l → g = g0 ∧ l = zs.map fun z : Int => D.int .u64 z) (hlt : g0 < W.heap.size) (hc : ∀ (i : Nat) u, (zs.map (Value.int .u64))[i]? = some u → W.cell? ⟨g0, i, none⟩ = some u) : Tabs (memW W) := o_kg ht hlt hc
theorem tabAll : ∀ g l, tab g = some l → g = 2 ∧ l = ([1, 10, 100, 1000, 10000, 100000, 1000000, 10000000, 100000000, 1000000000, 10000000000, 100000000000, 1000000000000, 10000000000000, 100000000000000, 1000000000000000, 10000000000000000, 100000000000000000, 1000000000000000000, 10000000000000000000] : List Int).map fun z : Int => D.int .u64 z := by
 intro g l h
 unfold tab at h
 split at h
 ·cases h
  exact ⟨‹_›, rfl⟩
 ·cases h
theorem yp_walk {W : World} (ht : Tabs (memW W)) {s k : Int} : Calls Tryd.prog o_6u #[.int .i64 s, .int .i64 k] W (fun e W' => e = .returned (.bool true) ∧ Same W W') :=
 o_kf o_6w (o_kn s k) (V.reps_cons.2 ⟨V.rep_int.2 rfl, V.reps_cons.2 ⟨V.rep_int.2 rfl, V.reps_nil.2 rfl⟩⟩) ht
end
end Go.Proofs.YtlelpbaeplcfiaaDoor.Am
