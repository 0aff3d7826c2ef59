/- Parts of the proof: RatQ, Rat4, Rat5, Pow1, Tape1, Float1, Flip1, Flip2, Morris1, Pow2, DecM, Chain1, Yu1, YuX, YuW, YuAt, YuAt2, Yu2, Float2, Yu3, Chain2, Chain3, Chain4, Chain5, Chain6, ChainP, Chain7, Chain8, ChainA, ChainM, ChainB, ChainC, ChainD, ChainE, Chain9, ChainF, ThinM, Thin1, Thin2, Thin3, Reg1, BitsM, Bits1, Bits2, Bits3, Reg2, Reg3, Reg4, PackM, Pack1, Pack2, Carr1, Carr2, Carr3, Carr6, AmUn, Cms1, Dec1, Dec2, Dec3, Dec4, Dec5, HashM, Dec6. -/
import Derived.Test.YtmpjlkclkhnpfaaGreatDoorPe
set_option linter.unusedVariables false
set_option linter.unusedSimpArgs false
set_option maxRecDepth 100000
namespace Go.Proofs.YtmpjlkclkhnpfaaGreatDoor.Am
section
theorem o_qm (z : Int) (d : Nat) (hd : 0 < d) : (mkRat z d).num.natAbs = z.natAbs / Nat.gcd z.natAbs d ∧ (mkRat z d).den = d / Nat.gcd z.natAbs d ∧ ((mkRat z d).num < 0 ↔ z < 0) := by
 have hg : 0 < Nat.gcd z.natAbs d := Nat.gcd_pos_of_pos_right _ hd
 rw [Rat.mkRat_def, dif_neg (by omega), Rat.normalize_eq]
 have hdv : ((Nat.gcd z.natAbs d : Nat) : Int) ∣ z := Int.ofNat_dvd_left.2 (Nat.gcd_dvd_left _ _)
 refine ⟨?_, rfl, ?_⟩
 ·show (z / ((Nat.gcd z.natAbs d : Nat) : Int)).natAbs = _
  rw [Int.natAbs_ediv_of_dvd hdv, Int.natAbs_natCast]
 ·show z / ((Nat.gcd z.natAbs d : Nat) : Int) < 0 ↔ z < 0
  obtain ⟨k, hk⟩ := hdv
  have hg' : 0 < ((Nat.gcd z.natAbs d : Nat) : Int) := by omega
  generalize ((Nat.gcd z.natAbs d : Nat) : Int) = g at *
  rw [hk, Int.mul_ediv_cancel_left _ (by omega)]
  constructor
  ·intro h; exact Int.mul_neg_of_pos_of_neg hg' h
  ·intro h
   rcases Int.lt_or_le k 0 with h1 | h1
   ·exact h1
   ·have := Int.mul_nonneg (Int.le_of_lt hg') h1; omega
theorem o_qn (x y : Rat) : x + y = mkRat (x.num * y.den + y.num * x.den) (x.den * y.den) := Rat.add_def' x y
theorem o_qo (x y : Rat) : x * y = mkRat (x.num * y.num) (x.den * y.den) := Rat.mul_def' x y
theorem o_qp (x y : Rat) : x < y ↔ x.num * y.den < y.num * x.den := Rat.lt_iff x y
end
section
open Go.RowKit
def wD (z : Int) : D := .agg [natW z.natAbs, .bool (decide (z < 0))]
def rD (q : Rat) : D := .agg [natW q.num.natAbs, .bool (decide (q.num < 0)), natW (q.den - 1)]

theorem o_qq (a b : Nat) : size (a * b) ≤ size a + size b := by
 refine o_k5 (o_kl _) ?_
 rw [o_kj, Nat.pow_add]
 have ha := o_jo (o_kk a)
 have hb := o_jo (o_kk b)
 rw [o_kj] at ha hb
 unfold size
 exact Nat.mul_lt_mul'' ha hb
theorem o_qr (a b : Nat) : size (a + b) ≤ max (size a) (size b) + 1 := by
 refine o_k5 (o_kl _) ?_
 rw [o_kj, Nat.pow_succ]
 have ha := o_jo (o_kk a)
 have hb := o_jo (o_kk b)
 rw [o_kj] at ha hb
 have h1 : 18446744073709551616 ^ (words a).length ≤ 18446744073709551616 ^ max (size a) (size b) := Nat.pow_le_pow_right (by decide) (Nat.le_max_left _ _)
 have h2 : 18446744073709551616 ^ (words b).length ≤ 18446744073709551616 ^ max (size a) (size b) := Nat.pow_le_pow_right (by decide) (Nat.le_max_right _ _)
 omega

theorem o_qs (m n : Nat) (hm : size m ≤ 1000000) (hn : size n ≤ 1000000) (hlt : m < n) : Eqn Tryz.prog o_d3 [.d (.agg [natW m]), .d (.agg [natW n])] [] (.tup [.d (.agg [.nilsl]), .d (.int .i64 2)]) [] := by
 refine Eqn.pure o_d5 Plain.ok ?_
 have hc := o_kw m n hm hn
 have hlt' : cmpZ m n < 0 := o_lq.2 hlt
 simp only [o_d4]
 refine G0 ?_; try with_reducible exact tt
 refine CallS.pu (hc) (R1 hlt' ?_); try with_reducible exact tt
 refine AW.cond rfl (fun h => ?_) (fun h => ?_)
 ·refine G0 ?_; try with_reducible exact tt
 ·simp [hlt'] at h

theorem o_qt (s : Bool) (a : Nat) : Eqn Tryz.prog o_c3 [.d (.bool s), .d (.agg [natW a])] [] (.d (.agg [natW a, .bool (s && decide (a ≠ 0))])) [] := by
 refine Eqn.pure o_c5 Plain.ok ?_
 have hz := o_ku a
 simp only [o_c4]
 cases s with
 | true =>
  refine G0 ?_; try with_reducible exact tt
  refine CallS.pu (hz) (R0 ?_); try with_reducible exact tt
  refine Sub1.of ?_
  simp
  cases a <;> rfl
 | false =>
  refine G0 ?_; try with_reducible exact tt
theorem o_qu (s : Bool) (a : Nat) (z : Int) (hz : z = if s then -(a : Int) else a) : Eqn Tryz.prog o_c3 [.d (.bool s), .d (.agg [natW a])] [] (.d (wD z)) [] := by
 have h := o_qt s a
 have e : D.agg [natW a, .bool (s && decide (a ≠ 0))] = wD z := by
  subst hz
  unfold wD
  cases s with
  | true =>
   simp only [if_true, Int.natAbs_neg, Int.natAbs_natCast, Bool.true_and]
   congr 4
   rw [decide_eq_decide]; omega
  | false =>
   simp only [Bool.false_and, Int.natAbs_natCast, Bool.false_eq_true, if_false]
   congr 4
 rw [e] at h
 exact h
theorem o_qv (z : Int) : Eqn Tryz.prog o_c0 [.d (wD z)] [] (.d (.agg [natW z.natAbs])) [] := o_lx _ _
theorem o_qw (z : Int) : Eqn Tryz.prog o_c6 [.d (wD z)] [] (.d (.bool (decide (z < 0)))) [] := o_ly _ _

theorem o_qx (x y : Int) (hx : size x.natAbs ≤ 400000) (hy : size y.natAbs ≤ 400000) : Eqn Tryz.prog o_8s [.d (wD x), .d (wD y)] [] (.d (wD (x * y))) [] := by
 refine Eqn.pure o_8u (o_58 _) ?_
 have hm := o_on x.natAbs y.natAbs (by omega) (by omega)
 have hk := fun s h => o_qu s (x.natAbs * y.natAbs) (x * y) h
 simp only [o_8t, wD] at hk ⊢
 refine G0 ?_; try with_reducible exact tt
 refine CallS.pu (hm) (R0 ?_); try with_reducible exact tt
 have e : x * y = if (decide (x < 0) != decide (y < 0)) = true then -((x.natAbs * y.natAbs : Nat) : Int) else ((x.natAbs * y.natAbs : Nat) : Int) := by
  rw [Int.natCast_mul]
  by_cases h1 : x < 0 <;> by_cases h2 : y < 0 <;> simp only [h1, h2, decide_true, decide_false]
  ·rw [if_neg (by decide), Int.ofNat_natAbs_of_nonpos (by omega), Int.ofNat_natAbs_of_nonpos (by omega), Int.neg_mul_neg]
  ·rw [if_pos (by decide), Int.ofNat_natAbs_of_nonpos (by omega), Int.natAbs_of_nonneg (by omega), Int.neg_mul, Int.neg_neg]
  ·rw [if_pos (by decide), Int.ofNat_natAbs_of_nonpos (a := y) (by omega), Int.natAbs_of_nonneg (by omega), Int.mul_neg, Int.neg_neg]
  ·rw [if_neg (by decide), Int.natAbs_of_nonneg (by omega), Int.natAbs_of_nonneg (by omega)]
 replace hk := hk _ e
 refine CallS.pu (hk) (R0 ?_); try with_reducible exact tt

theorem o_qy (x : Int) : Eqn Tryz.prog o_bl [.d (wD x)] [] (.d (wD (-x))) [] := by
 refine Eqn.pure o_bn (o_58 _) ?_
 have hk := o_qu (!decide (x < 0)) x.natAbs (-x) (by
  by_cases h : x < 0
  ·simp only [h, decide_true, Bool.not_true, Bool.false_eq_true, if_false]; omega
  ·simp only [h, decide_false, Bool.not_false, if_true]; omega)
 simp only [o_bm, wD] at hk ⊢
 refine G0 ?_; try with_reducible exact tt
 refine CallS.pu (hk) (R0 ?_); try with_reducible exact tt

theorem o_qz (x y : Int) (hx : size x.natAbs ≤ 400000) (hy : size y.natAbs ≤ 400000) : Eqn Tryz.prog o_97 [.d (wD x), .d (wD y)] [] (.d (wD (x + y))) [] := by
 refine Eqn.pure o_99 (o_58 _) ?_
 by_cases hs : decide (x < 0) = decide (y < 0)
 ·have ha := o_la x.natAbs y.natAbs (by omega) (by omega)
  have hk := o_qu (decide (x < 0)) (x.natAbs + y.natAbs) (x + y) (by
   rw [decide_eq_decide] at hs
   by_cases h : x < 0
   ·rw [if_pos (by simpa using h)]; omega
   ·rw [if_neg (by simpa using h)]; omega)
  simp only [o_98, wD] at hk ⊢
  generalize decide (x < 0) = sx at *
  generalize decide (y < 0) = sy at *
  subst hs
  refine G0 ?_; try with_reducible exact tt
  refine AW.cond rfl (fun h => ?_) (fun h => ?_)
  ·refine G0 ?_; try with_reducible exact tt
   refine CallS.pu (ha) (R0 ?_); try with_reducible exact tt
   refine CallS.pu (hk) (R0 ?_); try with_reducible exact tt
  ·simp at h
 ·have hs' : ¬ (x < 0 ↔ y < 0) := fun h => hs (decide_eq_decide.2 h)
  by_cases hle : y.natAbs ≤ x.natAbs
  ·have ha := o_le x.natAbs y.natAbs (by omega) hle
   have hk := o_qu (decide (x < 0)) (x.natAbs - y.natAbs) (x + y) (by
    by_cases h : x < 0
    ·rw [if_pos (by simpa using h)]; omega
    ·rw [if_neg (by simpa using h)]; omega)
   simp only [o_98, wD] at hk ⊢
   generalize decide (x < 0) = sx at *
   generalize decide (y < 0) = sy at *
   have hs2 : (sx == sy) = false := by simpa using hs
   refine G1 (fs hs2 hs) ?_; try with_reducible exact tt
   refine AW.cond rfl (fun h => ?_) (fun h => ?_)
   ·simp [hs2, hs] at h
   ·refine G0 ?_; try with_reducible exact tt
    refine CallS.pu (ha) (R0 ?_); try with_reducible exact tt
    refine AW.cond rfl (fun h => ?_) (fun h => ?_)
    ·refine G0 ?_; try with_reducible exact tt
     refine CallS.pu (hk) (R0 ?_); try with_reducible exact tt
    ·simp at h
  ·have hb := o_qs x.natAbs y.natAbs (by omega) (by omega) (by omega)
   have ha := o_le y.natAbs x.natAbs (by omega) (by omega)
   have hk := o_qu (decide (y < 0)) (y.natAbs - x.natAbs) (x + y) (by
    by_cases h : y < 0
    ·rw [if_pos (by simpa using h)]; omega
    ·rw [if_neg (by simpa using h)]; omega)
   simp only [o_98, wD] at hk ⊢
   generalize decide (x < 0) = sx at *
   generalize decide (y < 0) = sy at *
   have hs2 : (sx == sy) = false := by simpa using hs
   refine G1 (fs hs2 hs) ?_; try with_reducible exact tt
   refine AW.cond rfl (fun h => ?_) (fun h => ?_)
   ·simp [hs2, hs] at h
   ·refine G0 ?_; try with_reducible exact tt
    refine CallS.pu (hb) (R0 ?_); try with_reducible exact tt
    refine AW.cond rfl (fun h => ?_) (fun h => ?_)
    ·simp at h
    ·refine G0 ?_; try with_reducible exact tt
     refine CallS.pu (ha) (R0 ?_); try with_reducible exact tt
     refine CallS.pu (hk) (R0 ?_); try with_reducible exact tt

def cmpI (x y : Int) : Int := if x < y then -1 else if y < x then 1 else 0
theorem o_r0 (x y : Int) (hx : size x.natAbs ≤ 900000) (hy : size y.natAbs ≤ 900000) : Eqn Tryz.prog o_91 [.d (wD x), .d (wD y)] [] (.d (.int .i64 (cmpI x y))) [] := by
 refine Eqn.pure o_93 (o_58 _) ?_
 have h1 := o_kw y.natAbs x.natAbs (by omega) (by omega)
 have h2 := o_kw x.natAbs y.natAbs (by omega) (by omega)
 simp only [o_92, wD]
 by_cases hx0 : x < 0 <;> by_cases hy0 : y < 0
 ·have e : cmpI x y = cmpZ y.natAbs x.natAbs := by
   unfold cmpI cmpZ
   split <;> split <;> first | omega | (split <;> omega)
  rw [← e] at h1
  simp only [hx0, hy0, decide_true, decide_false]
  refine G0 ?_; try with_reducible exact tt
  refine AW.cond rfl (fun h => ?_) (fun h => ?_)
  ·refine G0 ?_; try with_reducible exact tt
   refine CallS.pu (h1) (R0 ?_); try with_reducible exact tt
  ·simp at h
 ·have e : cmpI x y = -1 := by unfold cmpI; rw [if_pos (by omega)]
  rw [e]
  simp only [hx0, hy0, decide_true, decide_false]
  refine G0 ?_; try with_reducible exact tt
  refine AW.cond rfl (fun h => ?_) (fun h => ?_)
  ·simp at h
  refine G0 ?_; try with_reducible exact tt
  refine AW.cond rfl (fun h => ?_) (fun h => ?_)
  ·refine G0 ?_; try with_reducible exact tt
  ·simp at h
 ·have e : cmpI x y = 1 := by unfold cmpI; rw [if_neg (by omega), if_pos (by omega)]
  rw [e]
  simp only [hx0, hy0, decide_true, decide_false]
  refine G0 ?_; try with_reducible exact tt
  refine AW.cond rfl (fun h => ?_) (fun h => ?_)
  ·simp at h
  refine G0 ?_; try with_reducible exact tt
  refine AW.cond rfl (fun h => ?_) (fun h => ?_)
  ·simp at h
  refine G0 ?_; try with_reducible exact tt
  refine AW.cond rfl (fun h => ?_) (fun h => ?_)
  ·refine G0 ?_; try with_reducible exact tt
  ·simp at h
 ·have e : cmpI x y = cmpZ x.natAbs y.natAbs := by
   unfold cmpI cmpZ
   split <;> split <;> first | omega | (split <;> omega)
  rw [← e] at h2
  simp only [hx0, hy0, decide_true, decide_false]
  refine G0 ?_; try with_reducible exact tt
  refine AW.cond rfl (fun h => ?_) (fun h => ?_)
  ·simp at h
  refine G0 ?_; try with_reducible exact tt
  refine AW.cond rfl (fun h => ?_) (fun h => ?_)
  ·simp at h
  refine G0 ?_; try with_reducible exact tt
  refine AW.cond rfl (fun h => ?_) (fun h => ?_)
  ·simp at h
  refine G0 ?_; try with_reducible exact tt
  refine CallS.pu (h2) (R0 ?_); try with_reducible exact tt
end
section
open Go.RowKit
theorem o_r1 (z : Int) (d : Nat) (hd : 0 < d) (hz : size z.natAbs ≤ 900000) (hds : size d ≤ 900000) : Eqn Tryz.prog o_94 [.d (wD z), .d (.agg [natW d])] [] (.d (rD (mkRat z d))) [] := by
 refine Eqn.pure o_96 (o_58 _) ?_
 obtain ⟨p1, p2, p3⟩ := o_qm z d hd
 have hg0 : 0 < Nat.gcd z.natAbs d := Nat.gcd_pos_of_pos_right _ hd
 have hgs : size (Nat.gcd z.natAbs d) ≤ 900000 := Nat.le_trans (o_ld (Nat.gcd_le_right _ hd)) hds
 have h1 := o_ql z.natAbs d hz hds
 have h2 := o_qk z.natAbs (Nat.gcd z.natAbs d) hz hg0 hgs
 have h3 := o_qk d (Nat.gcd z.natAbs d) hds hg0 hgs
 have hdp : 0 < d / Nat.gcd z.natAbs d := Nat.div_pos (Nat.gcd_le_right _ hd) hg0
 have hdq : size (d / Nat.gcd z.natAbs d) ≤ 900000 := Nat.le_trans (o_ld (Nat.div_le_self _ _)) hds
 have h4 := o_le (d / Nat.gcd z.natAbs d) 1 (by omega) hdp
 have hab := o_qv z
 have hng := o_qw z
 have hk := o_qt (decide (z < 0)) (z.natAbs / Nat.gcd z.natAbs d)
 have hsg : (decide (z < 0) && decide (z.natAbs / Nat.gcd z.natAbs d ≠ 0)) = decide ((mkRat z d).num < 0) := by
  rw [Bool.eq_iff_iff]
  simp only [Bool.and_eq_true, decide_eq_true_eq, p3]
  rw [← p1]
  constructor
  ·intro h; exact h.1
  ·intro h
   have := p3.2 h
   exact ⟨h, by omega⟩
 rw [hsg, ← p1] at hk
 rw [← p1] at h2
 rw [← p2] at h3 h4
 simp only [o_95, rD, wD] at hab hng ⊢
 refine G0 ?_; try with_reducible exact tt
 refine CallS.pu (hab) (R0 ?_); try with_reducible exact tt
 refine CallS.pu (h1) (R0 ?_); try with_reducible exact tt
 refine CallS.pu (hab) (R0 ?_); try with_reducible exact tt
 refine CallS.pu (h2) (R0 ?_); try with_reducible exact tt
 refine CallS.pu (h3) (R0 ?_); try with_reducible exact tt
 refine CallS.pf 8 1 ⟨194, _⟩ [.int .u64 (1 : Nat)] (o_kt [1] (o_lp (by omega)) (by simp)) (by first | rfl | (simp; done)) (R0 ?_); try with_reducible exact tt
 refine CallS.pu (h4) (R0 ?_); try with_reducible exact tt
 refine CallS.pu (hng) (R0 ?_); try with_reducible exact tt
 refine CallS.pu (hk) (R0 ?_); try with_reducible exact tt

theorem o_r2 (q : Rat) (h : size q.den ≤ 900000) : Eqn Tryz.prog o_8j [.d (rD q)] [] (.d (.agg [natW q.den])) [] := by
 have hp := q.den_pos
 have := o_m0 q.num.natAbs (q.den - 1) (decide (q.num < 0)) (Nat.le_trans (o_ld (Nat.sub_le _ _)) (by omega))
 rw [show q.den - 1 + 1 = q.den by omega] at this
 exact this
theorem o_r3 (q : Rat) (h : size q.den ≤ 900000) : Eqn Tryz.prog o_8v [.d (rD q)] [] (.d (wD q.den)) [] := by
 refine Eqn.pure o_8x (o_58 _) ?_
 have h1 := o_r2 q h
 have h2 := o_qu false q.den (q.den : Int) rfl
 simp only [o_8w, rD, wD] at h1 h2 ⊢
 refine G0 ?_; try with_reducible exact tt
 refine CallS.pu (h1) (R0 ?_); try with_reducible exact tt
 refine CallS.pu (h2) (R0 ?_); try with_reducible exact tt

def RS (q : Rat) (N : Nat) : Prop := size q.num.natAbs ≤ N ∧ size q.den ≤ N
theorem RS.le {q : Rat} {N M : Nat} (h : RS q N) (hm : N ≤ M) : RS q M := ⟨Nat.le_trans h.1 hm, Nat.le_trans h.2 hm⟩
theorem RS.mk' {z : Int} {d N : Nat} (hd : 0 < d) (h1 : size z.natAbs ≤ N) (h2 : size d ≤ N) : RS (mkRat z d) N := by
 obtain ⟨p1, p2, -⟩ := o_qm z d hd
 refine ⟨?_, ?_⟩
 ·rw [p1]; exact Nat.le_trans (o_ld (Nat.div_le_self _ _)) h1
 ·rw [p2]; exact Nat.le_trans (o_ld (Nat.div_le_self _ _)) h2
theorem RS.mul {x y : Rat} {N M : Nat} (hx : RS x N) (hy : RS y M) : RS (x * y) (N + M) := by
 rw [o_qo]
 refine RS.mk' (Nat.mul_pos x.den_pos y.den_pos) ?_ ?_
 ·rw [Int.natAbs_mul]; have := o_qq x.num.natAbs y.num.natAbs; have := hx.1; have := hy.1; omega
 ·have := o_qq x.den y.den; have := hx.2; have := hy.2; omega
theorem RS.add {x y : Rat} {N M : Nat} (hx : RS x N) (hy : RS y M) : RS (x + y) (N + M + 1) := by
 rw [o_qn]
 refine RS.mk' (Nat.mul_pos x.den_pos y.den_pos) ?_ ?_
 ·have h1 := o_ld (Int.natAbs_add_le (x.num * y.den) (y.num * x.den))
  have h2 := o_qr (x.num * y.den).natAbs (y.num * x.den).natAbs
  rw [Int.natAbs_mul, Int.natAbs_mul, Int.natAbs_natCast, Int.natAbs_natCast] at *
  have h3 := o_qq x.num.natAbs y.den
  have h4 := o_qq y.num.natAbs x.den
  have := hx.1; have := hy.1; have := hx.2; have := hy.2
  omega
 ·have := o_qq x.den y.den; have := hx.2; have := hy.2; omega
theorem RS.neg {x : Rat} {N : Nat} (hx : RS x N) : RS (-x) N := by
 refine ⟨?_, ?_⟩
 ·rw [Rat.neg_num, Int.natAbs_neg]; exact hx.1
 ·rw [Rat.neg_den]; exact hx.2
theorem RS.sub {x y : Rat} {N M : Nat} (hx : RS x N) (hy : RS y M) : RS (x - y) (N + M + 1) := by
 rw [Rat.sub_eq_add_neg]; exact hx.add hy.neg

theorem o_r4 (x y : Rat) (hx : RS x 100000) (hy : RS y 100000) : Eqn Tryz.prog o_81 [.d (rD x), .d (rD y)] [] (.d (rD (x * y))) [] := by
 refine Eqn.pure o_83 (o_58 _) ?_
 have h1 := o_qx x.num y.num (by have := hx.1; omega) (by have := hy.1; omega)
 have h2 := o_r2 x (by have := hx.2; omega)
 have h3 := o_r2 y (by have := hy.2; omega)
 have h4 := o_on x.den y.den (by have := hx.2; omega) (by have := hy.2; omega)
 have h5 := o_r1 (x.num * y.num) (x.den * y.den) (Nat.mul_pos x.den_pos y.den_pos) (by rw [Int.natAbs_mul]; have := o_qq x.num.natAbs y.num.natAbs; have := hx.1; have := hy.1; omega) (by have := o_qq x.den y.den; have := hx.2; have := hy.2; omega)
 rw [← o_qo] at h5
 simp only [o_82, rD, wD] at h1 h2 h3 h5 ⊢
 refine G0 ?_; try with_reducible exact tt
 refine CallS.pu (h1) (R0 ?_); try with_reducible exact tt
 refine CallS.pu (h2) (R0 ?_); try with_reducible exact tt
 refine CallS.pu (h3) (R0 ?_); try with_reducible exact tt
 refine CallS.pu (h4) (R0 ?_); try with_reducible exact tt
 refine CallS.pu (h5) (R0 ?_); try with_reducible exact tt

theorem o_r5 (x y : Rat) (hx : RS x 100000) (hy : RS y 100000) : Eqn Tryz.prog o_71 [.d (rD x), .d (rD y)] [] (.d (rD (x + y))) [] := by
 refine Eqn.pure o_73 (o_58 _) ?_
 have x1 := hx.1; have x2 := hx.2; have y1 := hy.1; have y2 := hy.2
 have s1 := o_qq x.num.natAbs y.den
 have s2 := o_qq y.num.natAbs x.den
 have e1 : (x.num * (y.den : Int)).natAbs = x.num.natAbs * y.den := by rw [Int.natAbs_mul, Int.natAbs_natCast]
 have e2 : (y.num * (x.den : Int)).natAbs = y.num.natAbs * x.den := by rw [Int.natAbs_mul, Int.natAbs_natCast]
 have h1 := o_qx x.num y.den (by omega) (by rw [Int.natAbs_natCast]; omega)
 have h1' := o_qx y.num x.den (by omega) (by rw [Int.natAbs_natCast]; omega)
 have h2 := o_r2 x (by omega)
 have h3 := o_r2 y (by omega)
 have h2' := o_r3 x (by omega)
 have h3' := o_r3 y (by omega)
 have h4 := o_on x.den y.den (by omega) (by omega)
 have h6 := o_qz (x.num * y.den) (y.num * x.den) (by rw [e1]; omega) (by rw [e2]; omega)
 have h5 := o_r1 (x.num * y.den + y.num * x.den) (x.den * y.den) (Nat.mul_pos x.den_pos y.den_pos) (by
  have h1 := o_ld (Int.natAbs_add_le (x.num * y.den) (y.num * x.den))
  have h2 := o_qr (x.num * y.den).natAbs (y.num * x.den).natAbs
  rw [e1, e2] at *
  omega) (by have := o_qq x.den y.den; omega)
 rw [← o_qn] at h5
 simp only [o_72, rD] at h2 h3 h2' h3' h5 ⊢
 generalize hz1 : x.num * (y.den : Int) = z1 at *
 generalize hz2 : y.num * (x.den : Int) = z2 at *
 simp only [wD] at h1 h1' h2' h3' h5 h6
 refine G0 ?_; try with_reducible exact tt
 refine CallS.pu (h3') (R0 ?_); try with_reducible exact tt
 refine CallS.pu (h1) (R0 ?_); try with_reducible exact tt
 refine CallS.pu (h2') (R0 ?_); try with_reducible exact tt
 refine CallS.pu (h1') (R0 ?_); try with_reducible exact tt
 refine CallS.pu (h6) (R0 ?_); try with_reducible exact tt
 refine CallS.pu (h2) (R0 ?_); try with_reducible exact tt
 refine CallS.pu (h3) (R0 ?_); try with_reducible exact tt
 refine CallS.pu (h4) (R0 ?_); try with_reducible exact tt
 refine CallS.pu (h5) (R0 ?_); try with_reducible exact tt

theorem o_r6 (x y : Rat) (hx : RS x 100000) (hy : RS y 100000) : Eqn Tryz.prog o_84 [.d (rD x), .d (rD y)] [] (.d (rD (x - y))) [] := by
 refine Eqn.pure o_86 (o_58 _) ?_
 have h1 := o_qy y.num
 have h2 := o_r5 x (-y) hx hy.neg
 rw [← Rat.sub_eq_add_neg] at h2
 simp only [o_85, rD, wD, Rat.neg_num, Rat.neg_den] at h1 h2 ⊢
 obtain ⟨w, hw⟩ : ∃ w, D.bool (decide (-y.num < 0)) = w := ⟨_, rfl⟩
 obtain ⟨u, hu⟩ : ∃ u, natW (-y.num).natAbs = u := ⟨_, rfl⟩
 rw [hu, hw] at h1 h2
 clear hu hw
 refine G0 ?_; try with_reducible exact tt
 refine CallS.pu (h1) (R0 ?_); try with_reducible exact tt
 refine CallS.pu (h2) (R0 ?_); try with_reducible exact tt

def cmpQ (x y : Rat) : Int := if x < y then -1 else if y < x then 1 else 0
theorem o_r7 (x y : Rat) (hx : RS x 100000) (hy : RS y 100000) : Eqn Tryz.prog o_6y [.d (rD x), .d (rD y)] [] (.d (.int .i64 (cmpQ x y))) [] := by
 refine Eqn.pure o_70 (o_58 _) ?_
 have x1 := hx.1; have x2 := hx.2; have y1 := hy.1; have y2 := hy.2
 have s1 := o_qq x.num.natAbs y.den
 have s2 := o_qq y.num.natAbs x.den
 have e1 : (x.num * (y.den : Int)).natAbs = x.num.natAbs * y.den := by rw [Int.natAbs_mul, Int.natAbs_natCast]
 have e2 : (y.num * (x.den : Int)).natAbs = y.num.natAbs * x.den := by rw [Int.natAbs_mul, Int.natAbs_natCast]
 have h1 := o_qx x.num y.den (by omega) (by rw [Int.natAbs_natCast]; omega)
 have h1' := o_qx y.num x.den (by omega) (by rw [Int.natAbs_natCast]; omega)
 have h2' := o_r3 x (by omega)
 have h3' := o_r3 y (by omega)
 have h6 := o_r0 (x.num * y.den) (y.num * x.den) (by rw [e1]; omega) (by rw [e2]; omega)
 have e : cmpI (x.num * y.den) (y.num * x.den) = cmpQ x y := by
  have a := o_qp x y
  have b := o_qp y x
  unfold cmpI cmpQ
  by_cases h : x < y
  ·rw [if_pos h, if_pos (a.1 h)]
  ·rw [if_neg h, if_neg (fun q => h (a.2 q))]
   by_cases h2 : y < x
   ·rw [if_pos h2, if_pos (b.1 h2)]
   ·rw [if_neg h2, if_neg (fun q => h2 (b.2 q))]
 rw [e] at h6
 simp only [o_6z, rD] at h2' h3' ⊢
 generalize hz1 : x.num * (y.den : Int) = z1 at *
 generalize hz2 : y.num * (x.den : Int) = z2 at *
 simp only [wD] at h1 h1' h2' h3' h6
 refine G0 ?_; try with_reducible exact tt
 refine CallS.pu (h3') (R0 ?_); try with_reducible exact tt
 refine CallS.pu (h1) (R0 ?_); try with_reducible exact tt
 refine CallS.pu (h2') (R0 ?_); try with_reducible exact tt
 refine CallS.pu (h1') (R0 ?_); try with_reducible exact tt
 refine CallS.pu (h6) (R0 ?_); try with_reducible exact tt

theorem o_r8 {I : Nat → Prop} {w : World} {v : Value} (h : D.rep I w .nilsl v) : D.rep I w (natW 0) v := by
 have := Sub1.nil (⟨fun _ => none, I, w⟩ : Mem) v (by rw [V.rep_d]; exact h)
 rw [V.rep_d] at this
 exact this
theorem Sub1.rat0 {x y : D} : Sub1 (.d (.agg [x, y, .nilsl])) (.d (.agg [x, y, natW 0])) := fun m v k => by
 rw [V.rep_d] at k ⊢
 unfold D.rep at k ⊢
 obtain ⟨vs, h1, h0, h2⟩ := k
 refine ⟨vs, h1, h0, ?_⟩
 obtain ⟨a, r, rfl, ha, h2⟩ := D.reps_cons'.1 h2
 obtain ⟨b, r, rfl, hb, h2⟩ := D.reps_cons'.1 h2
 obtain ⟨c, r, rfl, hc, h2⟩ := D.reps_cons'.1 h2
 exact D.reps_cons.2 ⟨ha, D.reps_cons.2 ⟨hb, D.reps_cons.2 ⟨o_r8 hc, h2⟩⟩⟩
end
section
open Go.RowKit
theorem o_r9 (m : Nat) (hm : m ≤ 4611686018427387904) : bits BinOp.and IntKind.i64 (m : Int) 1 = ((m % 2 : Nat) : Int) := by
 show IntKind.i64.wrap (((BitVec.ofInt 64 (m : Int)) &&& (BitVec.ofInt 64 (1 : Int))).toNat : Int) = _
 have h1 : (BitVec.ofInt 64 (1 : Int)).toNat = 1 := by decide
 rw [BitVec.toNat_and, h1, BitVec.ofInt_natCast, BitVec.toNat_ofNat, Nat.mod_eq_of_lt (by omega), Nat.and_one_is_mod]
 exact w64 (by omega) (by omega)

theorem o_ra {r x m T : Nat} (h : r * x ^ m = T) : (if m % 2 = 1 then r * x else r) * (x * x) ^ (m / 2) = T := by
 have e : x ^ m = (x * x) ^ (m / 2) * x ^ (m % 2) := by
  rw [← Nat.pow_two, ← Nat.pow_mul, ← Nat.pow_add, Nat.div_add_mod]
 rw [← h, e]
 rcases Nat.mod_two_eq_zero_or_one m with h2 | h2
 ·rw [h2, if_neg (by omega)]; simp
 ·rw [h2, if_pos rfl, Nat.pow_one, Nat.mul_assoc, Nat.mul_comm x]
theorem o_rb {r x m T : Nat} (h : r * x ^ m = T) (hm : 0 < m) (hx : 1 ≤ x) (hr : 1 ≤ r) : x ≤ T ∧ r ≤ T := by
 have h1 : 1 ≤ x ^ m := Nat.pow_pos hx
 have h2 : x ≤ x ^ m := by
  calc x = x ^ 1 := (Nat.pow_one x).symm
   _ ≤ x ^ m := Nat.pow_le_pow_right hx hm
 constructor
 ·rw [← h]; exact Nat.le_trans h2 (Nat.le_mul_of_pos_left _ hr)
 ·rw [← h]; exact Nat.le_mul_of_pos_right _ h1

set_option maxHeartbeats 2000000 in
theorem o_rc (a n : Nat) (hn : n ≤ 8192) (hb : bitsN a ≤ 1 ∨ n ≤ 8192 / bitsN a) (has : size a ≤ 129) : Eqn Tryz.prog o_bx [.d (.agg [natW a]), .d (.int .i64 n)] [] (.tup [.d (.agg [natW (a ^ n)]), .d (.int .i64 0)]) [] := by
 refine Eqn.pure o_bz Plain.ok ?_
 have hbits := o_ng a (by omega)
 have hof : Eqn Tryz.prog o_cf [.d (.sl 1 [.int .u64 (1 : Nat)])] [] (.d (.agg [natW 1])) [] := by
  have := o_kt [1] (o_lp (by omega)) (by simp)
  simpa [W, wval] using this
 obtain ⟨q, hq⟩ : ∃ q, bitsN a = q := ⟨_, rfl⟩
 simp only [o_by]
 have hn0 : ¬ (n : Int) < 0 := by omega
 rw [hq] at hbits hb
 obtain ⟨T, hT⟩ : ∃ T, a ^ n = T := ⟨_, rfl⟩
 have hTs : size T ≤ 129 := by
  rw [← hT]
  by_cases h1 : q ≤ 1
  ·have : a ≤ 1 := by have := o_mu a; rw [hq] at this; have := Nat.pow_le_pow_right (n := 2) (by omega) h1; omega
   have h2 : a ^ n ≤ 1 := by have := Nat.pow_le_pow_left this n; rwa [Nat.one_pow] at this
   have := o_ld h2
   have := o_lv (x := 1) (by omega)
   omega
  ·refine o_oo (n := q * n + 1) ?_ ?_
   ·rw [Nat.pow_succ]
    have h2 := o_mu a
    rw [hq] at h2
    have h3 : a ^ n ≤ (2 ^ q) ^ n := Nat.pow_le_pow_left (Nat.le_of_lt h2) n
    rw [← Nat.pow_mul] at h3
    have := Nat.two_pow_pos (q * n)
    omega
   ·have h2 : n ≤ 8192 / q := hb.resolve_left h1
    rw [Nat.le_div_iff_mul_le (by omega)] at h2
    rw [Nat.mul_comm] at h2
    omega
 obtain ⟨n', hn', hn2⟩ : ∃ n' : Nat, n' = (if q ≤ 1 then min n 1 else n) ∧ a ^ n' = T := by
  refine ⟨_, rfl, ?_⟩
  by_cases h1 : q ≤ 1
  ·have ha1 : a ≤ 1 := by have := o_mu a; rw [hq] at this; have := Nat.pow_le_pow_right (n := 2) (by omega) h1; omega
   rw [if_pos h1, ← hT]
   rcases (by omega : a = 0 ∨ a = 1) with rfl | rfl
   ·rcases Nat.eq_zero_or_pos n with rfl | hp
    ·rfl
    ·rw [Nat.min_eq_right hp, Nat.zero_pow hp]
   ·rw [Nat.one_pow, Nat.one_pow]
  ·rw [if_neg h1, hT]
 rw [hT]
 by_cases h1 : q ≤ 1
 ·rw [if_pos h1] at hn'
  have hq1 : ¬ (1 : Int) < q := by omega
  have hq1n : ¬ 1 < q := by omega
  have hq2 : (q : Int) ≤ 1 := by omega
  have hmin : min (n : Int) 1 = (n' : Int) := by omega
  have hn8 : n' ≤ 8192 := by omega
  have hn1 : 1 < n' → 1 ≤ a ∧ 1 ≤ 1 := fun h => by omega
  refine G1 hn0 ?_; try with_reducible exact tt
  refine AW.cond rfl (fun h => ?_) (fun h => ?_)
  ·simp [hn0] at h
  refine G0 ?_; try with_reducible exact tt
  refine CallS.pu (hbits) (R1 (fs hq1 (fs hq1n h1)) ?_); try with_reducible exact tt
  refine AW.cond rfl (fun h => ?_) (fun h => ?_)
  ·simp at h
  refine AW.skip ?_
  simp
  refine G0 ?_; try with_reducible exact tt
  refine CallS.pf 2 1 ⟨194, _⟩ [.int .u64 (1 : Nat)] (hof) (by first | rfl | (simp; done)) (R0 ?_); try with_reducible exact tt
  refine CallS.pu (hbits) (R1 (fs hq2 h1) ?_); try with_reducible exact tt
  refine AW.cond rfl (fun h => ?_) (fun h => ?_)
  rotate_left
  ·simp [hq2, h1] at h
  refine G1 hmin ?_; try with_reducible exact tt
  refine AW.loopT (α := Nat × Nat × Nat) 4 (fun s => [(1, .d (.int .i64 (s.1 : Nat)))]) (fun s => [(0, ⟨25, [.d (natW s.2.1)]⟩), (3, ⟨25, [.d (natW s.2.2)]⟩)]) (fun s => s.1 ≤ 8192 ∧ s.2.2 * s.2.1 ^ s.1 = T ∧ (0 < s.1 → size s.2.1 ≤ 200 ∧ size s.2.2 ≤ 200) ∧ (1 < s.1 → 1 ≤ s.2.1 ∧ 1 ≤ s.2.2)) (fun s => s.1) (n', a, 1) ?_ ?_ ⟨hn8, by rw [Nat.one_mul]; exact hn2, fun _ => ⟨Nat.le_trans has (by omega), Nat.le_trans (o_lv (x := 1) (by omega)) (by omega)⟩, hn1⟩ ?_ ?_ ?_
  ·simp
  ·simp
  ·simp
  ·simp
  clear hn8 hn1 hn2 hn'
  rintro ⟨m, x, r⟩ ⟨hm8, hT2, hsz, hpos⟩
  simp only at hm8 hT2 hsz hpos
  simp
  by_cases hm0 : m = 0
  ·subst hm0
   rw [Nat.pow_zero, Nat.mul_one] at hT2
   subst hT2
   refine G0 ?_; try with_reducible exact tt
   refine AW.cond rfl (fun h => ?_) (fun h => ?_)
   ·simp at h
   refine AW.exit ?_
   (try (simp -implicitDefEqProofs; try simp (disch := omega) only [w64, wu64]))
   refine G0 ?_; try with_reducible exact tt
  ·have hm1 : (0 : Int) < m := by omega
   have hm2 : 0 < m := by omega
   obtain ⟨sx, sr⟩ := hsz hm2
   have hand := o_r9 m (by omega)
   have hm1' := o_on r x (by omega) (by omega)
   have hm2' := o_on x x (by omega) (by omega)
   have hdv : (m : Int) / 2 = ((m / 2 : Nat) : Int) := rfl
   have hr := o_ra hT2
   have hnext : (1 < m / 2 → 1 ≤ x * x ∧ 1 ≤ (if m % 2 = 1 then r * x else r)) := fun h => by
    obtain ⟨p1, p2⟩ := hpos (by omega)
    refine ⟨Nat.mul_pos p1 p1, ?_⟩
    split
    ·exact Nat.mul_pos p2 p1
    ·exact p2
   have hnext2 : (0 < m / 2 → size (x * x) ≤ 200 ∧ size (if m % 2 = 1 then r * x else r) ≤ 200) := fun h => by
    obtain ⟨p1, p2⟩ := hpos (by omega)
    have q1 : 1 ≤ x * x := Nat.mul_pos p1 p1
    have q2 : 1 ≤ (if m % 2 = 1 then r * x else r) := by
     split
     ·exact Nat.mul_pos p2 p1
     ·exact p2
    obtain ⟨k1, k2⟩ := o_rb hr h q1 q2
    exact ⟨Nat.le_trans (o_ld k1) (by omega), Nat.le_trans (o_ld k2) (by omega)⟩
   have hlt2 : m / 2 < m := by omega
   generalize m / 2 = hm at *
   rcases Nat.mod_two_eq_zero_or_one m with h2 | h2
   ·rw [h2] at hand hr hnext hnext2
    rw [if_neg (by omega)] at hr hnext hnext2
    refine G1 (fs hm1 hm2) ?_; try with_reducible exact tt
    refine AW.cond rfl (fun h => ?_) (fun h => ?_)
    rotate_left
    ·simp [hm1, hm2] at h
    refine G1 hand ?_; try with_reducible exact tt
    refine AW.cond rfl (fun h => ?_) (fun h => ?_)
    ·simp at h
    refine G0 ?_; try with_reducible exact tt
    refine CallS.pu (hm2') (R1 hdv ?_); try with_reducible exact tt
    repeat (first | refine AW.seq ?_ | refine AW.block ?_ | (refine AW.reg mix ?_; simp -implicitDefEqProofs [hdv]; try simp (disch := omega) only [w64, wu64]) | (refine need.of (by first | omega | kernel_rfl) ?_) | (refine AW.fin ?_; try simp -implicitDefEqProofs [hdv]))
    (try (simp -implicitDefEqProofs [hdv]; try simp (disch := omega) only [w64, wu64]))
    repeat (first | refine AW.seq ?_ | refine AW.block ?_ | (refine AW.reg mix ?_; simp -implicitDefEqProofs [hdv]; try simp (disch := omega) only [w64, wu64]) | (refine need.of (by first | omega | kernel_rfl) ?_) | (refine AW.fin ?_; try simp -implicitDefEqProofs [hdv]))
    exact ⟨hm, _, _, ⟨by omega, hr, hnext2, hnext⟩, hlt2, by simp, Subs.refl _, Subs.refl _⟩
   ·rw [h2] at hand hr hnext hnext2
    rw [if_pos rfl] at hr hnext hnext2
    refine G1 (fs hm1 hm2) ?_; try with_reducible exact tt
    refine AW.cond rfl (fun h => ?_) (fun h => ?_)
    rotate_left
    ·simp [hm1, hm2] at h
    refine G1 hand ?_; try with_reducible exact tt
    refine AW.cond rfl (fun h => ?_) (fun h => ?_)
    rotate_left
    ·simp at h
    refine G0 ?_; try with_reducible exact tt
    refine CallS.pu (hm1') (R0 ?_); try with_reducible exact tt
    refine CallS.pu (hm2') (R1 hdv ?_); try with_reducible exact tt
    repeat (first | refine AW.seq ?_ | refine AW.block ?_ | (refine AW.reg mix ?_; simp -implicitDefEqProofs [hdv]; try simp (disch := omega) only [w64, wu64]) | (refine need.of (by first | omega | kernel_rfl) ?_) | (refine AW.fin ?_; try simp -implicitDefEqProofs [hdv]))
    (try (simp -implicitDefEqProofs [hdv]; try simp (disch := omega) only [w64, wu64]))
    repeat (first | refine AW.seq ?_ | refine AW.block ?_ | (refine AW.reg mix ?_; simp -implicitDefEqProofs [hdv]; try simp (disch := omega) only [w64, wu64]) | (refine need.of (by first | omega | kernel_rfl) ?_) | (refine AW.fin ?_; try simp -implicitDefEqProofs [hdv]))
    exact ⟨hm, _, _, ⟨by omega, hr, hnext2, hnext⟩, hlt2, by simp, Subs.refl _, Subs.refl _⟩
 ·rw [if_neg h1] at hn'
  rw [hn'] at hn2
  clear hn' n'
  have hq1 : (1 : Int) < q := by omega
  have hq1n : 1 < q := by omega
  have hq2 : ¬ (q : Int) ≤ 1 := by omega
  have hq0 : (q : Int) ≠ 0 := by omega
  have hle : n ≤ 8192 / q := hb.resolve_left h1
  have hdq : IntKind.i64.wrap ((8192 : Int).tdiv q) = ((8192 / q : Nat) : Int) := by
   rw [show (8192 : Int).tdiv q = ((8192 / q : Nat) : Int) from rfl, w64 (by omega) (by have := Nat.div_le_self 8192 q; omega)]
  have ha1 : 1 ≤ a := by
   rcases Nat.eq_zero_or_pos a with rfl | h
   ·exfalso
    have : bitsN 0 ≤ 0 := o_mv (by decide)
    omega
   ·exact h
  have hn8 : n ≤ 8192 := hn
  have hn1 : 1 < n → 1 ≤ a ∧ 1 ≤ 1 := fun _ => ⟨ha1, by omega⟩
  generalize 8192 / q = dq at *
  have hle2 : ¬ (dq : Int) < n := by omega
  have hle3 : ¬ dq < n := by omega
  have hn' : True := trivial
  refine G1 hn0 ?_; try with_reducible exact tt
  refine AW.cond rfl (fun h => ?_) (fun h => ?_)
  ·simp [hn0] at h
  refine G0 ?_; try with_reducible exact tt
  refine CallS.pu (hbits) (R1 (fs hq1 hq1n) ?_); try with_reducible exact tt
  refine CallS.pu (hbits) (R1 (fs hq0 (fs hdq (fs hle2 (fs hle3 (fs hq1 hq1n))))) ?_); try with_reducible exact tt
  refine AW.cond rfl (fun h => ?_) (fun h => ?_)
  ·simp [hle2, hle3] at h
  refine AW.skip ?_
  simp
  refine G0 ?_; try with_reducible exact tt
  refine CallS.pf 2 1 ⟨194, _⟩ [.int .u64 (1 : Nat)] (hof) (by first | rfl | (simp; done)) (R0 ?_); try with_reducible exact tt
  refine CallS.pu (hbits) (R1 (fs hq2 h1) ?_); try with_reducible exact tt
  refine AW.cond rfl (fun h => ?_) (fun h => ?_)
  ·simp [hq2, h1] at h
  refine AW.skip ?_
  simp
  refine G0 ?_; try with_reducible exact tt
  refine AW.loopT (α := Nat × Nat × Nat) 4 (fun s => [(1, .d (.int .i64 (s.1 : Nat)))]) (fun s => [(0, ⟨25, [.d (natW s.2.1)]⟩), (3, ⟨25, [.d (natW s.2.2)]⟩)]) (fun s => s.1 ≤ 8192 ∧ s.2.2 * s.2.1 ^ s.1 = T ∧ (0 < s.1 → size s.2.1 ≤ 200 ∧ size s.2.2 ≤ 200) ∧ (1 < s.1 → 1 ≤ s.2.1 ∧ 1 ≤ s.2.2)) (fun s => s.1) (n, a, 1) ?_ ?_ ⟨hn8, by rw [Nat.one_mul]; exact hn2, fun _ => ⟨Nat.le_trans has (by omega), Nat.le_trans (o_lv (x := 1) (by omega)) (by omega)⟩, hn1⟩ ?_ ?_ ?_
  ·simp
  ·simp
  ·simp
  ·simp
  clear hn8 hn1 hn2 hn'
  rintro ⟨m, x, r⟩ ⟨hm8, hT2, hsz, hpos⟩
  simp only at hm8 hT2 hsz hpos
  simp
  by_cases hm0 : m = 0
  ·subst hm0
   rw [Nat.pow_zero, Nat.mul_one] at hT2
   subst hT2
   refine G0 ?_; try with_reducible exact tt
   refine AW.cond rfl (fun h => ?_) (fun h => ?_)
   ·simp at h
   refine AW.exit ?_
   (try (simp -implicitDefEqProofs; try simp (disch := omega) only [w64, wu64]))
   refine G0 ?_; try with_reducible exact tt
  ·have hm1 : (0 : Int) < m := by omega
   have hm2 : 0 < m := by omega
   obtain ⟨sx, sr⟩ := hsz hm2
   have hand := o_r9 m (by omega)
   have hm1' := o_on r x (by omega) (by omega)
   have hm2' := o_on x x (by omega) (by omega)
   have hdv : (m : Int) / 2 = ((m / 2 : Nat) : Int) := rfl
   have hr := o_ra hT2
   have hnext : (1 < m / 2 → 1 ≤ x * x ∧ 1 ≤ (if m % 2 = 1 then r * x else r)) := fun h => by
    obtain ⟨p1, p2⟩ := hpos (by omega)
    refine ⟨Nat.mul_pos p1 p1, ?_⟩
    split
    ·exact Nat.mul_pos p2 p1
    ·exact p2
   have hnext2 : (0 < m / 2 → size (x * x) ≤ 200 ∧ size (if m % 2 = 1 then r * x else r) ≤ 200) := fun h => by
    obtain ⟨p1, p2⟩ := hpos (by omega)
    have q1 : 1 ≤ x * x := Nat.mul_pos p1 p1
    have q2 : 1 ≤ (if m % 2 = 1 then r * x else r) := by
     split
     ·exact Nat.mul_pos p2 p1
     ·exact p2
    obtain ⟨k1, k2⟩ := o_rb hr h q1 q2
    exact ⟨Nat.le_trans (o_ld k1) (by omega), Nat.le_trans (o_ld k2) (by omega)⟩
   have hlt2 : m / 2 < m := by omega
   generalize m / 2 = hm at *
   rcases Nat.mod_two_eq_zero_or_one m with h2 | h2
   ·rw [h2] at hand hr hnext hnext2
    rw [if_neg (by omega)] at hr hnext hnext2
    refine G1 (fs hm1 hm2) ?_; try with_reducible exact tt
    refine AW.cond rfl (fun h => ?_) (fun h => ?_)
    rotate_left
    ·simp [hm1, hm2] at h
    refine G1 hand ?_; try with_reducible exact tt
    refine AW.cond rfl (fun h => ?_) (fun h => ?_)
    ·simp at h
    refine G0 ?_; try with_reducible exact tt
    refine CallS.pu (hm2') (R1 hdv ?_); try with_reducible exact tt
    repeat (first | refine AW.seq ?_ | refine AW.block ?_ | (refine AW.reg mix ?_; simp -implicitDefEqProofs [hdv]; try simp (disch := omega) only [w64, wu64]) | (refine need.of (by first | omega | kernel_rfl) ?_) | (refine AW.fin ?_; try simp -implicitDefEqProofs [hdv]))
    (try (simp -implicitDefEqProofs [hdv]; try simp (disch := omega) only [w64, wu64]))
    repeat (first | refine AW.seq ?_ | refine AW.block ?_ | (refine AW.reg mix ?_; simp -implicitDefEqProofs [hdv]; try simp (disch := omega) only [w64, wu64]) | (refine need.of (by first | omega | kernel_rfl) ?_) | (refine AW.fin ?_; try simp -implicitDefEqProofs [hdv]))
    exact ⟨hm, _, _, ⟨by omega, hr, hnext2, hnext⟩, hlt2, by simp, Subs.refl _, Subs.refl _⟩
   ·rw [h2] at hand hr hnext hnext2
    rw [if_pos rfl] at hr hnext hnext2
    refine G1 (fs hm1 hm2) ?_; try with_reducible exact tt
    refine AW.cond rfl (fun h => ?_) (fun h => ?_)
    rotate_left
    ·simp [hm1, hm2] at h
    refine G1 hand ?_; try with_reducible exact tt
    refine AW.cond rfl (fun h => ?_) (fun h => ?_)
    rotate_left
    ·simp at h
    refine G0 ?_; try with_reducible exact tt
    refine CallS.pu (hm1') (R0 ?_); try with_reducible exact tt
    refine CallS.pu (hm2') (R1 hdv ?_); try with_reducible exact tt
    repeat (first | refine AW.seq ?_ | refine AW.block ?_ | (refine AW.reg mix ?_; simp -implicitDefEqProofs [hdv]; try simp (disch := omega) only [w64, wu64]) | (refine need.of (by first | omega | kernel_rfl) ?_) | (refine AW.fin ?_; try simp -implicitDefEqProofs [hdv]))
    (try (simp -implicitDefEqProofs [hdv]; try simp (disch := omega) only [w64, wu64]))
    repeat (first | refine AW.seq ?_ | refine AW.block ?_ | (refine AW.reg mix ?_; simp -implicitDefEqProofs [hdv]; try simp (disch := omega) only [w64, wu64]) | (refine need.of (by first | omega | kernel_rfl) ?_) | (refine AW.fin ?_; try simp -implicitDefEqProofs [hdv]))
    exact ⟨hm, _, _, ⟨by omega, hr, hnext2, hnext⟩, hlt2, by simp, Subs.refl _, Subs.refl _⟩
end
section
open Go.RowKit
def BL (cs : List Bool) : D := .sl cs.length (cs.map .bool)
abbrev tapeO (cs : List Bool) (p : Nat) (dead : Bool) : Ob := ⟨220, [.d (.int .i64 p), .d (.bool dead), .d (BL cs)]⟩

def flipB (cs : List Bool) (p : Nat) (dead : Bool) : Bool := if dead ∨ p = cs.length then false else cs.getD p false
def flipE (cs : List Bool) (p : Nat) (dead : Bool) : Int := if dead ∨ p = cs.length then 8 else 0
def flipP (cs : List Bool) (p : Nat) (dead : Bool) : Nat := if dead ∨ p = cs.length then p else p + 1
def flipD (cs : List Bool) (p : Nat) (dead : Bool) : Bool := if dead ∨ p = cs.length then true else dead

def halfR (cs : List Bool) : Nat → Nat → Bool → Bool × Int × Nat × Bool
 | 0, p, dd => (true, 0, p, dd)
 | k + 1, p, dd => if flipB cs p dd then halfR cs k (flipP cs p dd) (flipD cs p dd) else (false, flipE cs p dd, flipP cs p dd, flipD cs p dd)
end
section
open Go.RowKit
theorem o_rd (d : Int) : Eqn Tryz.prog o_ij [.d (.int .i64 d)] [] (.d (.bool (decide (0 ≤ d ∧ d ≤ 8)))) [] := by
 refine Eqn.pure o_il (o_58 _) ?_
 simp only [o_ik]
 by_cases h : 0 ≤ d
 ·refine G1 h ?_; try with_reducible exact tt
 ·refine G1 h ?_; try with_reducible exact tt

def okK (k : Int) : Bool := decide (0 ≤ k ∧ k ≤ 1023)
def wrongZ (d : Int) (ks : List Int) : Int := if 0 ≤ d ∧ d ≤ 8 then (if ks.all okK then 0 else 2) else 10

theorem o_re (d : Int) (ks : List Int) (hn : ks.length ≤ 1000000) : Eqn Tryz.prog o_im [.d (.int .i64 d), .d (.sl ks.length (ks.map fun k : Int => .int .i64 k))] [] (.d (.int .i64 (wrongZ d ks))) [] := by
 refine Eqn.pure o_io (o_58 _) ?_
 simp only [o_in]
 refine G0 ?_; try with_reducible exact tt
 refine CallS.pu (o_rd d) (R0 ?_); try with_reducible exact tt
 by_cases hd : 0 ≤ d ∧ d ≤ 8
 ·refine AW.cond rfl (fun h => ?_) (fun h => ?_)
  ·simp [hd] at h
  refine G0 ?_; try with_reducible exact tt
  refine AW.loopT (α := Nat) 0 (fun i => [(12, .d (.int .i64 (i : Int)))]) (fun i => []) (fun i => i ≤ ks.length ∧ (ks.take i).all okK = true) (fun i => ks.length - i) 0 ?_ ?_ ⟨Nat.zero_le _, by simp⟩ ?_ ?_ ?_
  ·simp
  ·simp
  ·simp
  ·simp
  rintro i ⟨hi, hall⟩
  simp
  by_cases h : i = ks.length
  ·subst h
   rw [List.take_length] at hall
   refine G0 ?_; try with_reducible exact tt
   refine AW.cond rfl (fun h => ?_) (fun h => ?_)
   ·simp at h
   refine G0 ?_; try with_reducible exact tt
   refine Sub1.int ?_
   rw [wrongZ, if_pos hd, if_pos hall]
  ·have hi' : i < ks.length := by omega
   have hp : (i : Int) < ks.length := by omega
   refine G1 (fs hi' hp) ?_; try with_reducible exact tt
   refine AW.cond rfl (fun h => ?_) (fun h => ?_)
   ·have hbad : okK ks[i] = false → wrongZ d ks = 2 := by
     intro hb
     rw [wrongZ, if_pos hd, if_neg]
     intro ha
     rw [List.all_eq_true] at ha
     have := ha ks[i] (List.getElem_mem _)
     rw [hb] at this; cases this
    by_cases h0 : ks[i] < 0
    ·refine G1 (fs hi' (fs hp h0)) ?_; try with_reducible exact tt
     refine AW.cond rfl (fun h => ?_) (fun h => ?_)
     ·refine G0 ?_; try with_reducible exact tt
      refine Sub1.int ?_
      rw [hbad (by simp [okK]; omega)]
     ·simp [h0] at h
    ·by_cases h1 : 1023 < ks[i]
     ·refine G1 (fs hi' (fs hp (fs h0 h1))) ?_; try with_reducible exact tt
      refine AW.cond rfl (fun h => ?_) (fun h => ?_)
      ·refine G0 ?_; try with_reducible exact tt
       refine Sub1.int ?_
       rw [hbad (by simp [okK]; omega)]
      ·simp [h0, h1] at h
     ·refine G1 (fs hi' (fs hp (fs h0 h1))) ?_; try with_reducible exact tt
      refine AW.cond rfl (fun h => ?_) (fun h => ?_)
      ·simp [h0, h1] at h
      have ew : IntKind.i64.wrap ((i : Int) + 1) = (i : Int) + 1 := w64 (by omega) (by omega)
      refine G1 ew ?_; try with_reducible exact tt
      refine ⟨i + 1, ⟨by omega, ?_⟩, by omega, by simp⟩
      rw [List.take_add_one, List.getElem?_eq_getElem hi']
      intro x hx
      rcases List.mem_append.1 hx with hx | hx
      ·exact List.all_eq_true.1 hall x hx
      ·simp at hx
       subst hx
       simp [okK]; omega
   ·simp [hi'] at h
 ·refine AW.cond rfl (fun h => ?_) (fun h => ?_)
  ·refine G0 ?_; try with_reducible exact tt
   refine Sub1.int ?_
   rw [wrongZ, if_neg hd]
  ·simp at h
   exact absurd h hd

def partV (d k : Nat) : Int := bits .and .i64 k (IntKind.i64.wrap (IntKind.i64.wrap (2 ^ d) - 1))
theorem o_rf (d k : Nat) (hd : d ≤ 8) (hk : k ≤ 1023) : Eqn Tryz.prog o_ip [.d (.int .i64 d), .d (.int .i64 k)] [] (.tup [.d (.int .i64 (k / 2 ^ d : Nat)), .d (.int .i64 (partV d k))]) [] := by
 refine Eqn.pure o_ir (o_l8 _ _) ?_
 simp only [o_iq]
 refine G0 ?_; try with_reducible exact tt
 exact Sub1.of rfl

theorem o_rg (d k : Int) : Eqn Tryz.prog o_im [.d (.int .i64 d), .d (.sl 1 [.int .i64 k])] [] (.d (.int .i64 (wrongZ d [k]))) [] := o_re d [k] (by simp)
def againR (cs : List Bool) (d k j : Int) : Bool × Int × Nat × Bool := if wrongZ d [k, j] = 0 then halfR cs (k.toNat / 2 ^ d.toNat - j.toNat / 2 ^ d.toNat) 0 false else (false, wrongZ d [k, j], 0, false)

def stepR (cs : List Bool) (d k : Int) : Bool × Int × Nat × Bool := if wrongZ d [k] = 0 then halfR cs (k.toNat / 2 ^ d.toNat) 0 false else (false, wrongZ d [k], 0, false)
end
section
open Go.RowKit
def ratioR (cs : List Bool) (q : Nat) : Nat → Nat → Nat → Bool → Bool × Int × Nat × Bool
 | 0, _, p, dd => (true, 0, p, dd)
 | f + 1, r, p, dd =>
  if r < q then
   if flipE cs p dd = 0 then
    if flipB cs p dd ≠ decide (q ≤ r + r) ∨ (if q ≤ r + r then r + r - q else r + r) = 0 then (decide (q ≤ r + r) && !flipB cs p dd, 0, flipP cs p dd, flipD cs p dd)
    else ratioR cs q f (if q ≤ r + r then r + r - q else r + r) (flipP cs p dd) (flipD cs p dd)
   else (false, flipE cs p dd, flipP cs p dd, flipD cs p dd)
  else (true, 0, p, dd)
def ratioA (cs : List Bool) (a q : Nat) (p : Nat) (dd : Bool) : Bool × Int × Nat × Bool := if a = 0 then (false, 0, p, dd) else ratioR cs q (cs.length + 1 - p) a p dd
end
section
open Go.RowKit
def powerR (cs : List Bool) (a q : Nat) : Nat → Nat → Bool → Bool × Int × Nat × Bool
 | 0, p, dd => (true, 0, p, dd)
 | k + 1, p, dd => if (ratioA cs a q p dd).1 then powerR cs a q k (ratioA cs a q p dd).2.2.1 (ratioA cs a q p dd).2.2.2 else ratioA cs a q p dd
end
section
open Go.RowKit
theorem o_rh (d : Int) : Eqn Tryz.prog o_6p [.d (.int .i64 d)] [] (.d (.bool (decide (1 ≤ d ∧ d ≤ 4096)))) [] := by
 refine Eqn.pure o_6r (o_58 _) ?_
 simp only [o_6q]
 by_cases h : 1 ≤ d
 ·refine G1 h ?_; try with_reducible exact tt
 ·refine G1 h ?_; try with_reducible exact tt

def wrongM (d : Int) (ks : List Int) : Int := if 1 ≤ d ∧ d ≤ 4096 then (if ks.all okK then 0 else 2) else 10

theorem o_ri (d : Int) (ks : List Int) (hn : ks.length ≤ 1000000) : Eqn Tryz.prog o_87 [.d (.int .i64 d), .d (.sl ks.length (ks.map fun k : Int => .int .i64 k))] [] (.d (.int .i64 (wrongM d ks))) [] := by
 refine Eqn.pure o_89 (o_58 _) ?_
 simp only [o_88]
 refine G0 ?_; try with_reducible exact tt
 refine CallS.pu (o_rh d) (R0 ?_); try with_reducible exact tt
 by_cases hd : 1 ≤ d ∧ d ≤ 4096
 ·refine AW.cond rfl (fun h => ?_) (fun h => ?_)
  ·simp [hd] at h
  refine G0 ?_; try with_reducible exact tt
  refine AW.loopT (α := Nat) 0 (fun i => [(12, .d (.int .i64 (i : Int)))]) (fun i => []) (fun i => i ≤ ks.length ∧ (ks.take i).all okK = true) (fun i => ks.length - i) 0 ?_ ?_ ⟨Nat.zero_le _, by simp⟩ ?_ ?_ ?_
  ·simp
  ·simp
  ·simp
  ·simp
  rintro i ⟨hi, hall⟩
  simp
  by_cases h : i = ks.length
  ·subst h
   rw [List.take_length] at hall
   refine G0 ?_; try with_reducible exact tt
   refine AW.cond rfl (fun h => ?_) (fun h => ?_)
   ·simp at h
   refine G0 ?_; try with_reducible exact tt
   refine Sub1.int ?_
   rw [wrongM, if_pos hd, if_pos hall]
  ·have hi' : i < ks.length := by omega
   have hp : (i : Int) < ks.length := by omega
   refine G1 (fs hi' hp) ?_; try with_reducible exact tt
   refine AW.cond rfl (fun h => ?_) (fun h => ?_)
   ·have hbad : okK ks[i] = false → wrongM d ks = 2 := by
     intro hb
     rw [wrongM, if_pos hd, if_neg]
     intro ha
     rw [List.all_eq_true] at ha
     have := ha ks[i] (List.getElem_mem _)
     rw [hb] at this; cases this
    by_cases h0 : ks[i] < 0
    ·refine G1 (fs hi' (fs hp h0)) ?_; try with_reducible exact tt
     refine AW.cond rfl (fun h => ?_) (fun h => ?_)
     ·refine G0 ?_; try with_reducible exact tt
      refine Sub1.int ?_
      rw [hbad (by simp [okK]; omega)]
     ·simp [h0] at h
    ·by_cases h1 : 1023 < ks[i]
     ·refine G1 (fs hi' (fs hp (fs h0 h1))) ?_; try with_reducible exact tt
      refine AW.cond rfl (fun h => ?_) (fun h => ?_)
      ·refine G0 ?_; try with_reducible exact tt
       refine Sub1.int ?_
       rw [hbad (by simp [okK]; omega)]
      ·simp [h0, h1] at h
     ·refine G1 (fs hi' (fs hp (fs h0 h1))) ?_; try with_reducible exact tt
      refine AW.cond rfl (fun h => ?_) (fun h => ?_)
      ·simp [h0, h1] at h
      have ew : IntKind.i64.wrap ((i : Int) + 1) = (i : Int) + 1 := w64 (by omega) (by omega)
      refine G1 ew ?_; try with_reducible exact tt
      refine ⟨i + 1, ⟨by omega, ?_⟩, by omega, by simp⟩
      rw [List.take_add_one, List.getElem?_eq_getElem hi']
      intro x hx
      rcases List.mem_append.1 hx with hx | hx
      ·exact List.all_eq_true.1 hall x hx
      ·simp at hx
       subst hx
       simp [okK]; omega
   ·simp [hi'] at h
 ·refine AW.cond rfl (fun h => ?_) (fun h => ?_)
  ·refine G0 ?_; try with_reducible exact tt
   refine Sub1.int ?_
   rw [wrongM, if_neg hd]
  ·simp at h
   exact absurd h hd

theorem o_rj (d k : Int) : Eqn Tryz.prog o_87 [.d (.int .i64 d), .d (.sl 1 [.int .i64 k])] [] (.d (.int .i64 (wrongM d [k]))) [] := o_ri d [k] (by simp)
def stepM (cs : List Bool) (d k : Int) (p : Nat) (dd : Bool) : Bool × Int × Nat × Bool := if wrongM d [k] = 0 then powerR cs d.toNat (d.toNat + 1) k.toNat p dd else (false, wrongM d [k], p, dd)
end
section
open Go.RowKit
theorem o_rk (x : Rat) : ∀ n : Nat, x ^ n = mkRat (x.num ^ n) (x.den ^ n)
 | 0 => by rw [Rat.pow_zero, Int.pow_zero, Nat.pow_zero]; rfl
 | n + 1 => by
  rw [Rat.pow_succ, o_rk x n]
  conv => lhs; rhs; rw [← Rat.mkRat_self x]
  rw [Rat.mkRat_mul_mkRat, Int.pow_succ, Nat.pow_succ]

theorem o_rl (x : Rat) (n : Nat) (hx : 0 ≤ x.num) (hn : n ≤ 8192) (hb1 : bitsN x.num.natAbs ≤ 1 ∨ n ≤ 8192 / bitsN x.num.natAbs) (hb2 : bitsN x.den ≤ 1 ∨ n ≤ 8192 / bitsN x.den) (hs : RS x 129) (hs1 : size (x.num.natAbs ^ n) ≤ 130) (hs2 : size (x.den ^ n) ≤ 130) :
  Eqn Tryz.prog o_8a [.d (rD x), .d (.int .i64 n)] [] (.tup [.d (rD (x ^ n)), .d (.int .i64 0)]) [] := by
 refine Eqn.pure o_8c Plain.ok ?_
 have h1 := o_rc x.num.natAbs n hn hb1 hs.1
 have h2 := o_rc x.den n hn hb2 hs.2
 have h3 := o_r2 x (by have := hs.2; omega)
 have hneg : decide (x.num < 0) = false := by rw [decide_eq_false_iff_not]; omega
 have hab := o_lx x.num.natAbs (decide (x.num < 0))
 have hng := o_ly x.num.natAbs (decide (x.num < 0))
 have h4 := o_qu false (x.num.natAbs ^ n) (x.num ^ n) (by rw [if_neg (by simp), Int.natCast_pow, Int.natAbs_of_nonneg hx])
 have e : (x.num ^ n).natAbs = x.num.natAbs ^ n := Int.natAbs_pow _ _
 have h5 := o_r1 (x.num ^ n) (x.den ^ n) (Nat.pow_pos x.den_pos) (by rw [e]; omega) (by omega)
 rw [← o_rk] at h5
 simp only [o_8b, rD, hneg] at hab hng h3 h5 ⊢
 generalize hz : x.num ^ n = z at *
 simp only [wD] at h4 h5
 refine G0 ?_; try with_reducible exact tt
 refine CallS.pu (hab) (R0 ?_); try with_reducible exact tt
 refine CallS.pu (h1) (R0 ?_); try with_reducible exact tt
 refine AW.cond rfl (fun h => ?_) (fun h => ?_)
 ·simp at h
 refine G0 ?_; try with_reducible exact tt
 refine CallS.pu (h3) (R0 ?_); try with_reducible exact tt
 refine CallS.pu (h2) (R0 ?_); try with_reducible exact tt
 refine AW.cond rfl (fun h => ?_) (fun h => ?_)
 ·simp at h
 refine G0 ?_; try with_reducible exact tt
 refine CallS.pu (hng) (R0 ?_); try with_reducible exact tt
 refine CallS.pu (h4) (R0 ?_); try with_reducible exact tt
 refine CallS.pu (h5) (R0 ?_); try with_reducible exact tt

theorem o_rm (n : Nat) (h : n < 9223372036854775808) : Eqn Tryz.prog o_6v [.d (.int .i64 n)] [] (.d (rD (n : Rat))) [] := by
 refine Eqn.pure o_6x (o_58 _) ?_
 have h1 := o_lz n h
 have e : rD (n : Rat) = .agg [natW n, .bool false, natW 0] := by
  unfold rD
  rw [Rat.num_natCast, Rat.den_natCast, Int.natAbs_natCast]
  congr 4
 rw [e]
 simp only [o_6w]
 refine G0 ?_; try with_reducible exact tt
 refine CallS.pu (h1) (R0 ?_); try with_reducible exact tt
 exact Sub1.rat0

theorem o_rn (p q : Nat) (hp : p < 9223372036854775808) (hq : q < 9223372036854775808) (h0 : 0 < q) : Eqn Tryz.prog o_7a [.d (.int .i64 p), .d (.int .i64 q)] [] (.tup [.d (rD (mkRat p q)), .d (.int .i64 0)]) [] := by
 have hfr : Eqn Tryz.prog o_8p [.d (.agg [natW p, .bool false]), .d (.agg [natW q, .bool false])] [] (.tup [.d (rD (mkRat p q)), .d (.int .i64 0)]) [] := by
  refine Eqn.pure o_8r Plain.ok ?_
  have ha := o_lx q false
  have hp1 := o_lx p false
  have hn1 := o_ly p false
  have hn2 := o_ly q false
  have hz := o_ku q
  have hq0 : (q == 0) = false := by simp; omega
  rw [hq0] at hz
  have h4 := o_qu false p (p : Int) rfl
  have h5 := o_r1 (p : Int) q h0 (by rw [Int.natAbs_natCast]; exact Nat.le_trans (o_lv (by omega)) (by omega)) (Nat.le_trans (o_lv (by omega)) (by omega))
  have e2 : wD (p : Int) = .agg [natW p, .bool false] := by
   unfold wD
   rw [Int.natAbs_natCast]
   congr 4
  rw [e2] at h4 h5
  simp only [o_8q, rD] at h5 ⊢
  refine G0 ?_; try with_reducible exact tt
  refine CallS.pu (ha) (R0 ?_); try with_reducible exact tt
  refine CallS.pu (hz) (R0 ?_); try with_reducible exact tt
  refine AW.cond rfl (fun h => ?_) (fun h => ?_)
  ·simp at h
  refine G0 ?_; try with_reducible exact tt
  refine CallS.pu (hn1) (R0 ?_); try with_reducible exact tt
  refine CallS.pu (hn2) (R0 ?_); try with_reducible exact tt
  refine CallS.pu (hp1) (R0 ?_); try with_reducible exact tt
  refine CallS.pu (h4) (R0 ?_); try with_reducible exact tt
  refine CallS.pu (ha) (R0 ?_); try with_reducible exact tt
  refine CallS.pu (h5) (R0 ?_); try with_reducible exact tt
 refine Eqn.pure o_7c Plain.ok ?_
 have h1 := o_lz p hp
 have h2 := o_lz q hq
 simp only [o_7b, rD] at hfr ⊢
 refine G0 ?_; try with_reducible exact tt
 refine CallS.pu (h1) (R0 ?_); try with_reducible exact tt
 refine CallS.pu (h2) (R0 ?_); try with_reducible exact tt
 refine CallS.pu (hfr) (R0 ?_); try with_reducible exact tt
end
section
def dval : List Nat → Nat
 | [] => 0
 | x :: l => x + 10000 * dval l
def dsmall (ws : List Nat) : Prop := ∀ x ∈ ws, x < 10000

theorem o_ro : ∀ (a b : List Nat), dval (a ++ b) = dval a + 10000 ^ a.length * dval b := by
 intro a
 induction a with
 | nil => intro b; simp [dval]
 | cons x a ih => intro b; simp only [List.cons_append, dval, List.length_cons]; rw [ih, Nat.pow_succ, Nat.mul_add, ← Nat.mul_assoc, Nat.mul_comm 10000 (10000 ^ a.length)]; omega
theorem o_rp : ∀ n, dval (List.replicate n 0) = 0 := by
 intro n
 induction n with
 | zero => rfl
 | succ n ih => rw [List.replicate_succ, dval, ih]
theorem o_rq : ∀ {ws : List Nat}, dsmall ws → dval ws < 10000 ^ ws.length := by
 intro ws
 induction ws with
 | nil => intro _; simp [dval]
 | cons x l ih =>
  intro h
  have h1 := h x (by simp)
  have h2 := ih (fun y hy => h y (by simp [hy]))
  rw [dval, List.length_cons, Nat.pow_succ]
  omega

theorem o_rr (ws : List Nat) : ∀ n, n ≤ ws.length → dval (ws.take (trimN ws n)) = dval (ws.take n) := by
 intro n
 induction n with
 | zero => intro _; rfl
 | succ n ih =>
  intro h
  unfold trimN
  split
  ·rename_i h0
   rw [ih (by omega), o_jp _ _ (by omega), o_ro, h0]
   simp [dval]
  ·rfl
theorem dsmall.take {ws : List Nat} (h : dsmall ws) (n : Nat) : dsmall (ws.take n) := fun x hx => h x (List.mem_of_mem_take hx)

theorem o_rs {ws : List Nat} (h : dsmall ws) (ht : top1 ws) (h0 : dval ws = 0) : ws = [] := by
 rcases ws.eq_nil_or_concat with rfl | ⟨l, x, rfl⟩
 ·rfl
 ·exfalso
  have := ht l.length (by simp)
  simp at this
  simp [o_ro, dval] at h0
  rcases Nat.mul_eq_zero.1 h0.2 with h | h
  ·exact absurd h (Nat.pos_iff_ne_zero.1 (Nat.pow_pos (by decide)))
  ·exact this h

theorem o_rt : ∀ {a b : List Nat}, dsmall a → dsmall b → top1 a → top1 b → dval a = dval b → a = b := by
 intro a
 induction a with
 | nil => intro b _ hb _ tb h; exact (o_rs hb tb h.symm).symm
 | cons x a ih =>
  intro b ha hb ta tb h
  cases b with
  | nil => exact absurd (o_rs ha ta h) (by simp)
  | cons y b =>
   have h1 := ha x (by simp)
   have h2 := hb y (by simp)
   simp only [dval] at h
   have e : x = y := by omega
   subst e
   have e2 : dval a = dval b := by omega
   have e3 : a = b := ih (fun z hz => ha z (by simp [hz])) (fun z hz => hb z (by simp [hz])) (fun k hk => by have := ta (k + 1) (by simp [hk]); simpa using this) (fun k hk => by have := tb (k + 1) (by simp [hk]); simpa using this) e2
   rw [e3]

theorem o_ru : ∀ {ws : List Nat} {m : Nat}, top1 ws → dval ws < 10000 ^ m → ws.length ≤ m := by
 intro ws
 induction ws with
 | nil => intro m _ _; exact Nat.zero_le _
 | cons x l ih =>
  intro m ht h
  cases m with
  | zero =>
   exfalso
   rw [Nat.pow_zero] at h
   rw [dval] at h
   cases l with
   | nil =>
    have := ht 0 rfl
    simp [dval] at this h
    omega
   | cons y l =>
    have hw : dval (y :: l) = 0 := by omega
    have : (y :: l).length ≤ 0 := ih (m := 0) (fun k hk => by have := ht (k + 1) (by simp [hk]); simpa using this) (by rw [hw]; decide)
    simp at this
  | succ m =>
   rw [List.length_cons]
   have : l.length ≤ m := by
    cases l with
    | nil => exact Nat.zero_le _
    | cons y l =>
     refine ih (fun k hk => by have := ht (k + 1) (by simp [hk]); simpa using this) ?_
     rw [dval, Nat.pow_succ] at h
     omega
   omega

theorem o_rv (f : Nat → Nat) (n : Nat) : dval ((List.range (n + 1)).map f) = dval ((List.range n).map f) + 10000 ^ n * f n := by
 rw [List.range_succ, List.map_append, o_ro]
 simp [dval]
theorem o_rw (l : List Nat) (n : Nat) : dval (l.take (n + 1)) = dval (l.take n) + 10000 ^ n * l.getD n 0 := by
 by_cases h : n < l.length
 ·rw [o_jp _ _ h, o_ro, List.length_take, Nat.min_eq_left (Nat.le_of_lt h)]
  simp [dval]
 ·rw [List.take_of_length_le (by omega), List.take_of_length_le (by omega)]
  simp [List.getD, List.getElem?_eq_none (show l.length ≤ n by omega)]

def carryD (a b : List Nat) : Nat → Nat
 | 0 => 0
 | n + 1 => (a.getD n 0 + b.getD n 0 + carryD a b n) / 10000
def addD (a b : List Nat) (n : Nat) : Nat := (a.getD n 0 + b.getD n 0 + carryD a b n) % 10000

theorem dsmall.getD {l : List Nat} (h : dsmall l) (n : Nat) : l.getD n 0 < 10000 := by
 by_cases hn : n < l.length
 ·rw [List.getD, List.getElem?_eq_getElem hn]; exact h _ (List.getElem_mem hn)
 ·simp [List.getD, List.getElem?_eq_none (show l.length ≤ n by omega)]
theorem o_rx {a b : List Nat} (ha : dsmall a) (hb : dsmall b) : ∀ n, carryD a b n ≤ 1 := by
 intro n
 induction n with
 | zero => exact Nat.zero_le _
 | succ n ih =>
  have h1 := ha.getD n
  have h2 := hb.getD n
  simp only [carryD]
  omega
theorem o_ry (a b : List Nat) : ∀ n, dval ((List.range n).map (addD a b)) + 10000 ^ n * carryD a b n = dval (a.take n) + dval (b.take n) := by
 intro n
 induction n with
 | zero => simp [dval, carryD]
 | succ n ih =>
  rw [o_rv, o_rw, o_rw]
  have := Nat.div_add_mod (a.getD n 0 + b.getD n 0 + carryD a b n) 10000
  simp only [addD, carryD]
  rw [Nat.pow_succ]
  generalize 10000 ^ n = P at *
  generalize (a.getD n 0 + b.getD n 0 + carryD a b n) / 10000 = q at *
  generalize (a.getD n 0 + b.getD n 0 + carryD a b n) % 10000 = r at *
  have e : P * (10000 * q + r) = P * a.getD n 0 + P * b.getD n 0 + P * carryD a b n := by rw [this]; simp [Nat.mul_add]
  rw [Nat.mul_add, ← Nat.mul_assoc] at e
  omega

def borrowD (a b : List Nat) : Nat → Nat
 | 0 => 0
 | n + 1 => if a.getD n 0 < b.getD n 0 + borrowD a b n then 1 else 0
def subD (a b : List Nat) (n : Nat) : Nat := (a.getD n 0 + 10000 - b.getD n 0 - borrowD a b n) % 10000
theorem o_rz (a b : List Nat) : ∀ n, borrowD a b n ≤ 1 := by
 intro n
 cases n with
 | zero => exact Nat.zero_le _
 | succ n => simp only [borrowD]; split <;> omega
theorem o_s0 {a b : List Nat} (ha : dsmall a) (hb : dsmall b) : ∀ n, dval ((List.range n).map (subD a b)) + dval (b.take n) = dval (a.take n) + 10000 ^ n * borrowD a b n := by
 intro n
 induction n with
 | zero => simp [dval, borrowD]
 | succ n ih =>
  rw [o_rv, o_rw, o_rw]
  have h1 := ha.getD n
  have h2 := hb.getD n
  have h3 := o_rz a b n
  have e : subD a b n + b.getD n 0 + borrowD a b n = a.getD n 0 + 10000 * borrowD a b (n + 1) := by
   simp only [subD, borrowD]
   split <;> omega
  rw [Nat.pow_succ, Nat.mul_assoc]
  generalize 10000 ^ n = P at *
  have e2 : P * subD a b n + P * b.getD n 0 + P * borrowD a b n = P * a.getD n 0 + P * (10000 * borrowD a b (n + 1)) := by rw [← Nat.mul_add, ← Nat.mul_add, e, Nat.mul_add]
  omega
theorem o_s1 {f : Nat → Nat} (h : ∀ i, f i < 10000) (n : Nat) : dsmall ((List.range n).map f) := by
 intro x hx
 obtain ⟨i, _, rfl⟩ := List.mem_map.1 hx
 exact h i
theorem o_s2 (a b : List Nat) (i : Nat) : addD a b i < 10000 := Nat.mod_lt _ (by decide)
theorem o_s3 (a b : List Nat) (i : Nat) : subD a b i < 10000 := Nat.mod_lt _ (by decide)

theorem o_s4 {a b : List Nat} (ha : dsmall a) (hb : top1 b) (h : a.length < b.length) : dval a < dval b := by
 refine Nat.lt_of_lt_of_le (o_rq ha) ?_
 apply Nat.le_of_not_lt
 intro hlt
 have := o_ru hb hlt
 omega
theorem o_s5 {l : List Nat} (h : dsmall l) (n : Nat) : dval (l.take n) < 10000 ^ n := by
 have := o_rq (h.take n)
 rw [List.length_take] at this
 exact Nat.lt_of_lt_of_le this (Nat.pow_le_pow_right (by decide) (Nat.min_le_left _ _))
theorem o_s6 {a b : List Nat} (ha : dsmall a) (hb : dsmall b) : ∀ n, cmpN a b n = if dval (a.take n) < dval (b.take n) then -1 else if dval (b.take n) < dval (a.take n) then 1 else 0 := by
 intro n
 induction n with
 | zero => simp [cmpN, dval]
 | succ n ih =>
  rw [o_rw, o_rw]
  have h1 := o_s5 ha n
  have h2 := o_s5 hb n
  simp only [cmpN]
  generalize 10000 ^ n = P at *
  generalize a.getD n 0 = x at *
  generalize b.getD n 0 = y at *
  by_cases hxy : x < y
  ·rw [if_pos hxy, if_pos]
   have : P * (x + 1) ≤ P * y := Nat.mul_le_mul_left _ hxy
   rw [Nat.mul_add] at this
   omega
  ·rw [if_neg hxy]
   by_cases hyx : y < x
   ·have : P * (y + 1) ≤ P * x := Nat.mul_le_mul_left _ hyx
    rw [Nat.mul_add] at this
    rw [if_pos hyx, if_neg (by omega), if_pos (by omega)]
   ·obtain rfl : x = y := by omega
    rw [if_neg hyx, ih]
    simp only [Nat.add_lt_add_iff_right]

def decsF : Nat → Nat → List Nat
 | 0, _ => []
 | f + 1, n => if n = 0 then [] else (n % 10000) :: decsF f (n / 10000)
def decs (n : Nat) : List Nat := decsF n n

theorem o_s7 : ∀ (f n : Nat), n ≤ f → dval (decsF f n) = n ∧ dsmall (decsF f n) ∧ top1 (decsF f n)
 | 0, n, h => by
  obtain rfl : n = 0 := by omega
  exact ⟨rfl, by simp [dsmall, decsF], by intro k hk; simp [decsF] at hk⟩
 | f + 1, n, h => by
  by_cases h0 : n = 0
  ·subst h0
   simp only [decsF, if_true]
   exact ⟨rfl, by simp [dsmall], by intro k hk; simp at hk⟩
  ·obtain ⟨h1, h2, h3⟩ := o_s7 f (n / 10000) (by omega)
   simp only [decsF, if_neg h0]
   refine ⟨by simp only [dval, h1]; omega, fun x hx => ?_, fun k hk => ?_⟩
   ·rcases List.mem_cons.1 hx with rfl | hx
    ·omega
    ·exact h2 x hx
   ·cases hl : decsF f (n / 10000) with
    | nil =>
     rw [hl] at h1 hk
     simp [dval] at h1 hk
     subst hk
     simp; omega
    | cons y r =>
     rw [hl] at hk h3
     simp at hk
     subst hk
     have := h3 r.length rfl
     simpa using this
theorem o_s8 (n : Nat) : dval (decs n) = n := (o_s7 n n (Nat.le_refl _)).1
theorem o_s9 (n : Nat) : dsmall (decs n) := (o_s7 n n (Nat.le_refl _)).2.1
theorem o_sa (n : Nat) : top1 (decs n) := (o_s7 n n (Nat.le_refl _)).2.2
theorem o_sb {ws : List Nat} (h : dsmall ws) (ht : top1 ws) : decs (dval ws) = ws := o_rt (o_s9 _) h (o_sa _) ht (o_s8 _)
theorem o_sc {n : Nat} : decs n = [] ↔ n = 0 := by
 constructor
 ·intro h; have := o_s8 n; rw [h] at this; exact this.symm
 ·rintro rfl; rfl


def sizeD (n : Nat) : Nat := (decs n).length
end
section
open Go.RowKit
theorem o_sd : MethOK Tryz.prog 223 "tallymark/chain.good" o_i7 := fun v w => by kernel_rfl
theorem o_se : MethOK Tryz.prog 224 "tallymark/chain.good" o_id := fun v w => by kernel_rfl
theorem o_sf : MethOK Tryz.prog 225 "tallymark/chain.good" o_iv := fun v w => by kernel_rfl
theorem o_sg (a : Int) : Eqn Tryz.prog o_i7 [.d (.int .i64 a)] [] (.d (.bool (decide (1 ≤ a ∧ a ≤ 4096)))) [] := by
 refine Eqn.pure o_i9 (o_58 _) ?_
 simp only [o_i8]
 refine G0 ?_; try with_reducible exact tt
 refine CallS.pu (o_rh a) (R0 ?_); try with_reducible exact tt
theorem o_sh (a : Int) : Eqn Tryz.prog o_id [.d (.int .i64 a)] [] (.d (.bool (decide (0 ≤ a ∧ a ≤ 8)))) [] := by
 refine Eqn.pure o_if (o_58 _) ?_
 simp only [o_ie]
 refine G0 ?_; try with_reducible exact tt
 refine CallS.pu (o_rd a) (R0 ?_); try with_reducible exact tt

def kindD (k a : Int) : D := if k = 1 then .ifc 223 (.int .i64 a) else if k = 2 then .ifc 224 (.int .i64 a) else if k = 3 then .ifc 225 (.int .i64 a) else .nilifc
theorem o_si (k a w : Int) : Eqn Tryz.prog o_a7 [.d (.agg [.int .i64 k, .int .i64 a, .int .i64 w])] [] (.d (kindD k a)) [] := by
 refine Eqn.pure o_a9 (o_58 _) ?_
 simp only [o_a8, kindD]
 refine G0 ?_; try with_reducible exact tt
 refine AW.cond rfl (fun h => ?_) (fun h => ?_)
 ·have hk : k = 1 := by simpa using h
  subst hk
  refine G0 ?_; try with_reducible exact tt
 have h1 : ¬ k = 1 := by simpa using h
 clear h
 refine G1 h1 ?_; try with_reducible exact tt
 refine AW.cond rfl (fun h => ?_) (fun h => ?_)
 ·have hk : k = 2 := by simpa using h
  subst hk
  refine G0 ?_; try with_reducible exact tt
 have h2 : ¬ k = 2 := by simpa using h
 clear h
 refine G1 (fs h1 h2) ?_; try with_reducible exact tt
 refine AW.cond rfl (fun h => ?_) (fun h => ?_)
 ·have hk : k = 3 := by simpa using h
  subst hk
  refine G0 ?_; try with_reducible exact tt
 have h3 : ¬ k = 3 := by simpa using h
 clear h
 refine G1 (fs h1 (fs h2 h3)) ?_; try with_reducible exact tt
end
section
open Go.RowKit
theorem o_sj (s : Int) : Eqn Tryz.prog o_j1 [.d (.int .i64 s)] [] (.d (.bool (decide (1 ≤ s ∧ s ≤ 5)))) [] := by
 refine Eqn.pure o_j3 (o_58 _) ?_
 simp only [o_j2]
 by_cases h : 1 ≤ s
 ·refine G1 h ?_; try with_reducible exact tt
 ·refine G1 h ?_; try with_reducible exact tt

theorem o_sk {x m : Nat} (h : x < 2 ^ (64 * m)) : size x ≤ m := by
 apply o_k5 (o_kl x)
 rw [o_kj, show (18446744073709551616 : Nat) = 2 ^ 64 by rfl, ← Nat.pow_mul]
 exact h

theorem o_sl {a b m : Nat} (ha : size a ≤ m) (hb : size b ≤ m) : size (a + b) ≤ m + 1 := by
 refine o_sk ?_
 have h1 := o_jo (o_kk a)
 have h2 := o_jo (o_kk b)
 rw [o_kj, show (18446744073709551616 : Nat) = 2 ^ 64 by rfl, ← Nat.pow_mul] at h1 h2
 have h3 : (2 : Nat) ^ (64 * (words a).length) ≤ 2 ^ (64 * m) := Nat.pow_le_pow_right (by omega) (by unfold size at ha; omega)
 have h4 : (2 : Nat) ^ (64 * (words b).length) ≤ 2 ^ (64 * m) := Nat.pow_le_pow_right (by omega) (by unfold size at hb; omega)
 have h5 : (2 : Nat) ^ (64 * (m + 1)) = 2 ^ (64 * m) * 18446744073709551616 := by rw [show 64 * (m + 1) = 64 * m + 64 by omega, Nat.pow_add]
 rw [h5]
 generalize (2 : Nat) ^ (64 * m) = z at *
 omega

theorem o_sm {x n m : Nat} (h : x < 2 ^ n) (hm : n ≤ 64 * m) : size x ≤ m :=
 o_sk (Nat.lt_of_lt_of_le h (Nat.pow_le_pow_right (by omega) hm))
theorem o_sn (t : Nat) : bitsN t ≤ 64 * size t := by
 apply o_mv
 have h1 := o_jo (o_kk t)
 rw [o_kj, show (18446744073709551616 : Nat) = 2 ^ 64 by rfl, ← Nat.pow_mul] at h1
 exact h1
theorem o_so (s t : Nat) (hs : s ≤ 5) (ht : size t ≤ 1000) : Eqn Tryz.prog o_jf [.d (.int .i64 s), .d (.agg [natW t])] [] (.d (.int .i64 (shiftY s t))) [] := by
 refine Eqn.pure o_jh (o_58 _) ?_
 simp only [o_jg]
 have hb := o_sn t
 refine G0 ?_; try with_reducible exact tt
 refine CallS.pu (o_ng t (by omega)) (R0 ?_); try with_reducible exact tt
 have e1 : IntKind.i64.wrap ((bitsN t : Int) - 1) = (bitsN t : Int) - 1 := w64 (by omega) (by omega)
 have e2 : IntKind.i64.wrap (2 * (s : Int)) = 2 * (s : Int) := w64 (by omega) (by omega)
 have e3 : IntKind.i64.wrap ((bitsN t : Int) - 1 - 2 * (s : Int)) = (bitsN t : Int) - 1 - 2 * (s : Int) := w64 (by omega) (by omega)
 have e4 : max 0 ((bitsN t : Int) - 1 - 2 * (s : Int)) = (shiftY s t : Int) := by unfold shiftY; omega
 simp [e1, e2, e3, e4]

theorem o_sp (s t : Nat) (hs : s ≤ 5) (ht : size t ≤ 1000) : Eqn Tryz.prog o_jc [.d (.int .i64 s), .d (.agg [natW t])] [] (.d (.agg [natW (moreY s t)])) [] := by
 refine Eqn.pure o_je (o_58 _) ?_
 simp only [o_jd]
 have hq := Nat.div_le_self t (2 ^ s)
 have hq2 := Nat.div_mul_le_self t (2 ^ s)
 have hm : moreY s t = t + (if t / 2 ^ s * 2 ^ s < t then t / 2 ^ s + 1 else t / 2 ^ s) := rfl
 rw [hm]
 have s1 := o_ld hq
 have s2 := o_ld hq2
 have s1' : size 1 ≤ 1 := o_lv (by omega)
 refine G0 ?_; try with_reducible exact tt
 refine CallS.pu (o_no t s (by omega) (by omega)) (R0 ?_); try with_reducible exact tt
 refine CallS.pu (o_ln (t / 2 ^ s) s (by omega) (by omega)) (R0 ?_); try with_reducible exact tt
 generalize hQ : t / 2 ^ s = q at *
 generalize q * 2 ^ s = b at *
 refine CallS.pu (o_kw b t (by omega) (by omega)) (R0 ?_); try with_reducible exact tt
 have hb : size (q + 1) ≤ 1001 := by
  have := o_sl (a := q) (b := 1) (m := 1000) (by omega) (by omega)
  omega
 by_cases hlt : b < t
 ·simp only [if_pos hlt]
  refine AW.cond rfl (fun h => ?_) (fun h => ?_)
  ·refine G0 ?_; try with_reducible exact tt
   refine CallS.pf 4 1 ⟨194, _⟩ [.int .u64 (1 : Nat)] (o_kt [1] (o_lp (by omega)) (by simp)) (by first | rfl | (simp; done)) (R0 ?_); try with_reducible exact tt
   refine CallS.pu (o_la q 1 (by omega) (by omega)) (R0 ?_); try with_reducible exact tt
   refine CallS.pu (o_la t (q + 1) (by omega) (by omega)) (R0 ?_); try with_reducible exact tt
  ·simp [o_lq, hlt] at h
 ·simp only [if_neg hlt]
  refine AW.cond rfl (fun h => ?_) (fun h => ?_)
  ·simp [o_lq, hlt] at h
  ·refine G0 ?_; try with_reducible exact tt
   refine CallS.pu (o_la t q (by omega) (by omega)) (R0 ?_); try with_reducible exact tt

def plD (p : Pl) : D := .agg [.int .i64 p.x, .int .i64 p.shift, natW p.value, natW p.reply]

theorem o_sq {s t : Nat} : moreY s t ≤ 4 * t := by
 unfold moreY
 have h1 := Nat.div_le_self t (2 ^ s)
 split
 ·rename_i h
  have : 0 < t := by omega
  omega
 ·omega

theorem o_sr (s : Nat) (p : Pl) (hs : s ≤ 5) (hx : p.x ≤ 100000) (h1 : p.shift ≤ 8192) (h2 : size p.value ≤ 900) (h3 : size p.reply ≤ 900) :
  Eqn Tryz.prog o_j9 [.d (plD p), .d (.int .i64 s)] [] (.d (plD (nextY s p))) [] := by
 refine Eqn.pure o_jb (o_58 _) ?_
 obtain ⟨x, sh, v, r⟩ := p
 simp only at hx h1 h2 h3
 simp only [o_ja, plD, nextY]
 have s1 : size 1 ≤ 1 := o_lv (by omega)
 have hsz : size (1 * 2 ^ sh) ≤ 129 := o_sm (n := sh + 1) (by rw [Nat.one_mul]; exact Nat.pow_lt_pow_right (by omega) (Nat.lt_succ_self _)) (by omega)
 have hv := o_sl (m := 900) h2 (by omega : size (1 * 2 ^ sh) ≤ 900)
 refine G0 ?_; try with_reducible exact tt
 refine CallS.pf 2 1 ⟨194, _⟩ [.int .u64 (1 : Nat)] (o_kt [1] (o_lp (by omega)) (by simp)) (by first | rfl | (simp; done)) (R0 ?_); try with_reducible exact tt
 refine CallS.pu (o_ln 1 sh (by omega) h1) (R0 ?_); try with_reducible exact tt
 rw [Nat.one_mul] at hsz hv
 generalize 2 ^ sh = st at *
 refine CallS.pu (o_la v st (by omega) (by omega)) (R0 ?_); try with_reducible exact tt
 refine CallS.pu (o_kw (v + st) r (by omega) (by omega)) (R0 ?_); try with_reducible exact tt
 have hge : (0 ≤ cmpZ (v + st) r) ↔ r ≤ v + st := by
  unfold cmpZ; split <;> (try split) <;> omega
 by_cases hr : r ≤ v + st
 ·simp only [if_pos hr]
  have ew : IntKind.i64.wrap ((x : Int) + 1) = (x : Int) + 1 := w64 (by omega) (by omega)
  refine AW.cond rfl (fun h => ?_) (fun h => ?_)
  ·have hm := o_sq (s := s) (t := r)
   have hms := o_ld hm
   have hrr := o_sl h3 h3
   have hmsz : size (moreY s r) ≤ 1000 := by
    have := o_sl hrr hrr
    have h4 : r + r + (r + r) = 4 * r := by omega
    rw [h4] at this
    omega
   refine G1 ew ?_; try with_reducible exact tt
   refine CallS.pu (o_sp s r hs (by omega)) (R0 ?_); try with_reducible exact tt
   refine CallS.pu (o_so s (moreY s r) hs hmsz) (R0 ?_); try with_reducible exact tt
  ·simp [hge, hr] at h
 ·simp only [if_neg hr]
  refine AW.cond rfl (fun h => ?_) (fun h => ?_)
  ·simp [hge, hr] at h
  ·refine G0 ?_; try with_reducible exact tt
end
section
open Go.RowKit
theorem o_ss (s : Nat) : Eqn Tryz.prog n_yu_walk [.d (.int .i64 s)] [] (.fn (.func o_j7) [.p 0 0]) [⟨3, [.d (.int .i64 s)]⟩] := by
 refine Eqn.newX r_yu_walk rfl ⟨rfl, fun _ => rfl⟩ (fun n => rfl) ?_
 simp only [c_yu_walk]
 refine G0 ?_; try with_reducible exact tt
 exact ⟨0, Sub1.refl _, _, rfl, rfl, Subs.refl _⟩

structure WalkS where
 r0 : C
 r1 : C
 g : C
 os : List O
 call : Option (Nat × List Nat × Option Nat)
 o4 : O
 cy : X
 r5 : C
 r6 : C
 ids : Nat × Nat
 calm : Bool
 res : Nat
 nt : Nat
def callS (o : Oper) : Option (Nat × List Nat × Option Nat) := match o.op, o.guard with
 | .call c, none => match c.callee, c.args.toList with
  | .value (.tmp f), [.tmp x, .tmp y] => some (f, [x, y], o.dst)
  | _, _ => none
 | _, _ => none
def walkS (P : Program) (f : FuncId) : Option WalkS := match P.funcs[f]? with
 | some fn => match fn.body with
  | some (.seq r0 (.seq r1 (.block i0 (.loop (.seq g (.seq (.block i1 (.seq (.seq (.region _ ops false) (.cond cy .ret .skip)) r5)) r6)))))) => match ops.toList with
   | [o0, o1, o2, o3, o4] => some ⟨resolveC P r0, resolveC P r1, resolveC P g, [o0, o1, o2].map (resolveO P ops), callS o3, resolveO P ops o4, X.of cy, resolveC P r5, resolveC P r6, (i0, i1), [o0, o1, o2].all notDefer && [o4].all notDefer, fn.results.size, fn.ntmps⟩
   | _ => none
  | _ => none
 | none => none
theorem o_st {P : Program} {f : FuncId} {s : WalkS} (h : walkS P f = some s) : ∃ (fn : Func) (r0 r1 g r5 r6 : Code) (i id : Nat) (ops : Array Oper) (o0 o1 o2 o3 o4 : Oper) (cy : Operand),
  P.funcs[f]? = some fn ∧ fn.body = some (.seq r0 (.seq r1 (.block s.ids.1 (.loop (.seq g (.seq (.block s.ids.2 (.seq (.seq (.region id ops false) (.cond cy .ret .skip)) r5)) r6)))))) ∧ ops.toList = [o0, o1, o2, o3, o4] ∧
  resolveC P r0 = s.r0 ∧ resolveC P r1 = s.r1 ∧ resolveC P g = s.g ∧ [o0, o1, o2].map (resolveO P ops) = s.os ∧ callS o3 = s.call ∧ resolveO P ops o4 = s.o4 ∧ X.of cy = s.cy ∧ resolveC P r5 = s.r5 ∧ resolveC P r6 = s.r6 ∧ ([o0, o1, o2].all notDefer && [o4].all notDefer) = s.calm ∧ fn.results.size = s.res ∧ fn.ntmps = s.nt := by
 unfold walkS at h
 split at h
 ·rename_i fn hf
  split at h
  ·rename_i r0 r1 i0 g i1 id ops cy r5 r6 hb
   split at h
   ·rename_i o0 o1 o2 o3 o4 ho
    cases h
    exact ⟨fn, r0, r1, g, r5, r6, 0, id, ops, o0, o1, o2, o3, o4, cy, hf, hb, ho, rfl, rfl, rfl, rfl, rfl, rfl, rfl, rfl, rfl, rfl, rfl, rfl⟩
   ·cases h
  ·cases h
 ·cases h
theorem o_su {o : Oper} {f x y : Nat} {d : Option Nat} (h : callS o = some (f, [x, y], d)) : ∃ c, o.op = .call c ∧ o.guard = none ∧ c.callee = .value (.tmp f) ∧ c.args.toList = [.tmp x, .tmp y] ∧ o.dst = d := by
 unfold callS at h
 split at h
 ·rename_i c ho hg
  split at h
  ·rename_i hc ha
   cases h
   exact ⟨c, ho, hg, hc, ha, rfl⟩
  ·cases h
 ·cases h

structure AtS where
 a1 : C
 a2 : C
 a3 : C
 a4 : C
 g : X
 ps : List Nat
 asg : C
 bd : C
 a5 : List O
 id : Nat
 calm : Bool
 rs : List RV
 nt : Nat
def atS (P : Program) (f : FuncId) : Option AtS := match P.funcs[f]? with
 | some fn => match fn.body with
  | some (.seq a1 (.seq a2 (.seq a3 (.seq (.seq a4 (.block id (.rangeFunc g ps asg bd))) (.seq (.region _ ops false) .ret))))) =>
   some ⟨resolveC P a1, resolveC P a2, resolveC P a3, resolveC P a4, X.of g, ps.toList, resolveC P asg, resolveC P bd, ops.toList.map (resolveO P ops), id, Code.calm asg && (Code.calm bd && ops.toList.all notDefer), fn.results.toList.map (resolveR P), fn.ntmps⟩
  | _ => none
 | none => none
theorem o_sv {P : Program} {f : FuncId} {s : AtS} (h : atS P f = some s) : ∃ (fn : Func) (a1 a2 a3 a4 asg bd : Code) (g : Operand) (ps : Array Nat) (id : Nat) (ops : Array Oper),
  P.funcs[f]? = some fn ∧ fn.body = some (.seq a1 (.seq a2 (.seq a3 (.seq (.seq a4 (.block s.id (.rangeFunc g ps asg bd))) (.seq (.region id ops false) .ret))))) ∧
  resolveC P a1 = s.a1 ∧ resolveC P a2 = s.a2 ∧ resolveC P a3 = s.a3 ∧ resolveC P a4 = s.a4 ∧ X.of g = s.g ∧ ps.toList = s.ps ∧ resolveC P asg = s.asg ∧ resolveC P bd = s.bd ∧ ops.toList.map (resolveO P ops) = s.a5 ∧ (Code.calm asg && (Code.calm bd && ops.toList.all notDefer)) = s.calm ∧ fn.results.toList.map (resolveR P) = s.rs ∧ fn.ntmps = s.nt := by
 unfold atS at h
 split at h
 ·rename_i fn hf
  split at h
  ·rename_i a1 a2 a3 a4 id g ps asg bd id' ops hb
   cases h
   exact ⟨fn, a1, a2, a3, a4, asg, bd, g, ps, id', ops, hf, hb, rfl, rfl, rfl, rfl, rfl, rfl, rfl, rfl, rfl, rfl, rfl, rfl⟩
  ·cases h
 ·cases h

def C.l : C → C
 | .seq a _ => a
 | c => c
def C.r : C → C
 | .seq _ b => b
 | c => c
def C.b : C → C
 | .block _ a | .loop a => a
 | c => c
def C.os : C → List O
 | .reg _ l => l
 | _ => []
def cAsg : C := .seq (.reg false [⟨some 7, .mv (.t 24), none, []⟩]) (.reg false [⟨some 8, .new 331 [.int .i64 0, .int .i64 0, .nilsl, .nilsl], none, []⟩, ⟨none, .store 4 (.t 8) (.t 25), none, [0, 0]⟩])
def cBd : C := .block 2 (.seq (.reg false [⟨some 26, .load true 4 (.t 8), none, []⟩, ⟨none, .store 4 (.t 6) (.t 26), none, [0, 0]⟩])
 (.seq (.reg false [⟨some 27, .mv (.t 7), none, []⟩, ⟨some 28, .load false 1 (.t 3), none, []⟩, ⟨some 29, .bin .eql (.t 27) (.t 28), none, [0, 1]⟩]) (.cond (.t 29) (.exit 1) .skip)))
theorem at_s : atS Tryz.prog o_j4 = some ⟨o_j5.l, o_j5.r.l, o_j5.r.r.l, o_j5.r.r.r.l.l, .t 23, [24, 25], cAsg, cBd, o_j5.r.r.r.r.l.os, 1, true, [.cell 4 true 4, .t 5], 31⟩ := by kernel_rfl
abbrev cWb : C := o_j8.r.r.b.b
theorem o_sw : walkS Tryz.prog o_j7 = some ⟨o_j8.l, o_j8.r.l, cWb.l, (cWb.r.l.b.l.l.os).take 3, some (15, [16, 17], some 18), ((cWb.r.l.b.l.l.os).drop 4).headD ⟨none, .bad, none, []⟩, .t 19, cWb.r.l.b.r, cWb.r.r, (0, 1), true, 0, 23⟩ := by kernel_rfl

abbrev kO (K : Nat) : Ob := ⟨3, [.d (.int .i64 K)]⟩
abbrev plO (c : List V) : Ob := ⟨331, c⟩

def Tr (i : Nat) (p : List D) : List V := [.junk, .junk, .junk, .p 0 0, .junk, .junk, .p 2 0] ++ List.replicate 17 .junk ++ [.d (.int .i64 i), .d (.agg p)] ++ List.replicate 5 .junk

theorem o_sx (l n K i : Nat) (c : List V) (p : List D) (hp : p.length = 4) : AWr Tryz.prog (some l) n 3 cAsg (thenQ (fun T H => T = ((Tr i p).set 7 (.d (.int .i64 i))).set 8 (.p 3 0) ∧ H = [some (kO K), none, some (plO c), some (plO (p.map .d))]) noQ) (Tr i p) [some (kO K), none, some (plO c)] := by
 obtain ⟨p1, p2, p3, p4, rfl⟩ : ∃ a b c d, p = [a, b, c, d] := by
  match p, hp with
  | [a, b, c, d], _ => exact ⟨a, b, c, d, rfl⟩
 simp only [cAsg, Tr]
 refine AWr.seq (AWr.reg ?_)
 simp
 refine AWr.reg ?_
 simp

theorem o_sy (l n K i : Nat) (c : List V) (hc : c.length = 4) (p : List D) (hp : p.length = 4) : AWr Tryz.prog (some l) n 3 cBd (fun e T H => H = [some (kO K), none, some (plO (p.map .d)), some (plO (p.map .d))] ∧ e = if i = K then .exit 1 else .normal) (((Tr i p).set 7 (.d (.int .i64 i))).set 8 (.p 3 0)) [some (kO K), none, some (plO c), some (plO (p.map .d))] := by
 obtain ⟨p1, p2, p3, p4, rfl⟩ : ∃ a b c d, p = [a, b, c, d] := by
  match p, hp with
  | [a, b, c, d], _ => exact ⟨a, b, c, d, rfl⟩
 obtain ⟨c1, c2, c3, c4, rfl⟩ : ∃ a b c' d, c = [a, b, c', d] := by
  match c, hc with
  | [a, b, c, d], _ => exact ⟨a, b, c, d, rfl⟩
 simp only [cBd, Tr]
 refine AWr.block ?_
 refine AWr.seq (AWr.reg ?_)
 simp
 refine AWr.seq (AWr.reg ?_)
 by_cases h : i = K
 ·subst h
  simp
  refine AWr.cond rfl (fun h => ?_) (fun h => ?_)
  ·refine AWr.exit ?_
   simp
  ·simp at h
 ·have h' : ¬ (i : Int) = K := by omega
  simp [h, h']
  refine AWr.cond rfl (fun h => ?_) (fun h => ?_)
  ·simp at h
   omega
  ·refine AWr.skip ?_
   simp

theorem o_sz {m : Mem} {n : Nat} {o : Ob} (h : m.obj n o) : ∃ b, m.ρ n = some b := by
 obtain ⟨b, _, _, h1, _⟩ := h; exact ⟨b, h1⟩

def RoundR (K i : Nat) (p : List D) (m : Mem) (l : Nat) (rec : LoopState → Option Code → Loop) (e : Ending) (w' : World) : Prop :=
 ∃ m' : Mem, m'.w = w' ∧ m'.base ∧ m'.obj 0 (kO K) ∧ m'.obj 2 (plO (p.map .d)) ∧
  if i = K then e = .returned (.bool false) ∧ (m.at (m.w.putObj l (.loop (rec .done (some (.exit 1)))))).le m' (· < 3) else e = .returned (.bool true) ∧ m.le m' (· < 3)

theorem o_t0 {asg bd : Code} (hasg : resolveC Tryz.prog asg = cAsg) (hbd : resolveC Tryz.prog bd = cBd) (ca : Code.calm asg = true) (cb : Code.calm bd = true) {fn df : Nat} {tmps : Array Value} {rec : LoopState → Option Code → Loop}
  (hrec : rec = fun st pe => { state := st, pending := pe, fn, tmps, params := #[24, 25], assign := asg, body := bd, defers := df }) (n K i : Nat) (p : List D) (hp : p.length = 4) {m : Mem} {l : Nat} {c : List V} (mb : m.base) (h0 : m.obj 0 (kO K)) (h2 : m.obj 2 (plO c)) (hc : c.length = 4)
  (hinj : ∀ b, m.ρ 0 = some b → m.ρ 2 ≠ some b) (htop : ∀ n, n ≠ 0 → n ≠ 2 → m.ρ n = none) (t3 : (V.p 0 0).rep m (tmps.getD 3 undef)) (t6 : (V.p 2 0).rep m (tmps.getD 6 undef)) (hsz : tmps.size = 31) (hlo : m.loose l) (hl : m.w.heap[l]? = some (.loop (rec .ready none))) {v : Value} (hv : (V.d (.agg p)).rep m v) :
  YieldAt Fence.wide n Tryz.prog l #[.int .i64 i, v] m.w (RoundR K i p m l rec) := by
 have hy := run_yield (P := Tryz.prog) (args := #[.int .i64 i, v]) hl (by rw [hrec]; rfl)
 refine ⟨_, _, _, _, hy, ?_⟩
 have ht : ((rec .ready none).params.zip #[.int .i64 i, v]).foldl (fun tmps (t, a) => tmps.setIfInBounds t a) (rec .ready none).tmps = (tmps.setIfInBounds 24 (.int .i64 i)).setIfInBounds 25 v := by
  rw [hrec]; simp
 rw [ht, show (rec .ready none).assign = asg by rw [hrec], show (rec .ready none).body = bd by rw [hrec]]
 clear hy ht
 have sat : Sat m ⟨(tmps.setIfInBounds 24 (.int .i64 i)).setIfInBounds 25 v, []⟩ (Tr i p) [some (kO K), none, some (plO c)] := by
  refine ⟨mb, fun s => ?_, fun n ob h => ?_, fun n k b ln lk h1 h3 => ?_, fun n h => htop n (by simp at h; omega) (by simp at h; omega), by simp [Tr, hsz], rfl⟩
  ·have g : ((tmps.setIfInBounds 24 (.int .i64 i)).setIfInBounds 25 v).getD s undef = if s = 25 then v else if s = 24 then .int .i64 i else tmps.getD s undef := by
    rw [Array.getD_eq_getD_getElem?, Array.getElem?_setIfInBounds]
    by_cases e1 : s = 25
    ·subst e1; simp [hsz]
    ·rw [if_neg (by omega), if_neg e1, Array.getElem?_setIfInBounds]
     by_cases e2 : s = 24
     ·subst e2; simp [hsz]
     ·rw [if_neg (by omega), if_neg e2, Array.getD_eq_getD_getElem?]
   have g2 : (Tr i p).getD s .junk = if s = 25 then .d (.agg p) else if s = 24 then .d (.int .i64 i) else if s = 3 then .p 0 0 else if s = 6 then .p 2 0 else .junk := by
    rcases Nat.lt_or_ge s 31 with hs | hs
    ·have : ∀ s, s < 31 → (Tr i p).getD s .junk = if s = 25 then .d (.agg p) else if s = 24 then .d (.int .i64 i) else if s = 3 then .p 0 0 else if s = 6 then .p 2 0 else .junk := by
      intro s hs
      iterate 31 (rcases s with _ | s; · rfl)
      omega
     exact this s hs
    ·rw [if_neg (by omega), if_neg (by omega), if_neg (by omega), if_neg (by omega), List.getD_eq_getElem?_getD, List.getElem?_eq_none (by simp [Tr]; omega)]; rfl
   rw [g, g2]
   split
   ·exact hv
   ·split
    ·exact V.rep_int.2 rfl
    ·split
     ·rename_i e; subst e; exact t3
     ·split
      ·rename_i e; subst e; exact t6
      ·unfold V.rep; trivial
  ·rcases n with _ | _ | _ | n
   ·simp at h; subst h; exact h0
   ·simp at h
   ·simp at h; subst h; exact h2
   ·simp at h
  ·have l2 : ∀ n, live [some (kO K), none, some (plO c)] n → n = 0 ∨ n = 2 := fun n h => by
    rcases n with _ | _ | _ | n
    ·exact .inl rfl
    ·simp [live] at h
    ·exact .inr rfl
    ·simp [live] at h
   rcases l2 n ln with rfl | rfl <;> rcases l2 k lk with rfl | rfl
   ·rfl
   ·exact (hinj b h1 h3).elim
   ·exact (hinj b h3 h1).elim
   ·rfl
 have htop3 : ∀ n, 3 ≤ n → m.ρ n = none := fun n h => htop n (by omega) (by omega)
 refine roundIn_of_wpIn trivial (wpIn_mono (o_sx l n K i c p hp asg hasg ca m m _ sat (Mem.le.refl _ _) htop3 (by simp)) ?_)
 rintro e a1 w1 ⟨T1, H1, m1, rfl, hq, sat1, hle1, _⟩
 cases e with
 | normal =>
  obtain ⟨rfl, rfl⟩ := hq
  obtain ⟨lo1, hl1⟩ := hlo.keep hle1
  have hl1' := hl1.trans hl
  refine ⟨_, run_beginRound hl1' (by rw [hrec]), ?_⟩
  have nc : ∀ (r : Loop) c t f, Obj.loop r ≠ .cells c t f := by intro r c t f h; cases h
  have hle2 := hlo.le hle1 (o := .loop { rec .ready none with state := .busy }) (o' := .loop { rec .ready none with state := .busy }) hl (nc _) (nc _) (nc _) rfl
  have sat2 := lo1.sat (.loop { rec .ready none with state := .busy }) sat1
  refine wpIn_mono (o_sy l n K i c hc p hp bd hbd cb (m.at (m.w.putObj l (.loop { rec .ready none with state := .busy }))) _ a1 sat2 hle2 htop3 (by simp)) ?_
  rintro e a3 w3 ⟨T3, H3, m3, rfl, ⟨rfl, rfl⟩, sat3, hle3, _⟩
  obtain ⟨lo3, hl3⟩ := (hlo.put (.loop { rec .ready none with state := .busy })).keep hle3
  rw [World.putObj_heap_same hlo.lt] at hl3
  have hend := fun jump => run_endRound (P := Tryz.prog) jump hl3
  have hle4 := fun o (ho : ∀ c t f, o ≠ Obj.cells c t f) => (hlo.put (.loop { rec .ready none with state := .busy })).le hle3 (o := o) (o' := o) (World.putObj_heap_same hlo.lt) (nc _) ho ho rfl
  have sat4 := fun o => lo3.sat o sat3
  by_cases hik : i = K
  ·simp only [if_pos hik]
   refine ⟨_, _, hend (some (.exit 1)), ⟨_, rfl, (sat4 _).base, (sat4 _).obj 0 _ rfl, (sat4 _).obj 2 _ rfl, ?_⟩⟩
   rw [if_pos hik]
   refine ⟨rfl, ?_⟩
   have := hle4 (.loop { rec .ready none with state := .done, pending := some (.exit 1) }) (nc _)
   simp only [o_69] at this
   rw [hrec] at this ⊢
   exact this
  ·simp only [if_neg hik]
   refine ⟨_, _, hend none, ⟨_, rfl, (sat4 _).base, (sat4 _).obj 0 _ rfl, (sat4 _).obj 2 _ rfl, ?_⟩⟩
   rw [if_neg hik]
   refine ⟨rfl, ?_⟩
   have := hle4 (.loop (rec .ready none)) (nc _)
   simp only [o_69, o_6a hl] at this
   rw [hrec] at this ⊢
   exact this
 | _ => exact hq.elim
end
section
open Go.RowKit
theorem Sat.put {m : Mem} {a : Act} {T : List V} {H : List (Option Ob)} (sat : Sat m a T H) (s : Nat) {x : V} {v : Value} (hv : x.rep m v) : Sat m (a.put (some s) v) (T.set s x) H := by
 refine ⟨sat.base, fun i => ?_, sat.obj, sat.inj, sat.top, by rw [o_42]; simpa using sat.size, by rw [o_43]; exact sat.defers⟩
 have h1 : T.set s x = putT T (some s) x := rfl
 rw [h1, o_44, o_41, sat.size]
 split
 ·exact hv
 ·exact sat.slots i

abbrev sO (s : Nat) : Ob := ⟨3, [.d (.int .i64 s)]⟩
def plC (p : Pl) : List D := [.int .i64 p.x, .int .i64 p.shift, natW p.value, natW p.reply]
abbrev fnY (l : Nat) : V := .fn (.yield l) []
def Tw0 (l : Nat) : List V := [fnY l, .p 3 0, .junk, .p 5 0] ++ List.replicate 19 .junk
def Tw (l i : Nat) : List V := [fnY l, .p 3 0, .junk, .p 5 0, .d (.int .i64 i)] ++ List.replicate 18 .junk
def Hw (K s i : Nat) (c : List V) : List (Option Ob) := [some (kO K), none, some (plO c), some (sO s), none, some (plO ((plC (placeY s i)).map .d))]

theorem o_t1 {s k : Nat} (h1 : 1 ≤ s) (h5 : s ≤ 5) (hk : k ≤ 1024) : (placeY s k).x ≤ 100000 ∧ (placeY s k).shift ≤ 8192 ∧ size (placeY s k).value ≤ 900 ∧ size (placeY s k).reply ≤ 900 := by
 obtain ⟨a1, a2, a3, a4, a5⟩ := o_mz h1 k
 refine ⟨by omega, by omega, ?_, ?_⟩
 ·refine Nat.le_trans (o_sm (n := 11 + (2 * s + k)) (m := 20) (Nat.lt_of_le_of_lt a4 ?_) (by omega)) (by omega)
  have hp := Nat.two_pow_pos (2 * s + k)
  rw [Nat.pow_add 2 11]
  generalize 2 ^ (2 * s + k) = z at *
  have h1 : k * z ≤ 1024 * z := Nat.mul_le_mul_right _ hk
  have h2 : (2 : Nat) ^ 11 * z = 2048 * z := rfl
  rw [h2]
  omega
 ·exact Nat.le_trans (o_sm (n := 2 * s + k + 1) (m := 20) (Nat.lt_of_le_of_lt a2 (Nat.pow_lt_pow_right (by omega) (Nat.lt_succ_self _))) (by omega)) (by omega)

theorem w_r0 (l K s : Nat) (h1 : 1 ≤ s) (h5 : s ≤ 5) (c : List V) (hc : V.lowl 6 c = true) : AW Tryz.prog 4 o_j8.l (thenQ (fun T H => wk 6 T (Tw0 l) ∧ wkH 6 H (Hw K s 0 c)) noQ) ([fnY l, .p 3 0] ++ List.replicate 21 .junk) [some (kO K), none, some (plO c), some (sO s)] := by
 simp only [o_j8, C.l, Tw0, Hw]
 have e1 : IntKind.i64.wrap (2 * (s : Int)) = 2 * (s : Int) := w64 (by omega) (by omega)
 have e2 : ((2 : Int) * s).toNat = 2 * s := by omega
 have e3 : (2 : Int) ^ (2 * s) = (2 ^ (2 * s) : Nat) := by rw [Int.natCast_pow]; rfl
 have hlt : 2 ^ (2 * s) ≤ 2 ^ 10 := Nat.pow_le_pow_right (by omega) (by omega)
 have hp0 : placeY s 0 = ⟨0, 0, 0, 2 ^ (2 * s)⟩ := rfl
 rw [hp0]
 generalize 2 ^ (2 * s) = q at *
 have e4 : IntKind.u64.wrap (q : Int) = q := wu64 (by omega) (by omega)
 have e5 : (2 : Int) * s ≤ 64 := by omega
 refine G1 (fs e1 (fs e2 (fs e3 (fs e4 e5)))) ?_; try with_reducible exact tt
 refine CallS.pf 4 1 ⟨194, _⟩ [.int .u64 q] (o_kt [q] (o_lp (by omega)) (by simp)) (by first | rfl | (simp; done)) (R0 ?_); try with_reducible exact tt
 exact ⟨Subs.cons (Sub1.refl _) (Subs.cons (Sub1.refl _) (Subs.cons Sub1.nil (Subs.of (by simp [wval])))), rfl⟩

theorem w_r1 (l K s : Nat) (c : List V) (hc : V.lowl 6 c = true) : AW Tryz.prog 4 o_j8.r.l (thenQ (fun T H => wk 6 T (Tw l 0) ∧ wkH 6 H (Hw K s 0 c)) noQ) (Tw0 l) (Hw K s 0 c) := by
 simp only [o_j8, C.l, C.r, Tw0, Tw, Hw]
 have hp : V.lowl 6 ((plC (placeY s 0)).map V.d) = true := rfl
 refine G1 (fs hc hp) ?_; try with_reducible exact tt

theorem w_g (l K s i : Nat) (hi : i ≤ 1023) (c : List V) (hc : V.lowl 6 c = true) : AW Tryz.prog 4 cWb.l (thenQ (fun T H => wk 6 T (Tw l i) ∧ wkH 6 H (Hw K s i c)) noQ) (Tw l i) (Hw K s i c) := by
 simp only [o_j8, C.l, C.r, C.b, Tw, Hw]
 have hp : V.lowl 6 ((plC (placeY s i)).map V.d) = true := rfl
 have h1 : (i : Int) ≤ 1023 := by omega
 refine G1 (fs hc (fs hp h1)) ?_; try with_reducible exact tt
 refine AW.cond rfl (fun h => ?_) (fun h => ?_)
 ·refine G1 (fs hc hp) ?_; try with_reducible exact tt
 ·simp [h1] at h

theorem w_r5 (l K s i : Nat) (h1 : 1 ≤ s) (h5 : s ≤ 5) (hi : i ≤ 1023) (c : List V) (hc : V.lowl 6 c = true) : AW Tryz.prog 4 cWb.r.l.b.r (thenQ (fun T H => wk 6 T (Tw l i) ∧ wkH 6 H (Hw K s (i + 1) c)) noQ) (Tw l i) (Hw K s i c) := by
 simp only [o_j8, C.l, C.r, C.b, Tw, Hw]
 obtain ⟨b1, b2, b3, b4⟩ := o_t1 h1 h5 (k := i) (by omega)
 have hn := o_sr s (placeY s i) h5 b1 b2 b3 b4
 rw [show nextY s (placeY s i) = placeY s (i + 1) from rfl] at hn
 generalize placeY s i = p at *
 generalize placeY s (i + 1) = p' at *
 simp only [plC, List.map_cons, List.map_nil, plD] at hn ⊢
 refine G1 hc ?_; try with_reducible exact tt
 refine CallS.pu (hn) (R1 hc ?_); try with_reducible exact tt

theorem w_r6 (l K s i : Nat) (hi : i ≤ 1023) (c : List V) (hc : V.lowl 6 c = true) : AW Tryz.prog 4 cWb.r.r (thenQ (fun T H => wk 6 T (Tw l (i + 1)) ∧ wkH 6 H (Hw K s (i + 1) c)) noQ) (Tw l i) (Hw K s (i + 1) c) := by
 simp only [o_j8, C.l, C.r, C.b, Tw, Hw]
 have hp : V.lowl 6 ((plC (placeY s (i + 1))).map V.d) = true := rfl
 generalize (plC (placeY s (i + 1))).map V.d = pc at *
 have ew : IntKind.i64.wrap ((i : Int) + 1) = (i : Int) + 1 := w64 (by omega) (by omega)
 refine G1 (fs hc (fs hp ew)) ?_; try with_reducible exact tt

theorem w_os (l K s i : Nat) (c : List V) (ops : Array Oper) {K' : List V → List (Option Ob) → Prop} (h : K' ((((Tw l i).set 15 (fnY l)).set 16 (.d (.int .i64 i))).set 17 (.d (.agg (plC (placeY s i))))) (Hw K s i c)) :
  vops Tryz.prog false K' ((cWb.r.l.b.l.l.os).take 3) [] (Tw l i) (Hw K s i c) := by
 simp only [cWb, o_j8, C.l, C.r, C.b, C.os, Tw, Hw] at h ⊢
 generalize placeY s i = p at *
 simp only [plC, List.map_cons, List.map_nil] at h ⊢
 simp
 simpa using h
theorem w_o4 (l K s i : Nat) (p : D) (b : Bool) (H : List (Option Ob)) {K' : List V → List (Option Ob) → Prop} (h : K' (((((Tw l i).set 15 (fnY l)).set 16 (.d (.int .i64 i))).set 17 (.d p)).set 18 (.d (.bool b)) |>.set 19 (.d (.bool !b))) H) :
  vops Tryz.prog false K' [((cWb.r.l.b.l.l.os).drop 4).headD ⟨none, .bad, none, []⟩] [] (((((Tw l i).set 15 (fnY l)).set 16 (.d (.int .i64 i))).set 17 (.d p)).set 18 (.d (.bool b))) H := by
 simp only [cWb, o_j8, C.l, C.r, C.b, C.os, Tw] at h ⊢
 simp
 simpa using h
end
section
open Go.RowKit
theorem o_t2 (n : Nat) (p : Pl) : V.lowl n ((plC p).map V.d) = true := rfl
theorem o_t3 {m : Mem} {a : Act} {T : List V} {H : List (Option Ob)} (sat : Sat m a T H) {s : Nat} {x : V} (h : T.getD s .junk = x) : x.rep m (a.tmps.getD s undef) := h ▸ sat.slots s
theorem nloop (r : Loop) : ∀ c t f, Obj.loop r ≠ .cells c t f := by intro c t f h; cases h

theorem o_t4 {m m' : Mem} (hI : m'.I = m.I) (hw : m'.w = m.w) {ds : List D} {vs : List Value} (h : V.reps m (ds.map V.d) vs) : V.reps m' (ds.map V.d) vs := by
 rw [V.reps_map_d] at h ⊢
 rw [hI, hw]; exact h
theorem o_t5 {m : Mem} {a : Act} {T : List V} {H : List (Option Ob)} (sat : Sat m a T H) {c : Operand} {s : Nat} (hc : X.of c = .t s) {b : Bool} (h : T.getD s .junk = .d (.bool b)) : a.eval c = .bool b :=
 V.rep_bool.1 (X.rep' (T := T) (fun s _ => sat.slots s) (by rw [hc]; exact h))
def zD : List D := [.int .i64 0, .int .i64 0, .nilsl, .nilsl]
def SS : Nat → Bool := fun n => n == 0 || n == 2

set_option maxHeartbeats 4000000 in
theorem o_t6 {asg bd : Code} (hasg : resolveC Tryz.prog asg = cAsg) (hbd : resolveC Tryz.prog bd = cBd) (ca : Code.calm asg = true) (cb : Code.calm bd = true) {fn df : Nat} {tmps : Array Value} {rec : LoopState → Option Code → Loop}
  (hrec : rec = fun st pe => { state := st, pending := pe, fn, tmps, params := #[24, 25], assign := asg, body := bd, defers := df }) (s K : Nat) (s1 : 1 ≤ s) (s5 : s ≤ 5) (hK : K ≤ 1023) {m : Mem} {l : Nat} {sv : Value}
  (sat : ∀ a : Act, a.tmps = #[.func (.yield l) #[] #[], sv] ++ Array.replicate 21 undef → a.defers = [] → Sat m a ([fnY l, .p 3 0] ++ List.replicate 21 .junk) [some (kO K), none, some (plO (zD.map V.d)), some (sO s)])
  (t3 : (V.p 0 0).rep m (tmps.getD 3 undef)) (t6 : (V.p 2 0).rep m (tmps.getD 6 undef)) (hsz : tmps.size = 31) (hlo : m.loose l) (hl : m.w.heap[l]? = some (.loop (rec .ready none))) :
  Calls Tryz.prog o_j7 #[.func (.yield l) #[] #[], sv] m.w fun e w' => (∃ v, e = .returned v) ∧ ∃ m' : Mem, m'.w = w' ∧ m'.base ∧ m'.obj 2 (plO ((plC (placeY s K)).map .d)) ∧ (m.at (m.w.putObj l (.loop (rec .done (some (.exit 1)))))).le m' (· < 4) := by
 obtain ⟨f67, r0, r1, g, r5, r6, -, id, ops, o0, o1, o2, o3, o4, cy, hf, hb, hops, e0, e1, eg, eos, ecall, eo4, ecy, er5, er6, ecalm, eres, ent⟩ := o_st o_sw
 simp only at hb e0 e1 eg eos ecall eo4 ecy er5 er6 ecalm eres ent
 obtain ⟨cc, ho3, hg3, hc3, ha3, hd3⟩ := o_su ecall
 rw [Bool.and_eq_true] at ecalm
 refine calls_of_wp hf hb ((wpIn_wide (n := 0)).1 ?_)
 have sat0 := sat { tmps := #[.func (.yield l) #[] #[], sv] ++ Array.replicate (f67.ntmps - #[Value.func (.yield l) #[] #[], sv].size) undef, defers := [] } (by rw [ent]; rfl) rfl
 have htop : ∀ n, 4 ≤ n → m.ρ n = none := sat0.top
 refine AW.then (L := 4) e0 (w_r0 l K s s1 s5 (zD.map V.d) rfl) sat0 (Mem.le.refl _ _) htop (by simp) fun T1 H1 m1 a1 hq st1 le1 L1 => ?_
 obtain ⟨m1', hw1, st1', le1', L1'⟩ := Sat.weaken (T1 := Tw0 l) (H1 := Hw K s 0 (zD.map V.d)) (Weak.of hq.1 hq.2) st1 le1 htop (by simp [Hw])
 rw [← hw1]
 refine AW.then (L := 4) e1 (w_r1 l K s (zD.map V.d) rfl) st1' le1' htop (by simp [Hw]) fun T2 H2 m2 a2 hq st2 le2 L2 => ?_
 obtain ⟨m2', hw2, st2', le2', L2'⟩ := Sat.weaken (T1 := Tw l 0) (H1 := Hw K s 0 (zD.map V.d)) (Weak.of hq.1 hq.2) st2 le2 htop (by simp [Hw])
 rw [← hw2]
 clear hw1 hw2 st1 st2 sat0 sat le1 le2 L1 L2 st1' le1' L1' hq
 refine wpIn_block (wpIn_wide.2 (o_52 (fun k a w => ∃ (i : Nat) (c : List D) (m' : Mem), m'.w = w ∧ k = 1024 - i ∧ i ≤ K ∧ c.length = 4 ∧ Sat m' a (Tw l i) (Hw K s i (c.map V.d)) ∧ m.le m' (· < 4)) ?_ 1024 a2 m2'.w ⟨0, _, m2', rfl, rfl, Nat.zero_le _, rfl, st2', le2'⟩))
 clear st2' le2' L2' hq m2 m2' a2 T2 H2 m1 m1' a1 T1 H1
 rintro k a w ⟨i, c, mw, rfl, rfl, hi, hc, st, le⟩
 have hlc : V.lowl 6 (c.map V.d) = true := V.lowl_mono (by omega) _ (o_5g c).1
 refine (wpIn_wide (n := 0)).1 ?_
 refine AW.then (L := 4) eg (w_g l K s i (by omega) (c.map V.d) hlc) st le htop (by simp [Hw]) fun T1 H1 m1 a1 hq st1 le1 L1 => ?_
 obtain ⟨m1', hw1, st1', le1', L1'⟩ := Sat.weaken (T1 := Tw l i) (H1 := Hw K s i (c.map V.d)) (Weak.of hq.1 hq.2) st1 le1 htop (by simp [Hw])
 rw [← hw1]
 clear hw1 st1 le1 L1 hq st le m1 T1 H1 a mw
 refine wpIn_seq (wpIn_block (wpIn_seq (wpIn_seq (o_6c ?_))))
 rw [hops, show [o0, o1, o2, o3, o4] = [o0, o1, o2] ++ [o3, o4] from rfl]
 refine o_63 (l := none) (L := 4) (K := fun T H => T = ((((Tw l i).set 15 (fnY l)).set 16 (.d (.int .i64 i))).set 17 (.d (.agg (plC (placeY s i))))) ∧ H = Hw K s i (c.map V.d)) [o3, o4] ecalm.1 (by rw [eos]; exact w_os l K s i (c.map V.d) ops ⟨rfl, rfl⟩) st1' le1' htop (by simp [Hw]) fun T2 H2 a2 m2 hq st2 le2 L2 => ?_
 obtain ⟨rfl, rfl⟩ := hq
 clear st1' le1' L1' m1' a1
 -- the call of yield
 have g15 : a2.eval (.tmp 15) = .func (.yield l) #[] #[] := by
  have := o_t3 st2 (s := 15) (x := fnY l) (by simp [Tw])
  unfold V.rep at this
  obtain ⟨vs, h1, h2⟩ := this
  simp at h2
  subst h2
  exact h1
 have g16 : a2.eval (.tmp 16) = .int .i64 i := V.rep_int.1 (o_t3 st2 (s := 16) (by simp [Tw]))
 have g17 : (V.d (.agg (plC (placeY s i)))).rep m2 (a2.eval (.tmp 17)) := o_t3 st2 (s := 17) (by simp [Tw])
 obtain ⟨lo2, hl2⟩ := hlo.keep le2
 have hl2' := hl2.trans hl
 have hcut : ∀ n, n = 0 ∨ n = 2 → (m2.cut SS).ρ n = m2.ρ n := fun n h => by rcases h with rfl | rfl <;> simp [SS]
 have hobj : ∀ (n : Nat) (ty : TypeId) (ds : List D), n = 0 ∨ n = 2 → m2.obj n ⟨ty, ds.map V.d⟩ → (m2.cut SS).obj n ⟨ty, ds.map V.d⟩ := by
  rintro n ty ds hn ⟨b, vs, more, h1, h2, h3, h4, h5⟩
  exact ⟨b, vs, more, by rw [hcut n hn]; exact h1, h2, h3, o_t4 (m := m2) (m' := m2.cut SS) rfl rfl (show V.reps m2 (ds.map V.d) vs from h4), h5⟩
 have hun : ∀ (n : Nat) (ty : TypeId) (ds : List D) (mr : Mem), n = 0 ∨ n = 2 → (∀ b, m2.ρ n = some b → mr.ρ n = some b) → mr.obj n ⟨ty, ds.map V.d⟩ → (⟨m2.ρ, mr.I, mr.w⟩ : Mem).obj n ⟨ty, ds.map V.d⟩ := by
  rintro n ty ds mr hn hρ ⟨b, vs, more, h1, h2, h3, h4, h5⟩
  obtain ⟨b', hb'⟩ : ∃ b', m2.ρ n = some b' := by
   rcases hn with rfl | rfl
   ·exact o_sz (st2.obj 0 _ rfl)
   ·exact o_sz (st2.obj 2 _ rfl)
  have := hρ b' hb'
  rw [h1] at this
  cases this
  exact ⟨b, vs, more, hb', h2, h3, o_t4 (m := mr) (m' := ⟨m2.ρ, mr.I, mr.w⟩) rfl rfl (show V.reps mr (ds.map V.d) vs from h4), h5⟩
 have r3 : (V.p 0 0).rep (m2.cut SS) (tmps.getD 3 undef) := by
  unfold V.rep at t3 ⊢
  obtain ⟨b, h1, h2⟩ := t3
  exact ⟨b, by rw [hcut 0 (.inl rfl)]; exact le2.ρ 0 b h1, h2⟩
 have r6' : (V.p 2 0).rep (m2.cut SS) (tmps.getD 6 undef) := by
  unfold V.rep at t6 ⊢
  obtain ⟨b, h1, h2⟩ := t6
  exact ⟨b, by rw [hcut 2 (.inr rfl)]; exact le2.ρ 2 b h1, h2⟩
 have rv : (V.d (.agg (plC (placeY s i)))).rep (m2.cut SS) (a2.eval (.tmp 17)) := V.rep_d.2 (V.rep_d.1 g17)
 have loc : (m2.cut SS).loose l := by
  refine ⟨lo2.lt, fun n h => ?_, lo2.I⟩
  simp only at h
  split at h
  ·exact lo2.ρ n h
  ·cases h
 have hround := o_t0 hasg hbd ca cb hrec (0 - 1) K i (plC (placeY s i)) rfl (m := m2.cut SS) (l := l) (c := c.map V.d) (Mem.cut_base st2.base SS) (hobj 0 _ [.int .i64 K] (.inl rfl) (st2.obj 0 _ rfl)) (hobj 2 _ c (.inr rfl) (st2.obj 2 _ rfl)) (by simpa using hc)
  (fun b h0 h2 => by
   rw [hcut 0 (.inl rfl)] at h0; rw [hcut 2 (.inr rfl)] at h2
   have := st2.inj 0 2 b rfl rfl h0 h2
   omega)
  (fun n h0 h2 => by simp [SS, h0, h2]) r3 r6' hsz loc hl2' rv
 obtain ⟨fn', tmps', asg', bd', hy, hR⟩ := hround
 rw [← g16] at hy
 refine wpListIn_plain hg3 (fun Kk hKk => ⟨fun _ _ => trivial, ?_⟩)
 rw [show (FR none).round = none from rfl, Oper.semAt_none, o_68 ho3 hc3 ha3 g15, hy, Oper.uponIn_round]
 refine ⟨fun h => by simp [FR, Fence.wide] at h, hR.mono ?_⟩
 rintro e w' ⟨mr, rfl, mrb, mr0, mr2, hcase⟩
 -- both ways: a memory that fits
 have key : ∀ (o : Obj), (∀ c t f, o ≠ .cells c t f) → ((m2.cut SS).at (m2.w.putObj l o)).le mr (· < 3) → ∀ b : Bool,
   Sat ⟨m2.ρ, mr.I, mr.w⟩ (a2.put (some 18) (.bool b)) (((((Tw l i).set 15 (fnY l)).set 16 (.d (.int .i64 i))).set 17 (.d (.agg (plC (placeY s i))))).set 18 (.d (.bool b))) (Hw K s i ((plC (placeY s i)).map V.d)) ∧ (m2.at (m2.w.putObj l o)).le ⟨m2.ρ, mr.I, mr.w⟩ (fun n => SS n = true) := by
  intro o ho hle b
  have hu := Mem.uncut (m := m2.at (m2.w.putObj l o)) (S := SS) hle (fun n h => by simp [SS] at h; omega)
  have hρ : ∀ n b, m2.ρ n = some b → n = 0 ∨ n = 2 → mr.ρ n = some b := fun n b h hn => hle.ρ n b (by show (if SS n = true then m2.ρ n else none) = some b; rw [if_pos (by rcases hn with rfl | rfl <;> rfl)]; exact h)
  refine ⟨Sat.put (Sat.uncut (H' := Hw K s i ((plC (placeY s i)).map V.d)) (lo2.sat o st2) mrb hu (fun n h => ?_) rfl fun n ob h => ?_) 18 (V.rep_bool.2 rfl), hu⟩
  ·simp [SS] at h
   rcases h with rfl | rfl <;> rfl
  ·rcases n with _ | _ | _ | _ | _ | _ | n
   ·left; simp [Hw] at h; subst h
    exact ⟨rfl, hun 0 _ [.int .i64 K] mr (.inl rfl) (fun b h => hρ 0 b h (.inl rfl)) mr0⟩
   ·simp [Hw] at h
   ·left; simp [Hw] at h; subst h
    exact ⟨rfl, hun 2 _ (plC (placeY s i)) mr (.inr rfl) (fun b h => hρ 2 b h (.inr rfl)) mr2⟩
   ·right; simp [Hw] at h; subst h; exact ⟨rfl, rfl⟩
   ·simp [Hw] at h
   ·right; simp [Hw] at h; subst h; exact ⟨rfl, by simp [Hw]⟩
   ·simp [Hw] at h
 have hres : ∀ (a : Act) (w : World), (results f67 a.tmps).run Tryz.prog w = .ok (.tuple #[]) w := fun a w => by
  have : f67.results = #[] := Array.eq_empty_of_size_eq_zero eres
  simp [results, this]
 have hmap : [o4].map (resolveO Tryz.prog ops) = [((cWb.r.l.b.l.l.os).drop 4).headD ⟨none, .bad, none, []⟩] := by rw [← eo4]; rfl
 by_cases hik : i = K
 ·rw [if_pos hik] at hcase
  obtain ⟨rfl, hle⟩ := hcase
  obtain ⟨sat5, le5⟩ := key _ (nloop _) hle false
  refine hKk _ _ ?_
  rw [hd3]
  have lem := (hlo.le le2 (o := .loop (rec .done (some (.exit 1)))) (o' := .loop (rec .done (some (.exit 1)))) hl (nloop _) (nloop _) (nloop _) rfl).trans le5 (fun n b _ h => by simp [SS] at h; omega)
  refine o_63 (l := none) (L := 4) (m0 := m.at (m.w.putObj l (.loop (rec .done (some (.exit 1)))))) (m := ⟨m2.ρ, mr.I, mr.w⟩) (K := fun T H => T = (((((Tw l i).set 15 (fnY l)).set 16 (.d (.int .i64 i))).set 17 (.d (.agg (plC (placeY s i))))).set 18 (.d (.bool false))).set 19 (.d (.bool true)) ∧ H = Hw K s i ((plC (placeY s i)).map V.d)) [] ecalm.2 (by rw [hmap]; exact w_o4 l K s i _ false _ ⟨rfl, rfl⟩) sat5 lem htop (by simp [Hw]) fun T6 H6 a6 m6 hq st6 le6 _ => ?_
  obtain ⟨rfl, rfl⟩ := hq
  refine wpListIn_nil ?_
  refine wpIn_cond_split (o_t5 st6 ecy (b := true) (by simp [Tw])) (fun _ => wpIn_ret ?_) (fun h => by cases h)
  refine ⟨st6.defers, _, hres _ _, ⟨_, rfl⟩, m6, rfl, st6.base, ?_, le6⟩
  rw [← hik]
  exact st6.obj 2 _ rfl
 ·rw [if_neg hik] at hcase
  obtain ⟨rfl, hle⟩ := hcase
  obtain ⟨sat5, le5⟩ := key (.loop (rec .ready none)) (nloop _) (by rw [o_6a hl2']; exact hle) true
  rw [o_6a hl2'] at le5
  refine hKk _ _ ?_
  rw [hd3]
  refine o_63 (l := none) (L := 4) (m0 := m) (m := ⟨m2.ρ, mr.I, mr.w⟩) (K := fun T H => T = (((((Tw l i).set 15 (fnY l)).set 16 (.d (.int .i64 i))).set 17 (.d (.agg (plC (placeY s i))))).set 18 (.d (.bool true))).set 19 (.d (.bool false)) ∧ H = Hw K s i ((plC (placeY s i)).map V.d)) [] ecalm.2 (by rw [hmap]; exact w_o4 l K s i _ true _ ⟨rfl, rfl⟩) sat5 (le2.trans le5 (fun n b _ h => by simp [SS] at h; omega)) htop (by simp [Hw]) fun T6 H6 a6 m6 hq st6 le6 _ => ?_
  obtain ⟨rfl, rfl⟩ := hq
  refine wpListIn_nil ?_
  refine wpIn_cond_split (o_t5 st6 ecy (b := false) (by simp [Tw])) (fun h => by cases h) (fun _ => wpIn_skip ?_)
  have hlp := o_t2 6 (placeY s i)
  obtain ⟨m7, hw7, st7, le7, _⟩ := Sat.weaken (T1 := Tw l i) (H1 := Hw K s i ((plC (placeY s i)).map V.d)) (Weak.of (by simp [Tw, Hw, V.low, V.lowl]) (by simp [Hw, hlp, V.lowl, V.low])) st6 le6 htop (by simp [Hw])
  rw [← hw7]
  refine wpIn_mono (wpIn_wide.2 (w_r5 l K s i s1 s5 (by omega) _ hlp r5 er5 m m7 a6 st7 le7 htop (by simp [Hw]))) ?_
  rintro e a8 w8 ⟨T8, H8, m8, rfl, hq, st8, le8, _⟩
  cases e with
  | normal =>
   obtain ⟨m9, hw9, st9, le9, _⟩ := Sat.weaken (T1 := Tw l i) (H1 := Hw K s (i + 1) ((plC (placeY s i)).map V.d)) (Weak.of hq.1 hq.2) st8 le8 htop (by simp [Hw])
   rw [← hw9]
   refine wpIn_mono (wpIn_wide.2 (w_r6 l K s i (by omega) _ hlp r6 er6 m m9 a8 st9 le9 htop (by simp [Hw]))) ?_
   rintro e a10 w10 ⟨T10, H10, m10, rfl, hq, st10, le10, _⟩
   cases e with
   | normal =>
    obtain ⟨m11, hw11, st11, le11, _⟩ := Sat.weaken (T1 := Tw l (i + 1)) (H1 := Hw K s (i + 1) ((plC (placeY s i)).map V.d)) (Weak.of hq.1 hq.2) st10 le10 htop (by simp [Hw])
    exact ⟨1024 - (i + 1), by omega, i + 1, plC (placeY s i), m11, hw11, rfl, by omega, rfl, st11, le11⟩
   | _ => exact hq.elim
  | _ => exact hq.elim
end
section
open Go.RowKit
def atE (s k : Int) : Int := if 1 ≤ s ∧ s ≤ 5 then (if 0 ≤ k ∧ k ≤ 1023 then 0 else 2) else 10
def atP (s k : Int) : Pl := if atE s k = 0 then placeY s.toNat k.toNat else ⟨0, 0, 0, 0⟩

def Ta (s k : Nat) (x23 : V) : List V := [.d (.int .i64 s), .d (.int .i64 k), .junk, .p 0 0, .p 1 0, .d (.int .i64 0), .p 2 0] ++ List.replicate 16 .junk ++ [x23] ++ List.replicate 7 .junk
def Ta0 (s k : Nat) : List V := [.d (.int .i64 s), .d (.int .i64 k), .junk, .p 0 0, .p 1 0, .d (.int .i64 0)] ++ List.replicate 25 .junk
abbrev zO : Ob := plO (zD.map V.d)

theorem a_1 (s k : Nat) : AW Tryz.prog 0 o_j5.l (thenQ (fun T H => wk 2 T (Ta0 s k) ∧ wkH 2 H [some (kO k), some zO]) noQ) ([.d (.int .i64 s), .d (.int .i64 k)] ++ List.replicate 29 .junk) [] := by
 simp only [o_j5, C.l, Ta0]
 refine G0 ?_; try with_reducible exact tt
 exact ⟨Subs.refl _, rfl⟩
theorem a_2 (s k : Nat) (s1 : 1 ≤ s) (s5 : s ≤ 5) (hk : k ≤ 1023) : AW Tryz.prog 0 o_j5.r.l (thenQ (fun T H => wk 2 T (Ta0 s k) ∧ wkH 2 H [some (kO k), some zO]) noQ) (Ta0 s k) [some (kO k), some zO] := by
 simp only [o_j5, C.l, C.r, Ta0, zD]
 refine G0 ?_; try with_reducible exact tt
 refine CallS.pu (o_sj s) (R0 ?_); try with_reducible exact tt
 have h1 : (1 : Int) ≤ s ∧ (s : Int) ≤ 5 := by omega
 refine AW.cond rfl (fun h => ?_) (fun h => ?_)
 ·simp [h1] at h
 have h2 : ¬ (1023 : Int) < k := by omega
 refine G1 h2 ?_; try with_reducible exact tt
 refine AW.cond rfl (fun h => ?_) (fun h => ?_)
 ·simp at h
 refine G0 ?_; try with_reducible exact tt
 rfl
theorem a_3 (s k : Nat) : AW Tryz.prog 0 o_j5.r.r.l (thenQ (fun T H => wk 3 T (Ta s k .junk) ∧ wkH 3 H [some (kO k), some zO, some zO]) noQ) (Ta0 s k) [some (kO k), some zO] := by
 simp only [o_j5, C.l, C.r, Ta0, Ta]
 refine G0 ?_; try with_reducible exact tt
 exact ⟨Subs.refl _, rfl⟩
theorem a_4 (s k : Nat) : AW Tryz.prog 0 o_j5.r.r.r.l.l (thenQ (fun T H => wk 4 T (Ta s k (.fn (.func o_j7) [.p 3 0])) ∧ wkH 4 H [some (kO k), some zO, some zO, some (sO s)]) noQ) (Ta s k .junk) [some (kO k), some zO, some zO] := by
 simp only [o_j5, C.l, C.r, Ta]
 refine G0 ?_; try with_reducible exact tt
 refine CallS.newX (o_ss s) ⟨rfl, fun _ => rfl⟩ rfl (fun _ => rfl) (Subs.refl _) ?_
 simp [nameOf, V.ren, V.rens]
 rfl
theorem a_5 (s k : Nat) (x : V) (p : Pl) {K' : List V → List (Option Ob) → Prop} (h : ∀ T, T.getD 4 .junk = .p 1 0 → T.getD 5 .junk = .d (.int .i64 0) → K' T [none, some (plO ((plC p).map V.d)), some (plO ((plC p).map V.d)), none]) :
  vops Tryz.prog false K' o_j5.r.r.r.r.l.os [] (Ta s k x) [none, some zO, some (plO ((plC p).map V.d)), none] := by
 simp only [o_j5, C.l, C.r, C.os, Ta, zD]
 simp only [plC, List.map_cons, List.map_nil] at h ⊢
 simp
 exact need.of (by decide) (h _ rfl rfl)

theorem o_t7 (l : List V) (n i : Nat) (h : l.length ≤ i) : (l ++ List.replicate n V.junk).getD i .junk = .junk := by
 rw [List.getD_eq_getElem?_getD, List.getElem?_append_right h, List.getElem?_replicate]; split <;> rfl
theorem o_t8 {m : Mem} {H : List (Option Ob)} {a : Act} {l : Nat} {sv : Value} (hb : m.base) (hobj : ∀ n ob, H.getD n none = some ob → m.obj n ob) (hinj : ∀ n k b, live H n → live H k → m.ρ n = some b → m.ρ k = some b → n = k) (htop : ∀ n, H.length ≤ n → m.ρ n = none)
  (hv : (V.p 3 0).rep m sv) (ht : a.tmps = #[.func (.yield l) #[] #[], sv] ++ Array.replicate 21 undef) (hd : a.defers = []) : Sat m a ([fnY l, .p 3 0] ++ List.replicate 21 .junk) H := by
 refine ⟨hb, fun s => ?_, hobj, hinj, htop, by rw [ht]; simp, hd⟩
 rcases s with _ | _ | s
 ·rw [ht]
  show V.rep m (fnY l) _
  unfold V.rep
  exact ⟨[], by simp, by simp⟩
 ·rw [ht]
  show V.rep m (.p 3 0) _
  simpa using hv
 ·have : ([fnY l, .p 3 0] ++ List.replicate 21 V.junk).getD (s + 2) .junk = .junk := o_t7 _ _ _ (by simp)
  rw [this]
  unfold V.rep
  trivial
def SC : Nat → Bool := fun n => n == 0 || n == 2 || n == 3

set_option maxHeartbeats 4000000 in
theorem o_t9 (s k : Nat) (s1 : 1 ≤ s) (s5 : s ≤ 5) (hk : k ≤ 1023) : Eqn Tryz.prog o_j4 [.d (.int .i64 s), .d (.int .i64 k)] [] (.tup [.d (plD (placeY s k)), .d (.int .i64 0)]) [] := by
 refine ⟨Nat.le_refl _, by simp, rfl, by simp, fun m vs mb hargs _ _ htop => .inr ⟨o_6d o_j6 _ _, ?_⟩⟩
 obtain ⟨v0, _, rfl, hv0, hargs⟩ := V.reps_cons'.1 hargs
 obtain ⟨v1, _, rfl, hv1, hargs⟩ := V.reps_cons'.1 hargs
 simp at hargs; subst hargs
 have htop : ∀ n, 0 ≤ n → m.ρ n = none := fun n _ => htop n (Nat.zero_le _)
 obtain ⟨f10, a1, a2, a3, a4, asg, bd, g, ps, id, ops, hf, hb, e1, e2, e3, e4, eg, eps, easg, ebd, e5, ecalm, ers, ent⟩ := o_sv at_s
 simp only at hb e1 e2 e3 e4 eg eps easg ebd e5 ecalm ers ent
 rw [Bool.and_eq_true, Bool.and_eq_true] at ecalm
 obtain ⟨calA, calB, calO⟩ := ecalm
 have eps : ps = #[24, 25] := by rw [← Array.toArray_toList (xs := ps), eps]
 subst eps
 refine (callsIn_wide (n := 1)).1 (callsIn_of_wp_marks hf hb trivial ?_ rfl)
 have hsize : f10.ntmps - 2 = 29 := by rw [ent]
 have sat0 : Sat m { tmps := #[v0, v1] ++ Array.replicate (f10.ntmps - #[v0, v1].size) undef, defers := [] } ([.d (.int .i64 s), .d (.int .i64 k)] ++ List.replicate 29 .junk) [] := by
  refine ⟨mb, fun i => ?_, by simp, fun n k b ln => by simp [live] at ln, fun n _ => htop n (Nat.zero_le _), by simp [ent], rfl⟩
  rcases i with _ | _ | i
  ·show V.rep m (.d (.int .i64 s)) _
   rw [Array.getD_eq_getD_getElem?, Array.getElem?_append_left (by simp)]
   exact hv0
  ·show V.rep m (.d (.int .i64 k)) _
   rw [Array.getD_eq_getD_getElem?, Array.getElem?_append_left (by simp)]
   exact hv1
  ·have : ([V.d (.int .i64 s), V.d (.int .i64 k)] ++ List.replicate 29 V.junk).getD (i + 2) .junk = .junk := o_t7 _ _ _ (by simp)
   rw [this]
   unfold V.rep
   trivial
 refine AW.then (L := 0) e1 (a_1 s k) sat0 (Mem.le.refl _ _) htop (by simp) fun T1 H1 m1 w1 hq st1 le1 _ => ?_
 obtain ⟨m1', hw1, st1', le1', _⟩ := Sat.weaken (T1 := Ta0 s k) (H1 := [some (kO k), some zO]) (Weak.of hq.1 hq.2) st1 le1 htop (by simp)
 rw [← hw1]
 refine AW.then (L := 0) e2 (a_2 s k s1 s5 hk) st1' le1' htop (by simp) fun T2 H2 m2 w2 hq st2 le2 _ => ?_
 obtain ⟨m2', hw2, st2', le2', _⟩ := Sat.weaken (T1 := Ta0 s k) (H1 := [some (kO k), some zO]) (Weak.of hq.1 hq.2) st2 le2 htop (by simp)
 rw [← hw2]
 refine AW.then (L := 0) e3 (a_3 s k) st2' le2' htop (by simp) fun T3 H3 m3 w3 hq st3 le3 _ => ?_
 obtain ⟨m3', hw3, st3', le3', _⟩ := Sat.weaken (T1 := Ta s k .junk) (H1 := [some (kO k), some zO, some zO]) (Weak.of hq.1 hq.2) st3 le3 htop (by simp)
 rw [← hw3]
 refine wpIn_seq ?_
 refine AW.then (L := 0) e4 (a_4 s k) st3' le3' htop (by simp) fun T4 H4 m4' w4 hq st4 le4 _ => ?_
 obtain ⟨m4, hw4, st4', le4', _⟩ := Sat.weaken (T1 := Ta s k (.fn (.func o_j7) [.p 3 0])) (H1 := [some (kO k), some zO, some zO, some (sO s)]) (Weak.of hq.1 hq.2) st4 le4 htop (by simp)
 rw [← hw4]
 clear hw1 hw2 hw3 hw4 st1 st2 st3 st4 st1' st2' st3' le1 le2 le3 le4 le1' le2' le3' hq sat0
 refine wpIn_block (wpIn_rangeFunc fun fn' _ => ?_)
 -- the function that is ranged over
 have gt3 : (V.p 0 0).rep m4 (w4.tmps.getD 3 undef) := o_t3 st4' (s := 3) rfl
 have gt6 : (V.p 2 0).rep m4 (w4.tmps.getD 6 undef) := o_t3 st4' (s := 6) rfl
 have gt23 : (V.fn (.func o_j7) [.p 3 0]).rep m4 (w4.tmps.getD 23 undef) := o_t3 st4' (s := 23) rfl
 unfold V.rep at gt23
 obtain ⟨cvs, hg23, hcv⟩ := gt23
 obtain ⟨sv, _, rfl, hsv, hcv⟩ := V.reps_cons'.1 hcv
 simp at hcv; subst hcv
 have hgt : g = .tmp 23 := by
  cases g <;> simp [X.of] at eg
  ·rw [eg]
  ·rename_i v; cases h : D.of1 v <;> simp [h] at eg
 have hgev : w4.eval g = .func (.func o_j7) #[] #[sv] := by rw [hgt]; exact hg23
 obtain ⟨rec, hrec⟩ : ∃ rec : LoopState → Option Code → Loop, rec = fun st pe => { state := st, pending := pe, fn := fn', tmps := w4.tmps, params := #[24, 25], assign := asg, body := bd, defers := m4.w.heap.size } := ⟨_, rfl⟩
 obtain ⟨W1, hW1⟩ : ∃ W1, W1 = (m4.w.alloc (.deferred (some []))).alloc (.loop (rec .ready none)) := ⟨_, rfl⟩
 have hl1 : W1.heap[m4.w.heap.size + 1]? = some (.loop (rec .ready none)) := by
  rw [hW1]; have := World.alloc_heap_new (m4.w.alloc (.deferred (some []))) (.loop (rec .ready none)); rwa [World.size_alloc] at this
 have hd1 : W1.heap[m4.w.heap.size]? = some (.deferred (some [])) := by
  rw [hW1]; exact (Below.heap_alloc _ _ _ (by simp)).trans (World.alloc_heap_new m4.w _)
 have satw : Sat (m4.at W1) w4 (Ta s k (.fn (.func o_j7) [.p 3 0])) [some (kO k), some zO, some zO, some (sO s)] := by
  rw [hW1]; exact (st4'.grow _).grow _
 have lew : m.le (m4.at W1) (· < 0) := by
  rw [hW1]; exact (le4'.grow st4'.base _).grow (st4'.grow _).base _
 have loD : (m4.at W1).loose m4.w.heap.size := by
  rw [hW1]; exact (o_6b st4'.base _).grow _
 have loL : (m4.at W1).loose (m4.w.heap.size + 1) := by
  rw [hW1]
  have := o_6b (st4'.grow (.deferred (some []))).base (.loop (rec .ready none))
  simpa using this
 have hb4 : m.w.heap.size ≤ m4.w.heap.size := le4'.size
 have hrep1 : ∀ x v, V.rep m4 x v → V.rep (m4.at W1) x v := fun x v h => by
  rw [hW1]
  exact V.rep_off (m := m4) (m' := m4.at ((m4.w.alloc (.deferred (some []))).alloc (.loop (rec .ready none)))) ⟨rfl, rfl, fun b hb => (Below.heap_alloc _ _ _ (by simp; have := st4'.base.imm b hb; omega)).trans (Below.heap_alloc _ _ _ (st4'.base.imm b hb)), fun n b hb => (Below.heap_alloc _ _ _ (by simp; have := st4'.base.dom n b hb; omega)).trans (Below.heap_alloc _ _ _ (st4'.base.dom n b hb))⟩ x v h
 generalize hLn : m4.w.heap.size + 1 = l at *
 generalize hDn : m4.w.heap.size = dd at *
 refine ⟨l, [{ target := .collected dd, args := #[] }], W1, { target := .fn (.func o_j7) #[sv], args := #[.func (.yield l) #[] #[]] }, W1, o_j7, #[.func (.yield l) #[] #[], sv], W1, ?_, ?_, fun _ _ => trivial, ?_, fun h => by simp [Fence.wide] at h, ?_⟩
 ·have := run_enterLoop_outer (P := Tryz.prog) (w := m4.w) fn' w4.tmps #[24, 25] asg bd
  rw [hW1, hrec, ← hLn, ← hDn]
  exact this
 ·simp only [Go.resolve, hgev]
  simp [go_sem, Deferred.ofValue]
 ·simp [invoke, go_sem]
 refine callsIn_wide.2 ?_
 -- the memory that the walk sees
 have cutr : ∀ n, SC n = true → ((m4.at W1).cut SC).ρ n = m4.ρ n := fun n h => by simp [h]
 have cobj : ∀ (n : Nat) (ty : TypeId) (ds : List D), SC n = true → (m4.at W1).obj n ⟨ty, ds.map V.d⟩ → ((m4.at W1).cut SC).obj n ⟨ty, ds.map V.d⟩ := by
  rintro n ty ds hn ⟨b, vs, more, h1, h2, h3, h4, h5⟩
  exact ⟨b, vs, more, by rw [cutr n hn]; exact h1, h2, h3, o_t4 (m := m4.at W1) (m' := (m4.at W1).cut SC) rfl rfl (show V.reps (m4.at W1) (ds.map V.d) vs from h4), h5⟩
 have prep : ∀ n o v, SC n = true → (V.p n o).rep (m4.at W1) v → (V.p n o).rep ((m4.at W1).cut SC) v := by
  intro n o v hn h
  unfold V.rep at h ⊢
  obtain ⟨b, h1, h2⟩ := h
  exact ⟨b, by rw [cutr n hn]; exact h1, h2⟩
 have loC : ((m4.at W1).cut SC).loose l := by
  refine ⟨loL.lt, fun n h => ?_, loL.I⟩
  simp only at h
  split at h
  ·exact loL.ρ n h
  ·cases h
 have lv : ∀ n, live [some (kO k), none, some zO, some (sO s)] n → SC n = true := fun n h => by
  rcases n with _ | _ | _ | _ | n <;> first | rfl | (simp [live] at h)
 have hwalk := o_t6 (m := (m4.at W1).cut SC) (l := l) (sv := sv) easg ebd calA calB hrec s k s1 s5 hk
  (fun a ha hd => o_t8 (H := [some (kO k), none, some zO, some (sO s)]) (Mem.cut_base satw.base SC) (fun n ob h => by
   rcases n with _ | _ | _ | _ | n
   ·simp at h; subst h; exact cobj 0 _ [.int .i64 k] rfl (satw.obj 0 _ rfl)
   ·simp at h
   ·simp at h; subst h; exact cobj 2 _ zD rfl (satw.obj 2 _ rfl)
   ·simp at h; subst h; exact cobj 3 _ [.int .i64 s] rfl (satw.obj 3 _ rfl)
   ·simp at h) (fun n k' b h1 h2 h3 h4 => by
    have l1 := lv n h1
    have l2 := lv k' h2
    rw [cutr n l1] at h3; rw [cutr k' l2] at h4
    refine satw.inj n k' b ?_ ?_ h3 h4
    ·rcases n with _ | _ | _ | _ | n <;> first | rfl | (simp [live] at h1)
    ·rcases k' with _ | _ | _ | _ | k' <;> first | rfl | (simp [live] at h2)) (fun n h => by
    have h4 : ¬ SC n = true := by simp [SC]; simp at h; omega
    simp [h4]) (prep 3 0 sv rfl (hrep1 _ _ hsv)) ha hd)
  (prep 0 0 _ rfl (hrep1 _ _ gt3)) (prep 2 0 _ rfl (hrep1 _ _ gt6)) (by rw [satw.size]; rfl) loC hl1
 refine hwalk.mono ?_
 rintro e w5 ⟨⟨v, rfl⟩, m5, rfl, b5, o5, le5⟩
 obtain ⟨loC5, hl5⟩ := (loC.put (.loop (rec .done (some (.exit 1))))).keep le5
 have hl5' := hl5.trans (World.putObj_heap_same loC.lt)
 have hrd : ∀ st pe, (rec st pe).state = st ∧ (rec st pe).pending = pe := fun st pe => by rw [hrec]; exact ⟨rfl, rfl⟩
 have hend := run_endLoop (P := Tryz.prog) hl5' (by rw [(hrd _ _).1]; simp)
 rw [(hrd _ _).2] at hend
 obtain ⟨o6, hend⟩ : ∃ o6, (Instr.endLoop l).run Tryz.prog m5.w = .ok (some (.exit 1)) (m5.w.putObj l o6) := ⟨_, hend⟩
 refine ⟨_, _, hend, wpIn_exit ?_⟩
 -- back in the asker
 have hu := Mem.uncut (m := (m4.at W1).at (W1.putObj l (.loop (rec .done (some (.exit 1)))))) (S := SC) le5 (fun n h => by simp [SC] at h; omega)
 have lo5 : (⟨m4.ρ, m5.I, m5.w⟩ : Mem).loose l := ((loL.put (.loop (rec .done (some (.exit 1))))).keep hu).1
 have loD5 := (Mem.loose.keep (m := (m4.at W1).at (W1.putObj l (.loop (rec .done (some (.exit 1)))))) (l := dd) ⟨by simpa using loD.lt, loD.ρ, loD.I⟩ hu)
 have hne : dd ≠ l := by omega
 have hd5 : m5.w.heap[dd]? = some (.deferred (some [])) := loD5.2.trans ((World.putObj_heap_other hne).trans hd1)
 have obj2 : (⟨m4.ρ, m5.I, m5.w⟩ : Mem).obj 2 (plO ((plC (placeY s k)).map V.d)) := by
  obtain ⟨b, vs, more, h1, h2, h3, h4, h5⟩ := o5
  obtain ⟨b', hb'⟩ := o_sz (satw.obj 2 _ rfl)
  have := le5.ρ 2 b' (by show (if SC 2 = true then m4.ρ 2 else none) = some b'; rw [if_pos (show SC 2 = true from rfl)]; exact hb')
  rw [h1] at this
  cases this
  exact ⟨b, vs, more, hb', h2, h3, o_t4 (m := m5) (m' := ⟨m4.ρ, m5.I, m5.w⟩) rfl rfl (show V.reps m5 ((plC (placeY s k)).map V.d) vs from h4), h5⟩
 have sat5 : Sat ⟨m4.ρ, m5.I, m5.w⟩ w4 (Ta s k (.fn (.func o_j7) [.p 3 0])) [none, some zO, some (plO ((plC (placeY s k)).map V.d)), none] := by
  refine Sat.uncut (m := (m4.at W1).at (W1.putObj l (.loop (rec .done (some (.exit 1)))))) (loL.sat (.loop (rec .done (some (.exit 1)))) satw) b5 hu (fun n h => ?_) rfl fun n ob h => ?_
  ·simp [SC] at h
   rcases h with (rfl | rfl) | rfl <;> rfl
  ·rcases n with _ | _ | _ | _ | n
   ·simp at h
   ·right; simp at h; subst h; exact ⟨rfl, rfl⟩
   ·left; simp at h; subst h; exact ⟨rfl, obj2⟩
   ·simp at h
   ·simp at h
 have le5' : m.le ⟨m4.ρ, m5.I, m5.w⟩ (· < 0) := by
  refine Mem.le.trans (lew.far mb (l := l) (by omega) (.loop (rec .done (some (.exit 1))))) hu fun n b h _ => ?_
  rw [htop n (Nat.zero_le _)] at h; cases h
 have sat6 := lo5.sat o6 sat5
 have le6 := le5'.far mb (l := l) (by omega) o6
 have hd6 : (m5.w.putObj l o6).heap[dd]? = some (.deferred (some [])) := (World.putObj_heap_other hne).trans hd5
 have loD6 : ((⟨m4.ρ, m5.I, m5.w⟩ : Mem).at (m5.w.putObj l o6)).loose dd := ⟨by simpa using loD5.1.lt, loD5.1.ρ, loD5.1.I⟩
 show (Code.seq (.region id ops false) .ret).wpIn Fence.wide 1 _ _ _ _
 refine wpIn_seq (o_6c ?_)
 have hops : ops.toList = ops.toList ++ [] := (List.append_nil _).symm
 rw [hops]
 refine o_67 (D := [{ target := .collected dd, args := #[] }]) (Q := fun e a w => e = .normal ∧ ∃ T' H' m', m'.w = w ∧ Sat m' a T' H' ∧ T'.getD 4 .junk = .p 1 0 ∧ T'.getD 5 .junk = .d (.int .i64 0) ∧ H' = [none, some (plO ((plC (placeY s k)).map V.d)), some (plO ((plC (placeY s k)).map V.d)), none] ∧ m.le m' (· < 0) ∧ ((⟨m4.ρ, m5.I, m5.w⟩ : Mem).at (m5.w.putObj l o6)).le m' (· < 4)) ?_ _ w4 _ _ ⟨rfl, by rw [st4'.defers]; rfl⟩ ?_
 ·rintro e a a' w hbes ⟨rfl, T7, H7, m7, rfl, st7, h4, h5, rfl, le0, le7⟩
  refine wpIn_ret ?_
  have hdf : a'.defers = [{ target := .collected dd, args := #[] }] := by rw [hbes.defers, st7.defers]; rfl
  show LeavesInM _ _ _ _ _ _ a'.defers _ _
  rw [hdf, ← hbes.tmps]
  obtain ⟨lo7, hl7⟩ := loD6.keep le7
  have hd7 := hl7.trans hd6
  refine ⟨by simp, .inl ⟨dd, _, rfl, run_takeDeferred hd7, ?_⟩⟩
  have sat8 := lo7.sat (.deferred none) st7
  obtain ⟨v, hv1, hv2⟩ := o_57 (P := Tryz.prog) sat8 f10 (.tup [.d (plD (placeY s k)), .d (.int .i64 0)]) (by
   rw [ers]
   simp only [outV, outs, RV.out, h4, h5]
   rfl)
  refine ⟨v, hv1, v, ⟨fun _ => none, m7.I, m7.w.putObj dd (.deferred none)⟩, rfl, rfl, ?_⟩
  have lem := le0.far mb (l := dd) (by omega) (.deferred none)
  refine ⟨⟨sat8.base.imm, fun n b h => (by cases h), sat8.base.tabs.mono (fun _ h => h) (fun _ _ => rfl)⟩, ⟨fun n b h => (by rw [htop n (Nat.zero_le _)] at h; cases h), lem.I, lem.os, lem.tape, lem.output, lem.drawn, lem.size, lem.block, lem.shape, lem.imm, lem.newI, fun n b h => (by cases h)⟩, ?_, by simp, by simp, fun _ _ => rfl, fun n b _ h => (by cases h)⟩
  unfold V.rep at hv2 ⊢
  obtain ⟨us, h1, h2⟩ := hv2
  exact ⟨us, h1, o_t4 (ds := [plD (placeY s k), .int .i64 0]) (m := m7.at (m7.w.putObj dd (.deferred none))) rfl rfl h2⟩
 ·refine o_63 (l := none) (L := 4) (m0 := (⟨m4.ρ, m5.I, m5.w⟩ : Mem).at (m5.w.putObj l o6)) (m := (⟨m4.ρ, m5.I, m5.w⟩ : Mem).at (m5.w.putObj l o6)) (K := fun T H => T.getD 4 .junk = .p 1 0 ∧ T.getD 5 .junk = .d (.int .i64 0) ∧ H = [none, some (plO ((plC (placeY s k)).map V.d)), some (plO ((plC (placeY s k)).map V.d)), none]) [] calO (by rw [e5]; exact a_5 s k _ _ fun T h1 h2 => ⟨h1, h2, rfl⟩) sat6 (Mem.le.refl _ _) sat6.top (by simp) fun T7 H7 a7 m7 hq st7 le7 _ => ?_
  refine wpListIn_nil ⟨rfl, T7, H7, m7, rfl, st7, hq.1, hq.2.1, hq.2.2, ?_, le7⟩
  refine Mem.le.trans le6 le7 fun n b h _ => ?_
  rw [htop n (Nat.zero_le _)] at h; cases h

theorem Sub1.aggd {l r : List D} (h : Subs (l.map V.d) (r.map V.d)) : Sub1 (.d (.agg l)) (.d (.agg r)) := fun m v k => by
 rw [V.rep_d] at k ⊢
 unfold D.rep at k ⊢
 obtain ⟨vs, h1, h2, h3⟩ := k
 exact ⟨vs, h1, h2, V.reps_map_d.1 (h m vs (V.reps_map_d.2 h3))⟩
end
section
open Go.RowKit
end
section
open Go.RowKit
theorem o_ta {d k : Nat} (hd : d ≤ 8) (hk : k ≤ 1023) : wrongZ d [(k : Int)] = 0 := by
 rw [wrongZ, if_pos (by omega), if_pos]
 simp [okK]; omega

theorem o_tb (d k : Nat) (hd : d ≤ 8) (hk : k ≤ 1023) (hu : k / 2 ^ d < 64) :
  Eqn Tryz.prog o_ig [.d (.int .i64 d), .d (.int .i64 k)] [] (.tup [.d (.agg [natW 1, .bool false, natW (2 ^ (k / 2 ^ d) - 1)]), .d (.int .i64 0)]) [] := by
 refine Eqn.pure o_ii (o_l8 _ _) ?_
 simp only [o_ih]
 refine G0 ?_; try with_reducible exact tt
 refine CallS.pf 1 1 ⟨3, _⟩ [.int .i64 k] (o_rg d k) (by first | rfl | (simp; done)) (R0 ?_); try with_reducible exact tt
 have hw := o_ta hd hk
 refine AW.cond rfl (fun h => ?_) (fun h => ?_)
 ·simp [hw] at h
 have hp := o_rf d k (by omega) (by omega)
 generalize k / 2 ^ d = u at hp hu ⊢
 refine G0 ?_; try with_reducible exact tt
 refine CallS.pu (hp) (R0 ?_); try with_reducible exact tt
 refine CallS.pu (o_m2 u hu) (R0 ?_); try with_reducible exact tt

def p2 (n : Nat) : Nat := 2 ^ n
theorem o_tc : p2 0 = 1 := rfl
theorem o_td (n : Nat) : p2 (n + 1) = 2 * p2 n := by rw [p2, p2, Nat.pow_succ, Nat.mul_comm]
theorem o_te (n : Nat) : 0 < p2 n := Nat.two_pow_pos n
theorem o_tf {n m : Nat} (h : n ≤ m) : p2 n ≤ p2 m := Nat.pow_le_pow_right (by omega) h

theorem o_tg (d : Nat) (hd : d ≤ 60) : Eqn Tryz.prog o_e3 [.d (.int .i64 d)] [] (.d (.int .i64 (p2 d))) [] := by
 refine Eqn.pure o_e5 (o_58 _) ?_
 simp only [o_e4]
 refine G0 ?_; try with_reducible exact tt
 refine AW.loopT (α := Nat) 0 (fun i => [(4, .d (.int .i64 (i : Int))), (3, .d (.int .i64 (p2 i)))]) (fun i => []) (fun i => i ≤ d) (fun i => d - i) 0 ?_ ?_ (Nat.zero_le _) ?_ ?_ ?_
 ·simp
 ·simp
 ·simp [o_tc]
 ·simp
 rintro i hi
 have hle : p2 i ≤ 2 ^ 60 := o_tf (m := 60) (by omega)
 simp
 by_cases h : i = d
 ·subst h
  refine G0 ?_; try with_reducible exact tt
  refine AW.cond rfl (fun h => ?_) (fun h => ?_)
  ·simp at h
  refine G0 ?_; try with_reducible exact tt
 ·have hlt : (i : Int) < d := by omega
  have hlt' : i < d := by omega
  have e1 : IntKind.i64.wrap (2 * (p2 i : Int)) = (p2 (i + 1) : Int) := by rw [o_td]; exact w64 (by omega) (by omega)
  have e2 : IntKind.i64.wrap ((i : Int) + 1) = (i : Int) + 1 := w64 (by omega) (by omega)
  refine G1 (fs hlt hlt') ?_; try with_reducible exact tt
  refine AW.cond rfl (fun h => ?_) (fun h => ?_)
  ·refine G1 (fs e1 e2) ?_; try with_reducible exact tt
   exact ⟨i + 1, by omega, by omega, by simp, by simp⟩
  ·simp [hlt'] at h

theorem o_th (d k : Nat) (hd : d ≤ 60) (hk : k ≤ 9223372036854775807) : Eqn Tryz.prog o_ei [.d (.int .i64 d), .d (.int .i64 k)] [] (.d (.int .i64 (k / p2 d : Nat))) [] := by
 refine Eqn.pure o_ek (o_58 _) ?_
 simp only [o_ej]
 have hp := o_te d
 refine G0 ?_; try with_reducible exact tt
 refine CallS.pu (o_tg d hd) (R0 ?_); try with_reducible exact tt
 have h0 : ¬ p2 d = 0 := by omega
 have hle := Nat.div_le_self k (p2 d)
 have e : IntKind.i64.wrap ((k : Int) / p2 d) = (k : Int) / p2 d := by
  rw [← Int.natCast_ediv]
  generalize k / p2 d = q at *
  exact w64 (by omega) (by omega)
 simp [h0, e]
 all_goals (refine G0 ?_; try with_reducible exact tt)

def halfO (cs : List Bool) : Nat → Nat → Bool × Nat × Int
 | 0, i => (true, i, 0)
 | r + 1, i => if i < cs.length then (if cs.getD i false then halfO cs r (i + 1) else (false, i + 1, 0)) else (false, i, 8)
end
section
open Go.RowKit
def stepY (cs : List Bool) (s k : Int) : Bool × Int × Nat × Bool := if atE s k = 0 then halfR cs (atP s k).shift 0 false else (false, atE s k, 0, false)
def againE (s k j : Int) : Int := if atE s k = 0 then atE s j else atE s k
def againY (cs : List Bool) (s k j : Int) : Bool × Int × Nat × Bool := if againE s k j = 0 then halfR cs ((atP s k).shift - (atP s j).shift) 0 false else (false, againE s k j, 0, false)
end
section
open Go.RowKit
theorem o_ti (x : Nat) (hx : x < 18446744073709551616) : Eqn Tryz.prog o_e0 [.d (.int .u64 x)] [] (.d (.int .i64 (bitsN x))) [] := by
 refine Eqn.pure o_e2 (o_58 _) ?_
 simp only [o_e1]
 refine G0 ?_; try with_reducible exact tt
 refine AW.cond rfl (fun h => ?_) (fun h => ?_)
 ·simp at h
 refine G0 ?_; try with_reducible exact tt
 refine CallS.pu (o_nd x hx) (R0 ?_); try with_reducible exact tt

theorem o_tj (a w : Nat) (h1 : 1 ≤ a) (h2 : a ≤ 4096) (w1 : 1 ≤ w) (w2 : w ≤ 10) (hm : bitsN (a + 1) * (2 ^ w - 1) ≤ 8192) : Eqn Tryz.prog o_9y [.d (.agg [.int .i64 1, .int .i64 a, .int .i64 w])] [] (.d (.int .i64 0)) [] := by
 refine Eqn.pure o_a0 (o_58 _) ?_
 simp only [o_9z]
 have hk := o_si 1 a w
 rw [kindD, if_pos rfl] at hk
 have hg := o_sg a
 rw [show decide (1 ≤ (a : Int) ∧ (a : Int) ≤ 4096) = true by simp; omega] at hg
 have g1 : ¬ (w : Int) < 1 := by omega
 have g2 : ¬ (10 : Int) < w := by omega
 refine G0 ?_; try with_reducible exact tt
 refine CallS.pu (hk) (R1 (fs g1 g2) ?_); try with_reducible exact tt
 refine ⟨_, o_sd, ?_⟩
 refine CallS.pu (hg) (R1 (fs g1 g2) ?_); try with_reducible exact tt
 refine AW.cond rfl (fun h => ?_) (fun h => ?_)
 ·simp [g1, g2] at h
 clear h
 have e1 : IntKind.i64.wrap ((a : Int) + 1) = ((a + 1 : Nat) : Int) := w64 (by omega) (by omega)
 have e2 : IntKind.u64.wrap ((a + 1 : Nat) : Int) = ((a + 1 : Nat) : Int) := wu64 (by omega) (by omega)
 have hb := o_ti (a + 1) (by omega)
 have hbl : bitsN (a + 1) ≤ 8192 := by
  refine Nat.le_trans (Nat.le_mul_of_pos_right _ ?_) hm
  have := Nat.pow_le_pow_right (n := 2) (by omega) w1
  omega
 have h2' : 0 < 2 ^ w := Nat.two_pow_pos w
 have h2 : 2 ^ w ≤ 1024 := Nat.pow_le_pow_right (n := 2) (by omega) w2
 have e0 : (2 : Int) ^ w = (2 ^ w : Nat) := by rw [Int.natCast_pow]; rfl
 generalize 2 ^ w = S at *
 generalize bitsN (a + 1) = B at *
 generalize a + 1 = a1 at *
 have e3 : IntKind.i64.wrap (S : Int) = S := w64 (by omega) (by omega)
 have e4 : IntKind.i64.wrap ((S : Int) - 1) = ((S - 1 : Nat) : Int) := by rw [w64 (by omega) (by omega)]; omega
 have e5 : IntKind.i64.wrap ((B : Int) * ((S - 1 : Nat) : Int)) = ((B * (S - 1) : Nat) : Int) := by
  rw [← Int.natCast_mul]
  generalize B * (S - 1) = x at *
  exact w64 (by omega) (by omega)
 have g3 : ¬ (8192 : Int) < ((B * (S - 1) : Nat) : Int) := by omega
 generalize hS1 : S - 1 = S1 at *
 obtain ⟨x, hx⟩ : ∃ x, x = B * S1 := ⟨_, rfl⟩
 rw [← hx] at e5 g3
 refine G1 (fs e1 e2) ?_; try with_reducible exact tt
 refine CallS.pu (hb) (R1 (fs e0 (fs e3 (fs e4 (fs e5 g3)))) ?_); try with_reducible exact tt
 refine AW.cond rfl (fun h => ?_) (fun h => ?_)
 ·simp [g3] at h
 refine G0 ?_; try with_reducible exact tt

theorem o_tk (a : Int) : Eqn Tryz.prog o_iv [.d (.int .i64 a)] [] (.d (.bool (decide (1 ≤ a ∧ a ≤ 5)))) [] := by
 refine Eqn.pure o_ix (o_58 _) ?_
 simp only [o_iw]
 refine G0 ?_; try with_reducible exact tt
 refine CallS.pu (o_sj a) (R0 ?_); try with_reducible exact tt

theorem o_tl (a w : Nat) (h2 : a ≤ 8) (w1 : 1 ≤ w) (w2 : w ≤ 10) : Eqn Tryz.prog o_9y [.d (.agg [.int .i64 2, .int .i64 a, .int .i64 w])] [] (.d (.int .i64 0)) [] := by
 refine Eqn.pure o_a0 (o_58 _) ?_
 simp only [o_9z]
 have hk := o_si 2 a w
 rw [kindD, if_neg (by omega), if_pos rfl] at hk
 have hg := o_sh a
 rw [show decide (0 ≤ (a : Int) ∧ (a : Int) ≤ 8) = true by simp; omega] at hg
 have g1 : ¬ (w : Int) < 1 := by omega
 have g2 : ¬ (10 : Int) < w := by omega
 refine G0 ?_; try with_reducible exact tt
 refine CallS.pu (hk) (R1 (fs g1 g2) ?_); try with_reducible exact tt
 refine ⟨_, o_se, ?_⟩
 refine CallS.pu (hg) (R1 (fs g1 g2) ?_); try with_reducible exact tt
 refine AW.cond rfl (fun h => ?_) (fun h => ?_)
 ·simp [g1, g2] at h
 clear h
 refine G0 ?_; try with_reducible exact tt
 refine AW.cond rfl (fun h => ?_) (fun h => ?_)
 ·simp at h
 refine G0 ?_; try with_reducible exact tt
theorem o_tm (a w : Nat) (h1 : 1 ≤ a) (h2 : a ≤ 5) (w1 : 1 ≤ w) (w2 : w ≤ 10) : Eqn Tryz.prog o_9y [.d (.agg [.int .i64 3, .int .i64 a, .int .i64 w])] [] (.d (.int .i64 0)) [] := by
 refine Eqn.pure o_a0 (o_58 _) ?_
 simp only [o_9z]
 have hk := o_si 3 a w
 rw [kindD, if_neg (by omega), if_neg (by omega), if_pos rfl] at hk
 have hg := o_tk a
 rw [show decide (1 ≤ (a : Int) ∧ (a : Int) ≤ 5) = true by simp; omega] at hg
 have g1 : ¬ (w : Int) < 1 := by omega
 have g2 : ¬ (10 : Int) < w := by omega
 refine G0 ?_; try with_reducible exact tt
 refine CallS.pu (hk) (R1 (fs g1 g2) ?_); try with_reducible exact tt
 refine ⟨_, o_sf, ?_⟩
 refine CallS.pu (hg) (R1 (fs g1 g2) ?_); try with_reducible exact tt
 refine AW.cond rfl (fun h => ?_) (fun h => ?_)
 ·simp [g1, g2] at h
 clear h
 refine G0 ?_; try with_reducible exact tt
 refine AW.cond rfl (fun h => ?_) (fun h => ?_)
 ·simp at h
 refine G0 ?_; try with_reducible exact tt
end
section
open Go.RowKit
def parD (k a w : Int) : D := .agg [.int .i64 k, .int .i64 a, .int .i64 w]
theorem o_tn (k a : Int) (w : Nat) (w2 : w ≤ 10) (hc : Eqn Tryz.prog o_9y [.d (parD k a w)] [] (.d (.int .i64 0)) []) : Eqn Tryz.prog o_a1 [.d (parD k a w)] [] (.d (.int .i64 (2 ^ w - 1 : Nat))) [] := by
 refine Eqn.pure o_a3 (o_58 _) ?_
 simp only [o_a2, parD] at hc ⊢
 have h2' : 0 < 2 ^ w := Nat.two_pow_pos w
 have h2 : 2 ^ w ≤ 1024 := Nat.pow_le_pow_right (n := 2) (by omega) w2
 have e0 : (2 : Int) ^ w = (2 ^ w : Nat) := by rw [Int.natCast_pow]; rfl
 generalize 2 ^ w = S at *
 have e3 : IntKind.i64.wrap (S : Int) = S := w64 (by omega) (by omega)
 have e4 : IntKind.i64.wrap ((S : Int) - 1) = ((S - 1 : Nat) : Int) := by rw [w64 (by omega) (by omega)]; omega
 generalize S - 1 = S1 at *
 refine G0 ?_; try with_reducible exact tt
 refine CallS.pu (hc) (R0 ?_); try with_reducible exact tt
 refine AW.cond rfl (fun h => ?_) (fun h => ?_)
 ·simp at h
 refine G1 (fs e0 (fs e3 e4)) ?_; try with_reducible exact tt

theorem o_to (k a : Int) (w : Nat) (w2 : w ≤ 10) (x : Int) (h0 : 0 ≤ x) (h1 : x ≤ (2 ^ w - 1 : Nat)) (hc : Eqn Tryz.prog o_9y [.d (parD k a w)] [] (.d (.int .i64 0)) []) : Eqn Tryz.prog o_a4 [.d (parD k a w), .d (.sl 1 [.int .i64 x])] [] (.d (.int .i64 0)) [] := by
 refine Eqn.pure o_a6 (o_58 _) ?_
 have ht := o_tn k a w w2 hc
 simp only [o_a5, parD] at hc ht ⊢
 generalize 2 ^ w - 1 = S at *
 refine G0 ?_; try with_reducible exact tt
 refine CallS.pu (hc) (R0 ?_); try with_reducible exact tt
 refine AW.cond rfl (fun h => ?_) (fun h => ?_)
 ·simp at h
 refine G0 ?_; try with_reducible exact tt
 refine AW.loopT (α := Nat) 1 (fun i => [(15, .d (.int .i64 (i : Int)))]) (fun i => []) (fun i => i ≤ 1) (fun i => 1 - i) 0 ?_ ?_ (Nat.zero_le _) ?_ ?_ ?_
 ·simp
 ·simp
 ·simp
 ·simp
 rintro i hi
 simp
 have g1 : ¬ x < 0 := by omega
 have g2 : ¬ (S : Int) < x := by omega
 by_cases h : i = 1
 ·subst h
  refine G0 ?_; try with_reducible exact tt
  refine AW.cond rfl (fun h => ?_) (fun h => ?_)
  ·simp at h
  refine AW.exit ?_
  (try (simp -implicitDefEqProofs; try simp (disch := omega) only [w64, wu64]))
  refine G0 ?_; try with_reducible exact tt
 ·obtain rfl : i = 0 := by omega
  refine G0 ?_; try with_reducible exact tt
  refine AW.cond rfl (fun h => ?_) (fun h => ?_)
  ·refine G1 (fs g1 g2) ?_; try with_reducible exact tt
   refine CallS.pu (ht) (R1 (fs g1 g2) ?_); try with_reducible exact tt
   refine AW.cond rfl (fun h => ?_) (fun h => ?_)
   ·simp [g1, g2] at h
   have ew : IntKind.i64.wrap 1 = 1 := w64 (by omega) (by omega)
   refine G1 ew ?_; try with_reducible exact tt
   exact ⟨1, by omega, by omega, by simp⟩
  ·simp at h
end
section
open Go.RowKit
end
section
open Go.RowKit
end
section
open Go.RowKit
def stepG (cs : List Bool) (d k : Int) (p : Nat) (dd : Bool) : Bool × Int × Nat × Bool := if wrongZ d [k] = 0 then halfR cs (k.toNat / 2 ^ d.toNat) p dd else (false, wrongZ d [k], p, dd)

def stepYG (cs : List Bool) (s k : Int) (q : Nat) (dd : Bool) : Bool × Int × Nat × Bool := if atE s k = 0 then halfR cs (atP s k).shift q dd else (false, atE s k, q, dd)
end
section
abbrev StepT := Nat → Nat → Bool → Bool × Int × Nat × Bool
def addL (st : StepT) (top : Nat) : Nat → Nat → Bool → Nat → Bool → Int × Nat × Bool × Nat × Bool
 | 0, x, f, p, d => (0, x, f, p, d)
 | n + 1, x, f, p, d =>
  if x = top then (0, x, true, p, d)
  else if (st x p d).2.1 = 0 then
   if f = true ∧ (if (st x p d).1 then x + 1 else x) = top then (0, top, f, (st x p d).2.2.1, (st x p d).2.2.2)
   else addL st top n (if (st x p d).1 then x + 1 else x) f (st x p d).2.2.1 (st x p d).2.2.2
  else ((st x p d).2.1, x, f, (st x p d).2.2.1, (st x p d).2.2.2)
end
section
open Go.RowKit
structure StepOf (cs : List Bool) (ti : TypeId) (d : D) (g : FuncId) (st : StepT) : Prop where
 meth : MethOK Tryz.prog ti "tallymark/chain.step" g
 run : ∀ (x p : Nat) (dd : Bool), p ≤ cs.length → Eqn Tryz.prog g [.d d, .p 0 0, .d (.int .i64 x)] [tapeO cs p dd] (.tup [.d (.bool (st x p dd).1), .d (.int .i64 (st x p dd).2.1)]) [tapeO cs (st x p dd).2.2.1 (st x p dd).2.2.2]
 le : ∀ (x p : Nat) (dd : Bool), p ≤ cs.length → (st x p dd).2.2.1 ≤ cs.length
end
section
open Go.RowKit
def stOf (cs : List Bool) (k a : Int) : StepT := fun x p dd => if k = 1 then stepM cs a x p dd else if k = 2 then stepG cs a x p dd else stepYG cs a x p dd
def GoodS (k a w : Nat) : Prop := (k = 1 ∧ 1 ≤ a ∧ a ≤ 4 ∨ k = 2 ∧ a ≤ 1 ∨ k = 3 ∧ 1 ≤ a ∧ a ≤ 2) ∧ 1 ≤ w ∧ w ≤ 4

theorem o_tp {k a w : Nat} (h : GoodS k a w) : Eqn Tryz.prog o_9y [.d (parD k a w)] [] (.d (.int .i64 0)) [] := by
 obtain ⟨h, h1, h2⟩ := h
 rcases h with ⟨rfl, h3, h4⟩ | ⟨rfl, h3⟩ | ⟨rfl, h3, h4⟩
 ·refine o_tj a w (by omega) (by omega) h1 (by omega) ?_
  have ha : a = 1 ∨ a = 2 ∨ a = 3 ∨ a = 4 := by omega
  have hw : w = 1 ∨ w = 2 ∨ w = 3 ∨ w = 4 := by omega
  rcases ha with rfl | rfl | rfl | rfl <;> rcases hw with rfl | rfl | rfl | rfl <;> decide
 ·exact o_tl a w (by omega) h1 (by omega)
 ·exact o_tm a w (by omega) (by omega) h1 (by omega)

theorem o_tq (k m : Int) (hm : 0 < m) : -m < k.tmod m ∧ k.tmod m < m := by
 refine ⟨?_, Int.tmod_lt_of_pos _ hm⟩
 rcases (by omega : k < 0 ∨ 0 ≤ k) with h | h
 ·have := Int.tmod_lt_of_pos (-k) hm
  rw [Int.neg_tmod] at this
  omega
 ·have := Int.tmod_nonneg m h
  omega
theorem o_tr (k m : Int) (hm : 0 < m) (hm2 : m ≤ 4611686018427387904) : IntKind.i64.wrap (k.tmod m + m) = k.tmod m + m ∧ ∃ r : Nat, (k.tmod m + m).tmod m = r ∧ r < m ∧ IntKind.i64.wrap (1 + (r : Int)) = ((1 + r : Nat) : Int) := by
 have h := o_tq k m hm
 have h0 : 0 ≤ k.tmod m + m := by omega
 refine ⟨w64 (by omega) (by omega), ?_⟩
 have h1 := Int.tmod_nonneg m h0
 have h2 := Int.tmod_lt_of_pos (k.tmod m + m) hm
 obtain ⟨r, hr⟩ : ∃ r : Nat, (k.tmod m + m).tmod m = r := ⟨((k.tmod m + m).tmod m).toNat, by omega⟩
 exact ⟨r, hr, by omega, by rw [w64 (by omega) (by omega)]; omega⟩
theorem o_ts (k : Int) (m : Nat) (hm : m ≤ 4611686018427387904) : ∃ n : Nat, bits BinOp.and IntKind.i64 k (m : Int) = n ∧ n ≤ m ∧ IntKind.i64.wrap (1 + (n : Int)) = ((1 + n : Nat) : Int) := by
 refine ⟨(BitVec.ofInt 64 k).toNat &&& m, ?_, Nat.and_le_right, ?_⟩
 ·have hm' : m % 2 ^ 64 = m := Nat.mod_eq_of_lt (by omega)
  have hle : (BitVec.ofInt 64 k).toNat &&& m ≤ m := Nat.and_le_right
  show IntKind.i64.wrap (((BitVec.ofInt 64 k) &&& (BitVec.ofInt 64 (m : Int))).toNat : Int) = _
  rw [BitVec.toNat_and, BitVec.ofInt_natCast, BitVec.toNat_ofNat, hm']
  generalize (BitVec.ofInt 64 k).toNat &&& m = n at *
  exact w64 (by omega) (by omega)
 ·have hle : (BitVec.ofInt 64 k).toNat &&& m ≤ m := Nat.and_le_right
  generalize (BitVec.ofInt 64 k).toNat &&& m = n at *
  rw [w64 (by omega) (by omega)]; omega
end
section
open Go.RowKit
abbrev AgT := Nat → Nat → Nat → Bool → Bool × Int × Nat × Bool
def agOf (cs : List Bool) (k a : Nat) : AgT := fun x r p dd => if k = 1 then powerR cs a (a + 1) (x - r) p dd else if k = 2 then halfR cs (x / 2 ^ a - r / 2 ^ a) p dd else halfR cs ((placeY a x).shift - (placeY a r).shift) p dd

structure AgainOf (cs : List Bool) (ti : TypeId) (d : D) (g : FuncId) (ag : AgT) : Prop where
 meth : MethOK Tryz.prog ti "tallymark/chain.again" g
 run : ∀ (x r p : Nat) (dd : Bool), x ≤ 1023 → r ≤ 1023 → p ≤ cs.length → Eqn Tryz.prog g [.d d, .p 0 0, .d (.int .i64 x), .d (.int .i64 r)] [tapeO cs p dd] (.tup [.d (.bool (ag x r p dd).1), .d (.int .i64 (ag x r p dd).2.1)]) [tapeO cs (ag x r p dd).2.2.1 (ag x r p dd).2.2.2]
 le : ∀ (x r p : Nat) (dd : Bool), p ≤ cs.length → (ag x r p dd).2.2.1 ≤ cs.length
end
section
open Go.RowKit
def mergeL (ag : AgT) (top : Nat) : Nat → Nat → Nat → Bool → Nat → Bool → Int × Nat × Bool × Nat × Bool
 | 0, _, x, f, p, d => (0, x, f, p, d)
 | n + 1, r, x, f, p, d =>
  if x = top then mergeL ag top n (r + 1) x true p d
  else if (ag x r p d).2.1 = 0 then mergeL ag top n (r + 1) (if (ag x r p d).1 then x + 1 else x) f (ag x r p d).2.2.1 (ag x r p d).2.2.2
  else ((ag x r p d).2.1, x, f, (ag x r p d).2.2.1, (ag x r p d).2.2.2)
end
section
open Go.RowKit
def outD (p : Nat) (R : Bool × Int × Nat × Bool) : D := .agg [.bool R.1, .int .i64 (R.2.2.1 - p : Nat), .int .i64 R.2.1]
end
section
open Go.RowKit
end
section
open Go.RowKit
structure Live (p : Nat) (R : Bool × Int × Nat × Bool) : Prop where
 err : R.2.1 = 0 ∨ R.2.1 = 8
 dead : R.2.2.2 = true ↔ R.2.1 ≠ 0
 no : R.2.1 ≠ 0 → R.1 = false
 le : p ≤ R.2.2.1

theorem Live.mono {p q : Nat} {R : Bool × Int × Nat × Bool} (h : Live q R) (hq : p ≤ q) : Live p R := ⟨h.err, h.dead, h.no, Nat.le_trans hq h.le⟩
theorem Live.ok {p : Nat} {R : Bool × Int × Nat × Bool} (h : Live p R) (h1 : R.2.1 = 0) : R.2.2.2 = false := by
 cases hd : R.2.2.2 with
 | false => rfl
 | true => exact absurd h1 (h.dead.1 hd)
end
section
open Go.RowKit
theorem o_tt : MethOK Tryz.prog 224 "tallymark/chain.chance" o_ia := fun v w => by kernel_rfl
theorem o_tu : MethOK Tryz.prog 225 "tallymark/chain.chance" o_is := fun v w => by kernel_rfl

def halfD (e : Nat) : D := .agg [natW 1, .bool false, natW (2 ^ e - 1)]
def expOf (k a x : Nat) : Nat := if k = 2 then x / 2 ^ a else (placeY a x).shift

theorem o_tv (d k : Nat) (hd : d ≤ 8) (hk : k ≤ 1023) (hu : k / 2 ^ d < 64) : Eqn Tryz.prog o_ia [.d (.int .i64 d), .d (.int .i64 k)] [] (.tup [.d (halfD (k / 2 ^ d)), .d (.int .i64 0)]) [] := by
 refine Eqn.pure o_ic (o_l8 _ _) ?_
 have h := o_tb d k hd hk hu
 simp only [o_ib, halfD]
 generalize natW (2 ^ (k / 2 ^ d) - 1) = Z at *
 refine G0 ?_; try with_reducible exact tt
 refine CallS.pu (h) (R0 ?_); try with_reducible exact tt

theorem o_tw : ∀ a, a < 3 → ∀ x, x < 16 → (placeY a x).shift < 64 := by decide

theorem o_tx (s k : Nat) (h1 : 1 ≤ s) (h2 : s ≤ 5) (hk : k ≤ 1023) (hu : (placeY s k).shift < 64) : Eqn Tryz.prog o_iy [.d (.int .i64 s), .d (.int .i64 k)] [] (.tup [.d (halfD (placeY s k).shift), .d (.int .i64 0)]) [] := by
 refine Eqn.pure o_j0 (o_l8 _ _) ?_
 have ha := o_t9 s k h1 h2 hk
 generalize placeY s k = P at *
 obtain ⟨px, ps, pv, pr⟩ := P
 simp only at hu
 have hh := o_m2 ps hu
 simp only [o_iz, halfD, plD] at ha ⊢
 generalize natW (2 ^ ps - 1) = Z at *
 refine G0 ?_; try with_reducible exact tt
 refine CallS.pu (ha) (R0 ?_); try with_reducible exact tt
 refine AW.cond rfl (fun h => ?_) (fun h => ?_)
 ·simp at h
 refine G0 ?_; try with_reducible exact tt
 refine CallS.pu (hh) (R0 ?_); try with_reducible exact tt

theorem o_ty (s k : Nat) (h1 : 1 ≤ s) (h2 : s ≤ 5) (hk : k ≤ 1023) (hu : (placeY s k).shift < 64) : Eqn Tryz.prog o_is [.d (.int .i64 s), .d (.int .i64 k)] [] (.tup [.d (halfD (placeY s k).shift), .d (.int .i64 0)]) [] := by
 refine Eqn.pure o_iu (o_l8 _ _) ?_
 have h := o_tx s k h1 h2 hk hu
 simp only [o_it, halfD] at h ⊢
 generalize natW (2 ^ (placeY s k).shift - 1) = Z at *
 refine G0 ?_; try with_reducible exact tt
 refine CallS.pu (h) (R0 ?_); try with_reducible exact tt

theorem o_tz {k a w x : Nat} (h : GoodS k a w) (hk : k ≠ 1) (hx : x ≤ 15) : expOf k a x < 64 := by
 unfold expOf
 split
 ·have : x / 2 ^ a ≤ x := Nat.div_le_self _ _
  omega
 ·exact o_tw a (by have := h.1; omega) x (by omega)

theorem o_u0 {k a w x : Nat} (h : GoodS k a w) (hk : k ≠ 1) (hx : x ≤ 15) : ∃ ti d g, MethOK Tryz.prog ti "tallymark/chain.chance" g ∧ kindD k a = .ifc ti d ∧ Eqn Tryz.prog g [.d d, .d (.int .i64 x)] [] (.tup [.d (halfD (expOf k a x)), .d (.int .i64 0)]) [] := by
 have hs := o_tz h hk hx
 obtain ⟨h, -⟩ := h
 rcases h with ⟨rfl, -⟩ | ⟨rfl, h1⟩ | ⟨rfl, h1, h2⟩
 ·exact absurd rfl hk
 ·exact ⟨_, _, _, o_tt, rfl, o_tv a x (by omega) (by omega) hs⟩
 ·exact ⟨_, _, _, o_tu, rfl, o_ty a x h1 (by omega) (by omega) hs⟩

theorem o_u1 {e : Nat} (h : e < 64) : size (2 ^ e) ≤ 1 := o_lv (by have := Nat.pow_lt_pow_right (a := 2) (by omega) h; omega)
end
section
open Go.RowKit
end
section
open Go.RowKit
end
section
structure TR where
 e : Int
 y : Nat
 t : Nat
 f : Bool
 p : Nat
 d : Bool
end
section
open Go.RowKit
def binM (cs : List Bool) : Nat → Nat → Nat → Bool → Int × Nat × Nat × Bool
 | 0, c, p, d => (0, c, p, d)
 | n + 1, c, p, d => if flipE cs p d = 0 then binM cs n (if flipB cs p d then c + 1 else c) (flipP cs p d) (flipD cs p d) else (flipE cs p d, 0, flipP cs p d, flipD cs p d)
def thinM (cs : List Bool) (f : Bool) : Nat → Nat → Nat → Nat → Bool → TR
 | 0, y, t, p, d => ⟨0, y, t, f, p, d⟩
 | n + 1, y, t, p, d => if (binM cs y 0 p d).1 = 0 then thinM cs f n (binM cs y 0 p d).2.1 (t + 1) (binM cs y 0 p d).2.2.1 (binM cs y 0 p d).2.2.2 else ⟨(binM cs y 0 p d).1, y, t, f, (binM cs y 0 p d).2.2.1, (binM cs y 0 p d).2.2.2⟩
def downM (cs : List Bool) (most times : Nat) : Nat → Nat → Nat → Bool → Nat → Bool → TR
 | 0, y, t, f, p, d => ⟨0, y, t, f, p, d⟩
 | k + 1, y, t, f, p, d =>
  if most < y then
   if t = times then ⟨0, most, t, true, p, d⟩
   else if (thinM cs f 1 y t p d).e = 0 then downM cs most times k (thinM cs f 1 y t p d).y (thinM cs f 1 y t p d).t f (thinM cs f 1 y t p d).p (thinM cs f 1 y t p d).d
   else ⟨(thinM cs f 1 y t p d).e, y, t, f, (thinM cs f 1 y t p d).p, (thinM cs f 1 y t p d).d⟩
  else ⟨0, y, t, f, p, d⟩
def oneM (cs : List Bool) (most times y t : Nat) (f : Bool) (p : Nat) (d : Bool) : TR :=
 if (halfR cs t p d).1 then downM cs most times (times - t + 1) (y + 1) t f (halfR cs t p d).2.2.1 (halfR cs t p d).2.2.2
 else ⟨(halfR cs t p d).2.1, y, t, f, (halfR cs t p d).2.2.1, (halfR cs t p d).2.2.2⟩
def addTM (cs : List Bool) (most times : Nat) : Nat → Nat → Nat → Bool → Nat → Bool → TR
 | 0, y, t, f, p, d => ⟨0, y, t, f, p, d⟩
 | n + 1, y, t, f, p, d => if (oneM cs most times y t f p d).e = 0 then addTM cs most times n (oneM cs most times y t f p d).y (oneM cs most times y t f p d).t (oneM cs most times y t f p d).f (oneM cs most times y t f p d).p (oneM cs most times y t f p d).d else oneM cs most times y t f p d
def mergeTM (cs : List Bool) (most times y t : Nat) (f : Bool) (z u : Nat) (g : Bool) (p : Nat) (d : Bool) : TR :=
 let A := thinM cs f (u - t) y t p d
 if A.e = 0 then
  let B := thinM cs g (t - u) z u A.p A.d
  if B.e = 0 then downM cs most times (times - A.t + 1) (A.y + B.y) A.t (f || g) B.p B.d else B
 else A

def tsD (y t : Nat) (f : Bool) : D := .agg [.int .i64 y, .int .i64 t, .bool f]
end
section
open Go.RowKit
def tpD (a b : Int) : D := .agg [.int .i64 a, .int .i64 b]

def GoodT (a b : Nat) : Prop := 1 ≤ a ∧ a ≤ 1023 ∧ b ≤ 20
def WellT (a b y t : Nat) (f : Bool) : Prop := y ≤ a ∧ t ≤ b ∧ (f = true → t = b)

theorem o_u2 {a b : Nat} (h : GoodT a b) : Eqn Tryz.prog o_gj [.d (tpD a b)] [] (.d (.int .i64 0)) [] := by
 refine Eqn.pure o_gl Plain.ok ?_
 obtain ⟨h1, h2, h3⟩ := h
 have g1 : ¬ (a : Int) < 1 := by omega
 have g2 : ¬ (1023 : Int) < a := by omega
 have g3 : ¬ (b : Int) < 0 := by omega
 have g4 : ¬ (20 : Int) < b := by omega
 simp only [o_gk, tpD]
 refine G1 (fs g1 (fs g2 (fs g3 g4))) ?_; try with_reducible exact tt
 refine AW.cond rfl (fun h => ?_) (fun h => ?_)
 ·simp at h
 ·refine G0 ?_; try with_reducible exact tt
end
section
open Go.RowKit
end
section
open Go.RowKit
def GoodC (k a w : Nat) : Prop := (k = 1 ∧ 1 ≤ a ∧ a ≤ 4096 ∧ bitsN (a + 1) * (2 ^ w - 1) ≤ 8192 ∨ k = 2 ∧ a ≤ 8 ∨ k = 3 ∧ 1 ≤ a ∧ a ≤ 5) ∧ 1 ≤ w ∧ w ≤ 10
theorem o_u3 {k a w : Nat} (h : GoodS k a w) : GoodC k a w := by
 obtain ⟨h, h1, h2⟩ := h
 refine ⟨?_, h1, by omega⟩
 rcases h with ⟨rfl, h3, h4⟩ | ⟨rfl, h3⟩ | ⟨rfl, h3, h4⟩
 ·refine .inl ⟨rfl, h3, by omega, ?_⟩
  have ha : a = 1 ∨ a = 2 ∨ a = 3 ∨ a = 4 := by omega
  have hw : w = 1 ∨ w = 2 ∨ w = 3 ∨ w = 4 := by omega
  rcases ha with rfl | rfl | rfl | rfl <;> rcases hw with rfl | rfl | rfl | rfl <;> decide
 ·exact .inr (.inl ⟨rfl, by omega⟩)
 ·exact .inr (.inr ⟨rfl, h3, by omega⟩)
theorem o_u4 {k a w : Nat} (h : GoodC k a w) : Eqn Tryz.prog o_9y [.d (parD k a w)] [] (.d (.int .i64 0)) [] := by
 obtain ⟨h, h1, h2⟩ := h
 rcases h with ⟨rfl, h3, h4, h5⟩ | ⟨rfl, h3⟩ | ⟨rfl, h3, h4⟩
 ·exact o_tj a w h3 h4 h1 h2 h5
 ·exact o_tl a w h3 h1 h2
 ·exact o_tm a w h3 h4 h1 h2
def GoodR (k a b : Nat) : Prop := k = 4 ∧ GoodT a b ∨ k ≠ 4 ∧ GoodC k a b
def WellR (k a b y t : Nat) (f : Bool) : Prop := k = 4 ∧ WellT a b y t f ∨ k ≠ 4 ∧ t = 0 ∧ y ≤ 2 ^ b - 1 ∧ (f = true → y = 2 ^ b - 1)
def addRM (cs : List Bool) (k a b n y t : Nat) (f : Bool) (p : Nat) (d : Bool) : TR :=
 if k = 4 then addTM cs a b n y t f p d
 else ⟨(addL (stOf cs k a) (2 ^ b - 1) n y f p d).1, (addL (stOf cs k a) (2 ^ b - 1) n y f p d).2.1, 0, (addL (stOf cs k a) (2 ^ b - 1) n y f p d).2.2.1, (addL (stOf cs k a) (2 ^ b - 1) n y f p d).2.2.2.1, (addL (stOf cs k a) (2 ^ b - 1) n y f p d).2.2.2.2⟩
def mergeRM (cs : List Bool) (k a b y t : Nat) (f : Bool) (z u : Nat) (g : Bool) (p : Nat) (d : Bool) : TR :=
 if k = 4 then mergeTM cs a b y t f z u g p d
 else ⟨(mergeL (agOf cs k a) (2 ^ b - 1) z 0 y f p d).1, (mergeL (agOf cs k a) (2 ^ b - 1) z 0 y f p d).2.1, 0, (mergeL (agOf cs k a) (2 ^ b - 1) z 0 y f p d).2.2.1 || g, (mergeL (agOf cs k a) (2 ^ b - 1) z 0 y f p d).2.2.2.1, (mergeL (agOf cs k a) (2 ^ b - 1) z 0 y f p d).2.2.2.2⟩
end
section
def b2n (b : Bool) : Nat := if b then 1 else 0
@[simp] theorem o_u5 (b : Bool) : b2n b ≤ 1 := by cases b <;> decide
def numB : List Bool → Nat → Nat
 | [], n => n
 | b :: l, n => numB l (2 * n + b2n b)
theorem o_u6 : ∀ (l : List Bool) (n : Nat), numB l n = n * 2 ^ l.length + numB l 0
 | [], n => by simp [numB]
 | b :: l, n => by
  rw [numB, o_u6 l, numB, o_u6 l (2 * 0 + b2n b), List.length_cons, Nat.pow_succ, Nat.add_mul, Nat.mul_zero, Nat.zero_add, ← Nat.add_assoc, Nat.mul_comm 2 n, Nat.mul_assoc, Nat.mul_comm 2]
theorem o_u7 : ∀ l : List Bool, numB l 0 < 2 ^ l.length
 | [] => by simp [numB]
 | b :: l => by
  rw [numB, o_u6, List.length_cons, Nat.pow_succ]
  have := o_u7 l
  have := o_u5 b
  generalize 2 ^ l.length = v at *
  cases b <;> simp [b2n] <;> omega
def bitsW (n w : Nat) : List Bool := (List.range w).map fun i => decide (n / 2 ^ (w - 1 - i) % 2 = 1)
@[simp] theorem o_u8 (n w : Nat) : (bitsW n w).length = w := by simp [bitsW]
theorem o_u9 (n w : Nat) : bitsW n (w + 1) = bitsW (n / 2) w ++ [decide (n % 2 = 1)] := by
 simp only [bitsW, List.range_succ, List.map_append, List.map_cons, List.map_nil]
 congr 1
 ·apply List.map_congr_left
  intro i hi
  have := List.mem_range.1 hi
  rw [Nat.div_div_eq_div_mul, ← Nat.pow_succ', show w + 1 - 1 - i = (w - 1 - i).succ by omega]
 ·simp
def bit (bs : List Bool) (i : Nat) : Nat := b2n (bs.getD i false)
def byteAt (bs : List Bool) (i : Nat) : Nat := bit bs (8 * i) * 128 + bit bs (8 * i + 1) * 64 + bit bs (8 * i + 2) * 32 + bit bs (8 * i + 3) * 16 + bit bs (8 * i + 4) * 8 + bit bs (8 * i + 5) * 4 + bit bs (8 * i + 6) * 2 + bit bs (8 * i + 7)
def bytesOf (bs : List Bool) : List Nat := (List.range ((bs.length + 7) / 8)).map (byteAt bs)
@[simp] theorem o_ua (bs : List Bool) : (bytesOf bs).length = (bs.length + 7) / 8 := by simp [bytesOf]
theorem o_ub {bs : List Bool} {i : Nat} (h : bs.length ≤ i) : bit bs i = 0 := by
 unfold bit; rw [List.getD_eq_getElem?_getD, List.getElem?_eq_none h]; rfl
def bitsOf1 (x : Nat) : List Bool := bitsW x 8
def bitsOf : List Nat → List Bool
 | [] => []
 | x :: l => bitsOf1 x ++ bitsOf l
@[simp] theorem o_uc : ∀ l : List Nat, (bitsOf l).length = 8 * l.length
 | [] => rfl
 | x :: l => by simp [bitsOf, bitsOf1, o_uc l]; omega
theorem o_ud : ∀ l k : List Nat, bitsOf (l ++ k) = bitsOf l ++ bitsOf k
 | [], k => rfl
 | x :: l, k => by simp [bitsOf, o_ud l k]
end
section
open Go.RowKit
def u8s (ws : List Nat) : List V := ws.map fun x : Nat => V.d (.int .u8 x)
def BY (ws : List Nat) : D := .sl ws.length (ws.map fun x : Nat => .int .u8 x)
@[simp] theorem o_ue (n : Nat) (ws : List Nat) : V.lowl n (u8s ws) = true := by induction ws <;> simp_all [u8s]
@[simp] theorem o_uf (θ : Nat → Nat) (ws : List Nat) : V.rens θ (u8s ws) = u8s ws := by induction ws <;> simp_all [u8s]
def wrB (bs : List Bool) : Ob := ⟨5, u8s (bytesOf bs)⟩
end
section
open Go.RowKit
def smallB (ws : List Nat) : Prop := ∀ x ∈ ws, x < 256
end
section
open Go.RowKit
def numAt (ws : List Nat) (a w : Nat) : Nat := numB (((bitsOf ws).drop a).take w) 0
end
section
open Go.RowKit
def wellTB (a b y t : Nat) (f : Bool) : Bool := decide (y ≤ a) && (decide (t ≤ b) && (!f || t == b))
theorem o_ug {a b : Nat} (h : GoodT a b) (y t : Nat) (f : Bool) : Eqn Tryz.prog o_fg [.d (tpD a b), .d (tsD y t f)] [] (.d (.bool (wellTB a b y t f))) [] := by
 refine Eqn.pure o_fi Plain.ok ?_
 have hc := o_u2 h
 have g3 : (0 : Int) ≤ y := by omega
 have g4 : (0 : Int) ≤ t := by omega
 simp only [o_fh, tpD, tsD, wellTB] at hc ⊢
 by_cases h1 : y ≤ a
 ·have h1' : (y : Int) ≤ a := by omega
  by_cases h2 : t ≤ b
  ·have h2' : (t : Int) ≤ b := by omega
   cases f with
   | true =>
    by_cases h3 : t = b
    ·subst h3
     refine G1 (fs g3 (fs g4 (fs h1 (fs h1' (fs h2 h2'))))) ?_; try with_reducible exact tt
     refine CallS.pu (hc) (R1 (fs g3 (fs g4 (fs h1 (fs h1' (fs h2 h2'))))) ?_); try with_reducible exact tt
    ·have h3' : ¬ (t : Int) = b := by omega
     refine G1 (fs g3 (fs g4 (fs h1 (fs h1' (fs h2 (fs h2' (fs h3 h3'))))))) ?_; try with_reducible exact tt
     refine CallS.pu (hc) (R1 (fs g3 (fs g4 (fs h1 (fs h1' (fs h2 (fs h2' (fs h3 h3'))))))) ?_); try with_reducible exact tt
     exact Sub1.bool (by rw [Bool.eq_iff_iff]; simp; omega)
   | false =>
    refine G1 (fs g3 (fs g4 (fs h1 (fs h1' (fs h2 h2'))))) ?_; try with_reducible exact tt
    refine CallS.pu (hc) (R1 (fs g3 (fs g4 (fs h1 (fs h1' (fs h2 h2'))))) ?_); try with_reducible exact tt
  ·have h2' : ¬ (t : Int) ≤ b := by omega
   refine G1 (fs g3 (fs g4 (fs h1 (fs h1' (fs h2 h2'))))) ?_; try with_reducible exact tt
   refine CallS.pu (hc) (R1 (fs g3 (fs g4 (fs h1 (fs h1' (fs h2 h2'))))) ?_); try with_reducible exact tt
 ·have h1' : ¬ (y : Int) ≤ a := by omega
  refine G1 (fs g3 (fs g4 (fs h1 h1'))) ?_; try with_reducible exact tt
  refine CallS.pu (hc) (R1 (fs g3 (fs g4 (fs h1 h1'))) ?_); try with_reducible exact tt

theorem o_uh (k a b : Int) : Eqn Tryz.prog o_bo [.d (parD k a b)] [] (.d (tpD a b)) [] := by
 refine Eqn.pure o_bq Plain.ok ?_
 simp only [o_bp, parD, tpD]
 refine G0 ?_; try with_reducible exact tt
theorem o_ui (k a b : Int) : Eqn Tryz.prog o_bu [.d (parD k a b)] [] (.d (parD k a b)) [] := by
 refine Eqn.pure o_bw Plain.ok ?_
 simp only [o_bv, parD]
 refine G0 ?_; try with_reducible exact tt
theorem o_uj (y t : Int) (f : Bool) : Eqn Tryz.prog o_br [.d (.agg [.int .i64 y, .int .i64 t, .bool f])] [] (.d (.agg [.int .i64 y, .int .i64 t, .bool f])) [] := by
 refine Eqn.pure o_bt Plain.ok ?_
 simp only [o_bs]
 refine G0 ?_; try with_reducible exact tt
theorem o_uk {k a b : Nat} (h : GoodR k a b) : Eqn Tryz.prog o_er [.d (parD k a b)] [] (.d (.int .i64 0)) [] := by
 refine Eqn.pure o_et Plain.ok ?_
 rcases h with ⟨rfl, h⟩ | ⟨hk, h⟩
 ·have h1 := o_uh 4 a b
  have h2 := o_u2 h
  simp only [o_es, parD, tpD] at h1 h2 ⊢
  refine G0 ?_; try with_reducible exact tt
  refine AW.cond rfl (fun h => ?_) (fun h => ?_)
  ·refine G0 ?_; try with_reducible exact tt
   refine CallS.pu (h1) (R0 ?_); try with_reducible exact tt
   refine CallS.pu (h2) (R0 ?_); try with_reducible exact tt
  ·simp at h
 ·have h1 := o_ui k a b
  have h2 := o_u4 h
  have hk' : ¬ (k : Int) = 4 := by omega
  simp only [o_es, parD] at h1 h2 ⊢
  refine G1 (fs hk hk') ?_; try with_reducible exact tt
  refine AW.cond rfl (fun h => ?_) (fun h => ?_)
  ·simp [hk'] at h
  ·refine G0 ?_; try with_reducible exact tt
   refine CallS.pu (h1) (R0 ?_); try with_reducible exact tt
   refine CallS.pu (h2) (R0 ?_); try with_reducible exact tt

def wellRB (k a b y t : Nat) (f : Bool) : Bool := if k = 4 then wellTB a b y t f else (t == 0) && (decide (y ≤ 2 ^ b - 1) && (!f || y == 2 ^ b - 1))
theorem o_ul {k a b y t : Nat} {f : Bool} : wellRB k a b y t f = true ↔ WellR k a b y t f := by
 unfold wellRB WellR wellTB WellT
 by_cases hk : k = 4
 ·subst hk
  simp
  intro _ _
  cases f <;> simp
 ·simp [hk]
  intro _ _
  cases f <;> simp

theorem o_um {k a b : Nat} (h : GoodR k a b) (y t : Nat) (f : Bool) : Eqn Tryz.prog o_bd [.d (parD k a b), .d (tsD y t f)] [] (.d (.bool (wellRB k a b y t f))) [] := by
 refine Eqn.pure o_bf Plain.ok ?_
 have hc := o_uk h
 rcases h with ⟨rfl, h⟩ | ⟨hk, h⟩
 ·have h1 := o_uh 4 a b
  have h2 := o_ug h y t f
  have h3 := o_uj y t f
  simp only [o_be, parD, tpD, tsD, wellRB, if_true] at hc h1 h2 h3 ⊢
  generalize wellTB a b y t f = w at *
  refine G0 ?_; try with_reducible exact tt
  refine CallS.pu (hc) (R0 ?_); try with_reducible exact tt
  refine AW.cond rfl (fun h => ?_) (fun h => ?_)
  ·simp at h
  refine G0 ?_; try with_reducible exact tt
  refine AW.cond rfl (fun h => ?_) (fun h => ?_)
  ·refine G0 ?_; try with_reducible exact tt
   refine CallS.pu (h1) (R0 ?_); try with_reducible exact tt
   refine CallS.pu (h3) (R0 ?_); try with_reducible exact tt
   refine CallS.pu (h2) (R0 ?_); try with_reducible exact tt
  ·simp at h
 ·have h1 := o_ui k a b
  have h2 := o_tn k a b h.2.2 (o_u4 h)
  have hk' : ¬ (k : Int) = 4 := by omega
  have g : (0 : Int) ≤ y := by omega
  simp only [o_be, parD, tsD, wellRB, if_neg hk] at hc h1 h2 ⊢
  generalize 2 ^ b - 1 = S at *
  by_cases ht : t = 0
  ·subst ht
   by_cases hy : y ≤ S
   ·have hy' : (y : Int) ≤ S := by omega
    cases f with
    | true =>
     by_cases hs : y = S
     ·subst hs
      refine G1 (fs g (fs hk hk')) ?_; try with_reducible exact tt
      refine CallS.pu (hc) (R1 (fs g (fs hk hk')) ?_); try with_reducible exact tt
      refine AW.cond rfl (fun h => ?_) (fun h => ?_)
      ·simp at h
      refine G1 (fs g (fs hk hk')) ?_; try with_reducible exact tt
      refine AW.cond rfl (fun h => ?_) (fun h => ?_)
      ·simp [hk'] at h
      refine G1 g ?_; try with_reducible exact tt
      refine CallS.pu (h1) (R1 g ?_); try with_reducible exact tt
      refine CallS.pu (h2) (R1 g ?_); try with_reducible exact tt
     ·have hs' : ¬ (y : Int) = S := by omega
      refine G1 (fs g (fs hk (fs hk' (fs hy (fs hy' (fs hs hs')))))) ?_; try with_reducible exact tt
      refine CallS.pu (hc) (R1 (fs g (fs hk (fs hk' (fs hy (fs hy' (fs hs hs')))))) ?_); try with_reducible exact tt
      refine AW.cond rfl (fun h => ?_) (fun h => ?_)
      ·simp at h
      refine G1 (fs g (fs hk (fs hk' (fs hy (fs hy' (fs hs hs')))))) ?_; try with_reducible exact tt
      refine AW.cond rfl (fun h => ?_) (fun h => ?_)
      ·simp [hk'] at h
      refine G1 g ?_; try with_reducible exact tt
      refine CallS.pu (h1) (R1 g ?_); try with_reducible exact tt
      refine CallS.pu (h2) (R1 (fs g (fs hy (fs hy' (fs hs hs')))) ?_); try with_reducible exact tt
      exact Sub1.bool (by rw [Bool.eq_iff_iff]; simp; omega)
    | false =>
     refine G1 (fs g (fs hk (fs hk' (fs hy hy')))) ?_; try with_reducible exact tt
     refine CallS.pu (hc) (R1 (fs g (fs hk (fs hk' (fs hy hy')))) ?_); try with_reducible exact tt
     refine AW.cond rfl (fun h => ?_) (fun h => ?_)
     ·simp at h
     refine G1 (fs g (fs hk (fs hk' (fs hy hy')))) ?_; try with_reducible exact tt
     refine AW.cond rfl (fun h => ?_) (fun h => ?_)
     ·simp [hk'] at h
     refine G1 g ?_; try with_reducible exact tt
     refine CallS.pu (h1) (R1 g ?_); try with_reducible exact tt
     refine CallS.pu (h2) (R1 (fs g (fs hy hy')) ?_); try with_reducible exact tt
   ·have hy' : ¬ (y : Int) ≤ S := by omega
    refine G1 (fs g (fs hk (fs hk' (fs hy hy')))) ?_; try with_reducible exact tt
    refine CallS.pu (hc) (R1 (fs g (fs hk (fs hk' (fs hy hy')))) ?_); try with_reducible exact tt
    refine AW.cond rfl (fun h => ?_) (fun h => ?_)
    ·simp at h
    refine G1 (fs g (fs hk (fs hk' (fs hy hy')))) ?_; try with_reducible exact tt
    refine AW.cond rfl (fun h => ?_) (fun h => ?_)
    ·simp [hk'] at h
    refine G1 g ?_; try with_reducible exact tt
    refine CallS.pu (h1) (R1 g ?_); try with_reducible exact tt
    refine CallS.pu (h2) (R1 (fs g (fs hy hy')) ?_); try with_reducible exact tt
  ·have ht' : ¬ (t : Int) = 0 := by omega
   refine G1 (fs g (fs hk (fs hk' (fs ht ht')))) ?_; try with_reducible exact tt
   refine CallS.pu (hc) (R1 (fs g (fs hk (fs hk' (fs ht ht')))) ?_); try with_reducible exact tt
   refine AW.cond rfl (fun h => ?_) (fun h => ?_)
   ·simp at h
   refine G1 (fs g (fs hk (fs hk' (fs ht ht')))) ?_; try with_reducible exact tt
   refine AW.cond rfl (fun h => ?_) (fun h => ?_)
   ·simp [hk'] at h
   refine G1 g ?_; try with_reducible exact tt
   refine CallS.pu (h1) (R1 g ?_); try with_reducible exact tt
   refine CallS.pu (h2) (R1 (fs g (fs ht ht')) ?_); try with_reducible exact tt
   exact Sub1.bool (by simp [ht])
end
section
open Go.RowKit
def stR (R : TR) (y t : Nat) (f : Bool) : D := if R.e = 0 then tsD R.y R.t R.f else tsD y t f
end
section
open Go.RowKit
def kwR (k a b : Nat) : Nat := if k = 4 then bitsN a else b
def twR (k b : Nat) : Nat := if k = 4 then bitsN b else 0
def encR (k a b y t : Nat) (f : Bool) : List Bool := bitsW y (kwR k a b) ++ bitsW t (twR k b) ++ [f]
theorem o_un (k a b y t : Nat) (f : Bool) : (encR k a b y t f).length = kwR k a b + twR k b + 1 := by simp [encR]; omega

def readR (ws : List Nat) (k a b at_ : Nat) : (Nat × Nat × Bool) × Int × Nat :=
 if 8 * ws.length - at_ < kwR k a b + twR k b + 1 then ((0, 0, false), 5, at_)
 else if wellRB k a b (numAt ws at_ (kwR k a b)) (numAt ws (at_ + kwR k a b) (twR k b)) ((bitsOf ws).getD (at_ + kwR k a b + twR k b) false) then ((numAt ws at_ (kwR k a b), numAt ws (at_ + kwR k a b) (twR k b), (bitsOf ws).getD (at_ + kwR k a b + twR k b) false), 0, at_ + kwR k a b + twR k b + 1)
 else ((0, 0, false), 4, at_ + kwR k a b + twR k b + 1)
end
section
def ofB (f : Nat → Bool) : Nat → Nat
 | 0 => 0
 | n + 1 => ofB f n + (if f n then 2 ^ n else 0)
def bitX (w : Nat) (xs : List Nat) (k : Nat) : Bool := (xs.getD (k / w) 0).testBit (k % w)
def nwP (n w : Nat) : Nat := (n * w + 63) / 64
def wordsP (w : Nat) (xs : List Nat) : List Nat := (List.range (nwP xs.length w)).map fun j => ofB (fun b => bitX w xs (64 * j + b)) 64
@[simp] theorem o_uo (w : Nat) (xs : List Nat) : (wordsP w xs).length = nwP xs.length w := by simp [wordsP]
theorem o_up {w : Nat} {xs : List Nat} {j : Nat} (h : j < nwP xs.length w) : (wordsP w xs).getD j 0 = ofB (fun b => bitX w xs (64 * j + b)) 64 := by
 unfold wordsP; rw [List.getD_eq_getElem?_getD, List.getElem?_map, List.getElem?_range h]; rfl
def smallP (w : Nat) (xs : List Nat) : Prop := ∀ x ∈ xs, x < 2 ^ w
def andN (x y : Nat) : Nat := x &&& (2 ^ 64 - 1 - y)
def setW1 (w : Nat) (x v r : Nat) : Nat := andN x ((2 ^ w - 1) * 2 ^ r % 2 ^ 64) ||| v * 2 ^ r % 2 ^ 64
def setW2 (w : Nat) (x v s : Nat) : Nat := andN x ((2 ^ w - 1) / 2 ^ s) ||| v / 2 ^ s
end
section
open Go.RowKit
def u64s (ws : List Nat) : List V := ws.map fun x : Nat => V.d (.int .u64 x)
@[simp] theorem o_uq (n : Nat) (ws : List Nat) : V.lowl n (u64s ws) = true := by induction ws <;> simp_all [u64s]
@[simp] theorem o_ur (θ : Nat → Nat) (ws : List Nat) : V.rens θ (u64s ws) = u64s ws := by induction ws <;> simp_all [u64s]
def vecB (w : Nat) (xs : List Nat) : Ob := ⟨194, u64s (wordsP w xs)⟩

def vecD (w : Nat) (xs : List Nat) : List D := [.sl (nwP xs.length w) ((wordsP w xs).map fun x : Nat => D.int .u64 x), .int .i64 xs.length, .int .i64 w]
end
section
open Go.RowKit
end
section
open Go.RowKit
def encN (k a b y t : Nat) (f : Bool) : Nat := numB (encR k a b y t f) 0
def wdR (k a b : Nat) : Nat := kwR k a b + twR k b + 1
theorem o_us (k a b y t : Nat) (f : Bool) : encN k a b y t f < 2 ^ wdR k a b := by have := o_u7 (encR k a b y t f); rw [o_un] at this; exact this
abbrev ST := Nat × Nat × Bool
def encs (k a b : Nat) (l : List ST) : List Nat := l.map fun s => encN k a b s.1 s.2.1 s.2.2
def wells (k a b : Nat) (l : List ST) : Prop := ∀ s ∈ l, WellR k a b s.1 s.2.1 s.2.2
@[simp] theorem o_ut (k a b : Nat) (l : List ST) : (encs k a b l).length = l.length := by simp [encs]
theorem o_uu (k a b : Nat) (l : List ST) : smallP (wdR k a b) (encs k a b l) := by
 intro x hx
 obtain ⟨s, -, rfl⟩ := List.mem_map.1 hx
 exact o_us _ _ _ _ _ _
def arrB (k a b : Nat) (l : List ST) : Ob := vecB (wdR k a b) (encs k a b l)
end
section
open Go.RowKit
end
section
open Go.RowKit
end
section
open Go.RowKit
theorem o_uv (n s : Nat) (ds : List D) (l : List D) : V.frzs n s ds (l.map V.d) = l.map V.d := by
 rw [o_53]; simp [V.frz]
end
section
open Go.RowKit
section
variable {P : Program} {L : Nat} {Q : Exit → List V → List (Option Ob) → Prop} {T : List V} {H : List (Option Ob)} {x : C}
def AWu (P : Program) (L : Nat) (x : C) (Q : Exit → List V → List (Option Ob) → Prop) : Nat → List V → List (Option Ob) → Prop
 | 0, _, _ => False
 | n + 1, T, H => AW P L x (thenQ (AWu P L x Q n) Q) T H
theorem AW.rounds (n : Nat) (h : AWu P L x Q n T H) : AW P L (.loop x) Q T H := by
 refine AW.loop (fun k T H => AWu P L x Q k T H) n h fun k T H hk => ?_
 cases k with
 | zero => exact hk.elim
 | succ k =>
  refine AW.mono hk fun e T' H' hq => ?_
  cases e <;> first | exact ⟨k, Nat.lt_succ_self k, hq⟩ | exact hq
theorem AWu.next {n : Nat} (h : AW P L x (thenQ (AWu P L x Q n) Q) T H) : AWu P L x Q (n + 1) T H := h
end
theorem EqnD.sub {P : Program} {f : FuncId} {args args' : List V} {Hs Hs' : List Ob} {X : V} {dead : List Nat} (E : EqnD P f args' Hs X Hs' dead) (h : Subs args args') : EqnD P f args Hs X Hs' dead :=
 ⟨E.len, E.old, E.lowx, E.lowo, fun m vs hb hv => E.run m vs hb (h m vs hv)⟩
end
section
open Go.RowKit
attribute [simp] o_uv o_5v o_5w
@[simp] theorem o_uw (θ : Nat → Nat) : ∀ l k : List V, V.rens θ (l ++ k) = V.rens θ l ++ V.rens θ k
 | [], k => by simp [V.rens]
 | x :: l, k => by simp [V.rens, o_uw θ l k]
@[simp] theorem o_ux (n : Nat) : ∀ l k : List V, V.lowl n (l ++ k) = (V.lowl n l && V.lowl n k)
 | [], k => by simp [V.lowl]
 | x :: l, k => by simp [V.lowl, o_ux n l k, Bool.and_assoc]
def arrD (k a b : Nat) (l : List ST) : List D := [.ptr (vecD (wdR k a b) (encs k a b l)) 0, .int .i64 k, .int .i64 a, .int .i64 b]
end
section
open Go.RowKit
def dsD (l : List Nat) : List D := l.map fun x : Nat => D.int .i64 x
def nD (n : Nat) : D := .sl (sizeD n) (dsD (decs n))
theorem o_uy (l : List Nat) : (dsD l).length = l.length := by simp [dsD]
theorem o_uz (l : List Nat) (i : Nat) (h : i < l.length) : (dsD l)[i]? = some (.int .i64 (l.getD i 0 : Nat)) := by simp [dsD, h]
theorem o_v0 : decs 0 = [] := rfl
theorem o_v1 : nD 0 = .sl 0 [] := rfl

theorem o_v2 (l : List Nat) (hs : dsmall l) (hn : l.length ≤ 1000000) : Eqn Tryz.prog o_dx [.d (.sl l.length (dsD l))] [] (.d (nD (dval l))) [] := by
 refine Eqn.pure o_dz Plain.ok ?_
 have hlen := o_uy l
 have hget := o_uz l
 have htk : ∀ i, i ≤ l.length → trimN l i = trimN l l.length → trimN l i = i → D.sl i ((dsD l).take i) = nD (dval l) := by
  intro i hi h1 h2
  have h3 := o_rr l l.length (Nat.le_refl _)
  have h4 := o_jr l l.length (Nat.le_refl _)
  rw [← h1, h2, List.take_length] at h3
  rw [← h1, h2] at h4
  have h5 := o_sb (hs.take i) h4
  rw [h3] at h5
  unfold nD sizeD dsD
  rw [h5, List.length_take, Nat.min_eq_left hi, List.map_take]
 have htk' : ∀ i, i ≤ l.length → trimN l i = trimN l l.length → trimN l i = i → D.sl i ((l.map fun x : Nat => D.int .i64 x).take i) = nD (dval l) := htk
 simp only [o_dy, dsD]
 clear hlen hget htk
 generalize nD (dval l) = N at *
 refine A00 ?_; try with_reducible exact tt
 refine AW.loopT (α := Nat) 0 (fun i => [(3, .d (.int .i64 (i : Nat)))]) (fun i => []) (fun i => i ≤ l.length ∧ trimN l i = trimN l l.length) (fun i => i) l.length ?_ ?_ ⟨Nat.le_refl _, rfl⟩ ?_ ?_ ?_
 ·simp
 ·simp
 ·simp
 ·simp
 rintro i ⟨hi, ht⟩
 simp
 rcases i with _ | m
 ·have hf := htk' 0 hi ht rfl
  refine A00 ?_; try with_reducible exact tt
  exact Sub1.of (by rw [← hf]; simp)
 ·have hm : m < l.length := by omega
  have hm2 : ¬ l.length ≤ m := by omega
  have hge : l.getD m 0 = l[m] := by simp [List.getD, hm]
  have ew : IntKind.i64.wrap (m : Int) = (m : Int) := w64 (by omega) (by omega)
  by_cases h0 : l[m] = 0
  ·have ht2 : trimN l m = trimN l l.length := by rw [← ht, trimN, if_pos (by rw [hge]; exact h0)]
   refine A10 (fs hm (fs hm2 (fs hi (fs h0 ew)))) ?_; try with_reducible exact tt
   exact ⟨m, ⟨by omega, ht2⟩, by omega, Sub1.refl _⟩
  ·have hf := htk' (m + 1) hi ht (by rw [trimN, if_neg (by rw [hge]; exact h0)])
   have h0' : ¬ ((l[m] : Nat) : Int) = 0 := by omega
   refine A10 (fs hm (fs hm2 (fs hi (fs h0 (fs h0' ew))))) ?_; try with_reducible exact tt
   exact Sub1.of (by rw [hf])
theorem o_v3 {m : Nat} (h : m ≠ 0) : decs m = (m % 10000) :: decs (m / 10000) := by
 obtain ⟨k, rfl⟩ : ∃ k, m = k + 1 := ⟨m - 1, by omega⟩
 conv => lhs; unfold decs
 rw [decsF, if_neg h]
 obtain ⟨h1, h2, h3⟩ := o_s7 k ((k + 1) / 10000) (by omega)
 rw [o_rt h2 (o_s9 _) h3 (o_sa _) (by rw [h1, o_s8])]
theorem o_v4 (l : List Nat) (x : Nat) : (dsD (l ++ [x])).map V.d = (dsD l).map V.d ++ [.d (.int .i64 x)] := by simp [dsD]

theorem o_v5 (n : Nat) (hn : n < 9223372036854775808) : Eqn Tryz.prog o_9m [.d (.int .i64 n)] [] (.d (nD n)) [] := by
 refine Eqn.pure o_9o Plain.ok ?_
 have hsz : (decs n).length ≤ 5 := o_ru (o_sa n) (by rw [o_s8]; omega)
 simp only [o_9n]
 refine A00 ?_; try with_reducible exact tt
 refine AW.loopG (α := List Nat × Nat) (fun s => setS (List.replicate 14 .junk) [(0, .d (.int .i64 (s.2 : Nat))), (3, if s.1 = [] then .d .nilsl else .own 0 1 s.1.length)]) (fun s => if s.1 = [] then [] else [some ⟨3, (dsD s.1).map .d⟩]) (fun s => s.1 ++ decs s.2 = decs n ∧ s.2 ≤ n) (fun s => s.2) ([], n) ?_ ⟨rfl, Nat.le_refl _⟩ ?_ ?_ ?_
 ·intro i hi; split <;> simp
 ·simp
 ·simp
 rintro ⟨pre, m⟩ ⟨hp, hm⟩
 simp only at hp hm
 have hpl : pre.length ≤ 5 := by rw [← hp, List.length_append] at hsz; omega
 by_cases h0 : m = 0
 ·subst h0
  rw [o_v0, List.append_nil] at hp
  subst hp
  by_cases hpe : decs n = []
  ·have hn0 := o_sc.1 hpe
   subst hn0
   rw [if_pos hpe, if_pos hpe]
   simp
   refine A00 ?_; try with_reducible exact tt
   exact Sub1.nil
  ·rw [if_neg hpe, if_neg hpe]
   have htk : (dsD (decs n)).take (decs n).length = dsD (decs n) := List.take_of_length_le (by rw [o_uy]; omega)
   simp
   refine AW.freeze 0 1 ⟨3, (dsD (decs n)).map .d⟩ (dsD (decs n)) (by simp) rfl ?_
   simp [frzH, htk]
   refine A00 ?_; try with_reducible exact tt
   exact Sub1.refl _
 ·have hst := o_v3 h0
  rw [hst, List.append_cons] at hp
  have hmp : 0 < m := by omega
  have hmp' : (0 : Int) < m := by omega
  have e1 : (m : Int).tmod 10000 = ((m % 10000 : Nat) : Int) := by rw [Int.tmod_eq_emod_of_nonneg (by omega)]; omega
  have e2 : (m : Int).tdiv 10000 = ((m / 10000 : Nat) : Int) := by rw [Int.tdiv_eq_ediv_of_nonneg (by omega)]; omega
  have hlt : m / 10000 < m := by omega
  have hle : m / 10000 ≤ n := by omega
  have hsn := o_v4 pre (m % 10000)
  clear hst
  generalize m % 10000 = x at *
  generalize m / 10000 = y at *
  by_cases hpe : pre = []
  ·subst hpe
   simp
   refine A10 (fs hmp (fs hmp' (fs e1 e2))) ?_; try with_reducible exact tt
   refine ⟨[x], y, 0, 1, by simp, ⟨hp, hle⟩, hlt, ?_, ?_⟩
   ·simp [swT, swH, sw, Ob.sw, V.ren, V.rens]
   ·simp [swT, swH, sw, Ob.sw, V.ren, V.rens, dsD]
  ·rw [if_neg hpe, if_neg hpe]
   simp
   have hlen := o_uy pre
   refine A10 (fs hmp (fs hmp' (fs e1 (fs e2 (fs hlen hpl))))) ?_; try with_reducible exact tt
   refine ⟨pre ++ [x], y, 0, 2, by simp, ⟨hp, hle⟩, hlt, ?_, ?_⟩
   ·simp [swT, swH, sw, Ob.sw, V.ren, V.rens]
   ·simp [swT, swH, sw, Ob.sw, V.ren, V.rens, hsn]
end
section
open Go.RowKit
theorem o_v6 (f : Nat → Nat) (i : Nat) : dsD ((List.range (i + 1)).map f) = dsD ((List.range i).map f) ++ [.int .i64 (f i)] := by
 rw [List.range_succ, List.map_append]; simp [dsD]
set_option maxHeartbeats 1000000 in
theorem o_v7 (a b : List Nat) (ha : dsmall a) (hb : dsmall b) (hla : a.length ≤ 100000) (hlb : b.length ≤ 100000) : Eqn Tryz.prog o_9s [.d (.sl a.length (dsD a)), .d (.sl b.length (dsD b))] [] (.d (nD (dval a + dval b))) [] := by
 refine Eqn.pure o_9u Plain.ok ?_
 obtain ⟨F, hF⟩ : ∃ F : Nat → List D, F = fun i => dsD ((List.range i).map (addD a b)) := ⟨_, rfl⟩
 have hFl : ∀ i, (F i).length = i := by intro i; rw [hF]; simp [dsD]
 have hFs : ∀ i, F (i + 1) = F i ++ [.int .i64 (addD a b i)] := by intro i; rw [hF]; exact o_v6 _ i
 have hF0 : F 0 = [] := by rw [hF]; rfl
 have htr : ∀ i, i ≤ 200001 → Eqn Tryz.prog o_dx [.d (.sl i (F i))] [] (.d (nD (dval ((List.range i).map (addD a b))))) [] := by
  intro i hi
  have := o_v2 ((List.range i).map (addD a b)) (o_s1 (o_s2 a b) i) (by simp; omega)
  rw [hF]
  simpa using this
 have hcl := o_rx ha hb
 have hval := o_ry a b
 clear hF
 simp only [o_9t, dsD]
 refine A00 ?_; try with_reducible exact tt
 refine AW.loopG (α := Nat) (fun i => setS (List.replicate 53 .junk) [(0, .d (.sl a.length (a.map fun x : Nat => D.int .i64 x))), (1, .d (.sl b.length (b.map fun x : Nat => D.int .i64 x))), (5, if i = 0 then .d .nilsl else .own 0 1 i), (6, .d (.int .i64 (carryD a b i : Nat))), (7, .d (.int .i64 (i : Nat)))]) (fun i => if i = 0 then [] else [some ⟨3, (F i).map .d⟩]) (fun i => i ≤ max a.length b.length + 1) (fun i => max a.length b.length + 1 - i) 0 ?_ (Nat.zero_le _) ?_ ?_ ?_
 ·intro i hi; split <;> simp
 ·simp [carryD]
 ·simp
 rintro i hi
 have hc1 := hcl i
 have hqb := hcl (i + 1)
 have hsn := hFs i
 have hqd : carryD a b (i + 1) = (a.getD i 0 + b.getD i 0 + carryD a b i) / 10000 := rfl
 have hrd : addD a b i = (a.getD i 0 + b.getD i 0 + carryD a b i) % 10000 := rfl
 have g1 := ha.getD i
 have g2 := hb.getD i
 have ew : IntKind.i64.wrap ((i : Int) + 1) = (i : Int) + 1 := w64 (by omega) (by omega)
 have e3 : ((a.getD i 0 + b.getD i 0 + carryD a b i : Nat) : Int).tmod 10000 = (addD a b i : Int) := by rw [Int.tmod_eq_emod_of_nonneg (by omega), hrd]; omega
 have e4 : ((a.getD i 0 + b.getD i 0 + carryD a b i : Nat) : Int).tdiv 10000 = (carryD a b (i + 1) : Int) := by rw [Int.tdiv_eq_ediv_of_nonneg (by omega), hqd]; omega
 by_cases pa : i < a.length
 ·have ga : a[i] = a.getD i 0 := by simp [List.getD, pa]
  by_cases pb : i < b.length
  ·have gb : b[i] = b.getD i 0 := by simp [List.getD, pb]
   have e1 : IntKind.i64.wrap ((carryD a b i : Int) + (a.getD i 0 : Nat)) = (carryD a b i : Int) + (a.getD i 0 : Nat) := w64 (by omega) (by omega)
   have e2 : IntKind.i64.wrap ((carryD a b i : Int) + (a.getD i 0 : Nat) + (b.getD i 0 : Nat)) = ((a.getD i 0 + b.getD i 0 + carryD a b i : Nat) : Int) := by rw [w64 (by omega) (by omega)]; omega
   clear hqd hrd
   generalize a.getD i 0 + b.getD i 0 + carryD a b i = s at *
   generalize a.getD i 0 = ai at *
   generalize b.getD i 0 = bi at *
   have hii : (i : Int) < a.length := by omega
   have hij : (i : Int) < b.length := by omega
   have hl := hFl i
   clear hval htr
   generalize carryD a b i = c at *
   generalize hq : carryD a b (i + 1) = q at *
   have e5 : IntKind.i64.wrap (q : Int) = (q : Int) := w64 (by omega) (by omega)
   generalize addD a b i = r at *
   by_cases hi0 : i = 0
   ·rw [if_pos hi0, if_pos hi0]
    rw [hi0] at hsn
    rw [hF0] at hsn
    have hq1 : carryD a b 1 = q := by rw [← hq, hi0]
    simp
    refine A10 (fs pa (fs pb (fs hii (fs hij (fs ga (fs gb (fs e1 (fs e2 (fs e3 (fs e4 (fs e5 (fs ew hl)))))))))))) ?_; try with_reducible exact tt
    refine ⟨i + 1, 0, 1, by simp, by omega, by omega, ?_, ?_⟩
    ·simp [swT, swH, sw, Ob.sw, V.ren, V.rens, hi0, hq1]
    ·simp [swT, swH, sw, Ob.sw, V.ren, V.rens, hi0, hsn]
   ·rw [if_neg hi0, if_neg hi0]
    simp
    refine A10 (fs pa (fs pb (fs hii (fs hij (fs ga (fs gb (fs e1 (fs e2 (fs e3 (fs e4 (fs e5 (fs ew hl)))))))))))) ?_; try with_reducible exact tt
    refine ⟨i + 1, 0, 2, by simp, by omega, by omega, ?_, ?_⟩
    ·simp [swT, swH, sw, Ob.sw, V.ren, V.rens, hq]
    ·simp [swT, swH, sw, Ob.sw, V.ren, V.rens, hsn]
  ·have gb : b.getD i 0 = 0 := by simp [List.getD, List.getElem?_eq_none (show b.length ≤ i by omega)]
   have e1 : IntKind.i64.wrap ((carryD a b i : Int) + (a.getD i 0 : Nat)) = ((a.getD i 0 + b.getD i 0 + carryD a b i : Nat) : Int) := by rw [w64 (by omega) (by omega)]; omega
   clear hqd hrd
   generalize a.getD i 0 + b.getD i 0 + carryD a b i = s at *
   generalize a.getD i 0 = ai at *
   generalize b.getD i 0 = bi at *
   have hii : (i : Int) < a.length := by omega
   have hij : ¬ (i : Int) < b.length := by omega
   have hl := hFl i
   clear hval htr
   generalize carryD a b i = c at *
   generalize hq : carryD a b (i + 1) = q at *
   have e5 : IntKind.i64.wrap (q : Int) = (q : Int) := w64 (by omega) (by omega)
   generalize addD a b i = r at *
   by_cases hi0 : i = 0
   ·rw [if_pos hi0, if_pos hi0]
    rw [hi0] at hsn
    rw [hF0] at hsn
    have hq1 : carryD a b 1 = q := by rw [← hq, hi0]
    simp
    refine A10 (fs pa (fs pb (fs hii (fs hij (fs ga (fs e1 (fs e3 (fs e4 (fs e5 (fs ew hl)))))))))) ?_; try with_reducible exact tt
    refine ⟨i + 1, 0, 1, by simp, by omega, by omega, ?_, ?_⟩
    ·simp [swT, swH, sw, Ob.sw, V.ren, V.rens, hi0, hq1]
    ·simp [swT, swH, sw, Ob.sw, V.ren, V.rens, hi0, hsn]
   ·rw [if_neg hi0, if_neg hi0]
    simp
    refine A10 (fs pa (fs pb (fs hii (fs hij (fs ga (fs e1 (fs e3 (fs e4 (fs e5 (fs ew hl)))))))))) ?_; try with_reducible exact tt
    refine ⟨i + 1, 0, 2, by simp, by omega, by omega, ?_, ?_⟩
    ·simp [swT, swH, sw, Ob.sw, V.ren, V.rens, hq]
    ·simp [swT, swH, sw, Ob.sw, V.ren, V.rens, hsn]
 ·have ga : a.getD i 0 = 0 := by simp [List.getD, List.getElem?_eq_none (show a.length ≤ i by omega)]
  have hii : ¬ (i : Int) < a.length := by omega
  by_cases pb : i < b.length
  ·have gb : b[i] = b.getD i 0 := by simp [List.getD, pb]
   have e1 : IntKind.i64.wrap ((carryD a b i : Int) + (b.getD i 0 : Nat)) = ((a.getD i 0 + b.getD i 0 + carryD a b i : Nat) : Int) := by rw [w64 (by omega) (by omega)]; omega
   clear hqd hrd
   generalize a.getD i 0 + b.getD i 0 + carryD a b i = s at *
   generalize a.getD i 0 = ai at *
   generalize b.getD i 0 = bi at *
   have hij : (i : Int) < b.length := by omega
   have hl := hFl i
   clear hval htr
   generalize carryD a b i = c at *
   generalize hq : carryD a b (i + 1) = q at *
   have e5 : IntKind.i64.wrap (q : Int) = (q : Int) := w64 (by omega) (by omega)
   generalize addD a b i = r at *
   by_cases hi0 : i = 0
   ·rw [if_pos hi0, if_pos hi0]
    rw [hi0] at hsn
    rw [hF0] at hsn
    have hq1 : carryD a b 1 = q := by rw [← hq, hi0]
    simp
    refine A10 (fs pa (fs pb (fs hii (fs hij (fs gb (fs e1 (fs e3 (fs e4 (fs e5 (fs ew hl)))))))))) ?_; try with_reducible exact tt
    refine ⟨i + 1, 0, 1, by simp, by omega, by omega, ?_, ?_⟩
    ·simp [swT, swH, sw, Ob.sw, V.ren, V.rens, hi0, hq1]
    ·simp [swT, swH, sw, Ob.sw, V.ren, V.rens, hi0, hsn]
   ·rw [if_neg hi0, if_neg hi0]
    simp
    refine A10 (fs pa (fs pb (fs hii (fs hij (fs gb (fs e1 (fs e3 (fs e4 (fs e5 (fs ew hl)))))))))) ?_; try with_reducible exact tt
    refine ⟨i + 1, 0, 2, by simp, by omega, by omega, ?_, ?_⟩
    ·simp [swT, swH, sw, Ob.sw, V.ren, V.rens, hq]
    ·simp [swT, swH, sw, Ob.sw, V.ren, V.rens, hsn]
  ·have gb : b.getD i 0 = 0 := by simp [List.getD, List.getElem?_eq_none (show b.length ≤ i by omega)]
   have hij : ¬ (i : Int) < b.length := by omega
   simp only [ga, gb, Nat.zero_add] at e3 e4 hqd
   by_cases hc0 : 0 < carryD a b i
   ·have hc0' : (0 : Int) < carryD a b i := by omega
    have hlt : i < max a.length b.length + 1 := by
     rcases Nat.lt_or_ge i (max a.length b.length + 1) with h | h
     ·exact h
     ·exfalso
      obtain ⟨j, rfl⟩ : ∃ j, i = j + 1 := ⟨i - 1, by omega⟩
      have h1 := hcl j
      have h2 : carryD a b (j + 1) = (a.getD j 0 + b.getD j 0 + carryD a b j) / 10000 := rfl
      have h3 : a.getD j 0 = 0 := by simp [List.getD, List.getElem?_eq_none (show a.length ≤ j by omega)]
      have h4 : b.getD j 0 = 0 := by simp [List.getD, List.getElem?_eq_none (show b.length ≤ j by omega)]
      omega
    clear hqd hrd
    have hl := hFl i
    clear hval htr
    generalize carryD a b i = c at *
    generalize hq : carryD a b (i + 1) = q at *
    have e5 : IntKind.i64.wrap (q : Int) = (q : Int) := w64 (by omega) (by omega)
    generalize addD a b i = r at *
    by_cases hi0 : i = 0
    ·rw [if_pos hi0, if_pos hi0]
     rw [hi0] at hsn
     rw [hF0] at hsn
     have hq1 : carryD a b 1 = q := by rw [← hq, hi0]
     simp
     refine A10 (fs pa (fs pb (fs hii (fs hij (fs hc0 (fs hc0' (fs e3 (fs e4 (fs e5 (fs ew hl)))))))))) ?_; try with_reducible exact tt
     refine ⟨i + 1, 0, 1, by simp, by omega, by omega, ?_, ?_⟩
     ·simp [swT, swH, sw, Ob.sw, V.ren, V.rens, hi0, hq1]
     ·simp [swT, swH, sw, Ob.sw, V.ren, V.rens, hi0, hsn]
    ·rw [if_neg hi0, if_neg hi0]
     simp
     refine A10 (fs pa (fs pb (fs hii (fs hij (fs hc0 (fs hc0' (fs e3 (fs e4 (fs e5 (fs ew hl)))))))))) ?_; try with_reducible exact tt
     refine ⟨i + 1, 0, 2, by simp, by omega, by omega, ?_, ?_⟩
     ·simp [swT, swH, sw, Ob.sw, V.ren, V.rens, hq]
     ·simp [swT, swH, sw, Ob.sw, V.ren, V.rens, hsn]
   ·have hc0' : ¬ (0 : Int) < carryD a b i := by omega
    have hcz : carryD a b i = 0 := by omega
    have hv := hval i
    rw [hcz, Nat.mul_zero, Nat.add_zero, List.take_of_length_le (by omega), List.take_of_length_le (by omega)] at hv
    have ht := htr i (by omega)
    rw [hv] at ht
    clear e3 e4 hqd hrd hval htr
    generalize carryD a b i = c at *
    by_cases hi0 : i = 0
    ·rw [if_pos hi0, if_pos hi0]
     subst hi0
     rw [hF0] at ht
     replace ht : Eqn Tryz.prog o_dx [.d .nilsl] [] (.d (nD (dval a + dval b))) [] := ht.sub (Subs.cons Sub1.nil (Subs.refl _))
     simp
     refine A11 (fs pa (fs pb (fs hii (fs hij (fs hc0 hc0'))))) ht ?_; try with_reducible exact tt
    ·rw [if_neg hi0, if_neg hi0]
     have htk : (F i).take i = F i := List.take_of_length_le (by rw [hFl]; exact Nat.le_refl _)
     simp
     refine AW.freeze 0 1 ⟨3, (F i).map .d⟩ (F i) (by simp) rfl ?_
     simp [frzH, htk]
     refine A11 (fs pa (fs pb (fs hii (fs hij (fs hc0 hc0'))))) ht ?_; try with_reducible exact tt
theorem o_v8 (x y : Nat) (hx : sizeD x ≤ 100000) (hy : sizeD y ≤ 100000) : Eqn Tryz.prog o_9s [.d (nD x), .d (nD y)] [] (.d (nD (x + y))) [] := by
 have := o_v7 (decs x) (decs y) (o_s9 x) (o_s9 y) hx hy
 rwa [o_s8, o_s8] at this
end
section
open Go.RowKit
theorem o_v9 (x y : Nat) (hx : sizeD x ≤ 1000000) (hy : sizeD y ≤ 1000000) : Eqn Tryz.prog o_do [.d (nD x), .d (nD y)] [] (.d (.int .i64 (cmpZ x y))) [] := by
 refine Eqn.pure o_dq Plain.ok ?_
 unfold sizeD at hx hy
 have ha := o_s9 x
 have hb := o_s9 y
 have ta := o_sa x
 have tb := o_sa y
 have va := o_s8 x
 have vb := o_s8 y
 simp only [o_dp, nD, sizeD, dsD]
 generalize decs x = a at *
 generalize decs y = b at *
 by_cases hl : a.length = b.length
 ·have hlp : (a.length : Int) = b.length := by omega
  have hc := o_s6 ha hb a.length
  rw [List.take_length, hl, List.take_length, va, vb] at hc
  replace hc : cmpN a b b.length = cmpZ x y := hc
  rw [← hc]
  have ew0 : IntKind.i64.wrap ((b.length : Int) - 1) = (b.length : Int) - 1 := w64 (by omega) (by omega)
  refine A10 (fs hl (fs hlp ew0)) ?_; try with_reducible exact tt
  refine AW.loopT (α := Nat) 0 (fun j => [(5, .d (.int .i64 ((j : Int) - 1)))]) (fun j => []) (fun j => j ≤ b.length ∧ cmpN a b j = cmpN a b b.length) (fun j => j) b.length ?_ ?_ ⟨Nat.le_refl _, rfl⟩ ?_ ?_ ?_
  ·simp
  ·simp
  ·simp
  ·simp
  rintro j ⟨hj, hje⟩
  rcases j with _ | m
  ·simp
   have h0 : cmpN a b b.length = 0 := by rw [← hje]; rfl
   rw [h0]
   refine A00 ?_; try with_reducible exact tt
  ·rw [cmpN] at hje
   have hm : m < a.length := by omega
   have hm2 : m < b.length := by omega
   have g1 : a.getD m 0 = a[m] := by simp [List.getD, hm]
   have g2 : b.getD m 0 = b[m] := by simp [List.getD, hm2]
   have ew : IntKind.i64.wrap ((m : Int) - 1) = (m : Int) - 1 := w64 (by omega) (by omega)
   have hmi : (m : Int) < b.length := by omega
   rw [g1, g2] at hje
   by_cases h1 : a[m] < b[m]
   ·rw [if_pos h1] at hje
    rw [← hje]
    have h1' : ((a[m] : Nat) : Int) < (b[m] : Nat) := by omega
    simp
    refine A10 (fs hm (fs hm2 (fs hmi (fs hl (fs hlp (fs h1 h1')))))) ?_; try with_reducible exact tt
   ·rw [if_neg h1] at hje
    have h1' : ¬ ((a[m] : Nat) : Int) < (b[m] : Nat) := by omega
    by_cases h2 : b[m] < a[m]
    ·rw [if_pos h2] at hje
     rw [← hje]
     have h2' : ((b[m] : Nat) : Int) < (a[m] : Nat) := by omega
     simp
     refine A10 (fs hm (fs hm2 (fs hmi (fs hl (fs hlp (fs h1 (fs h1' (fs h2 h2')))))))) ?_; try with_reducible exact tt
    ·rw [if_neg h2] at hje
     have h2' : ¬ ((b[m] : Nat) : Int) < (a[m] : Nat) := by omega
     simp
     refine A10 (fs hm (fs hm2 (fs hmi (fs hl (fs hlp (fs h1 (fs h1' (fs h2 (fs h2' ew))))))))) ?_; try with_reducible exact tt
     exact ⟨m, ⟨by omega, hje⟩, by omega, Sub1.refl _⟩
 ·have hlp : ¬ (a.length : Int) = b.length := by omega
  by_cases h1 : a.length < b.length
  ·have h1' : (a.length : Int) < b.length := by omega
   have h3 := o_s4 ha tb h1
   rw [va, vb] at h3
   rw [show cmpZ x y = -1 by unfold cmpZ; rw [if_pos h3]]
   refine A10 (fs hl (fs hlp (fs h1 h1'))) ?_; try with_reducible exact tt
  ·have h1' : ¬ (a.length : Int) < b.length := by omega
   have h3 := o_s4 hb ta (show b.length < a.length by omega)
   rw [va, vb] at h3
   rw [show cmpZ x y = 1 by unfold cmpZ; rw [if_neg (by omega), if_pos h3]]
   refine A10 (fs hl (fs hlp (fs h1 h1'))) ?_; try with_reducible exact tt

set_option maxHeartbeats 1000000 in
theorem o_va (x y : Nat) (hxy : y ≤ x) (hx : sizeD x ≤ 100000) (hy : sizeD y ≤ 100000) : Eqn Tryz.prog o_g4 [.d (nD x), .d (nD y)] [] (.d (nD (x - y))) [] := by
 refine Eqn.pure o_g6 Plain.ok ?_
 unfold sizeD at hx hy
 have ha := o_s9 x
 have hb := o_s9 y
 have tb := o_sa y
 have ta := o_sa x
 have va := o_s8 x
 have vb := o_s8 y
 have hll : (decs y).length ≤ (decs x).length := by
  rcases Nat.lt_or_ge (decs x).length (decs y).length with h | h
  ·have := o_s4 ha tb h
   omega
  ·exact h
 simp only [o_g5, nD, sizeD, dsD]
 generalize decs x = a at *
 generalize decs y = b at *
 have hval := o_s0 ha hb a.length
 have hbl := o_rz a b
 rw [List.take_length, List.take_of_length_le hll, va, vb] at hval
 have hsz := o_s5 (l := (List.range a.length).map (subD a b)) (o_s1 (o_s3 a b) a.length) a.length
 rw [List.take_of_length_le (by simp)] at hsz
 have hxa : dval a < 10000 ^ a.length := by have := o_s5 ha a.length; rwa [List.take_length] at this
 have hfin : dval ((List.range a.length).map (subD a b)) = x - y := by
  have h1 := hbl a.length
  rcases Nat.lt_or_ge (borrowD a b a.length) 1 with h | h
  ·have : borrowD a b a.length = 0 := by omega
   rw [this] at hval
   omega
  ·have : borrowD a b a.length = 1 := by omega
   rw [this] at hval
   omega
 obtain ⟨F, hF⟩ : ∃ F : Nat → List D, F = fun i => dsD ((List.range i).map (subD a b)) := ⟨_, rfl⟩
 have hFl : ∀ i, (F i).length = i := by intro i; rw [hF]; simp [dsD]
 have hFs : ∀ i, F (i + 1) = F i ++ [.int .i64 (subD a b i)] := by intro i; rw [hF]; exact o_v6 _ i
 have hF0 : F 0 = [] := by rw [hF]; rfl
 have htr : Eqn Tryz.prog o_dx [.d (.sl a.length (F a.length))] [] (.d (nD (x - y))) [] := by
  have := o_v2 ((List.range a.length).map (subD a b)) (o_s1 (o_s3 a b) _) (by simp; omega)
  rw [hF, ← hfin]
  simpa using this
 clear hF hfin hxa hsz
 simp only [nD, sizeD, dsD] at htr
 generalize D.sl (decs (x - y)).length (List.map (fun x : Nat => D.int .i64 x) (decs (x - y))) = N at *
 refine A00 ?_; try with_reducible exact tt
 refine AW.loopG (α := Nat) (fun i => setS (List.replicate 41 .junk) [(0, .d (.sl a.length (a.map fun x : Nat => D.int .i64 x))), (1, .d (.sl b.length (b.map fun x : Nat => D.int .i64 x))), (5, if i = 0 then .d .nilsl else .own 0 1 i), (6, .d (.int .i64 (borrowD a b i : Nat))), (7, .d (.int .i64 (i : Nat)))]) (fun i => if i = 0 then [] else [some ⟨3, (F i).map .d⟩]) (fun i => i ≤ a.length) (fun i => a.length - i) 0 ?_ (Nat.zero_le _) ?_ ?_ ?_
 ·intro i hi; split <;> simp
 ·simp [borrowD]
 ·simp
 rintro i hi
 by_cases pa : i < a.length
 ·have hii : (i : Int) < a.length := by omega
  have hc1 := hbl i
  have hqb := hbl (i + 1)
  have hsn := hFs i
  have ga : a[i] = a.getD i 0 := by simp [List.getD, pa]
  have g1 := ha.getD i
  have g2 := hb.getD i
  have hqd : borrowD a b (i + 1) = if a.getD i 0 < b.getD i 0 + borrowD a b i then 1 else 0 := rfl
  have hrd : subD a b i = (a.getD i 0 + 10000 - b.getD i 0 - borrowD a b i) % 10000 := rfl
  have ew : IntKind.i64.wrap ((i : Int) + 1) = (i : Int) + 1 := w64 (by omega) (by omega)
  have e1 : IntKind.i64.wrap ((a.getD i 0 : Nat) - (borrowD a b i : Int)) = (a.getD i 0 : Nat) - (borrowD a b i : Int) := w64 (by omega) (by omega)
  by_cases pb : i < b.length
  ·have hij : (i : Int) < b.length := by omega
   have gb : b[i] = b.getD i 0 := by simp [List.getD, pb]
   by_cases hz : a.getD i 0 < b.getD i 0 + borrowD a b i
   ·have q0 : borrowD a b (i + 1) = 1 := by rw [hqd]; rw [if_pos hz]
    have e2 : IntKind.i64.wrap ((a.getD i 0 : Nat) - (borrowD a b i : Int) - (b.getD i 0 : Nat)) = (subD a b i : Int) - 10000 := by rw [w64 (by omega) (by omega), hrd]; omega
    have e3 : IntKind.i64.wrap ((subD a b i : Int) - 10000 + 10000) = (subD a b i : Int) := by rw [w64 (by omega) (by omega)]; omega
    have e3' : IntKind.i64.wrap (subD a b i : Int) = (subD a b i : Int) := w64 (by omega) (by omega)
    have e4 : (subD a b i : Int) - 10000 < 0 := by omega
    have e5 : (subD a b i : Int) < 10000 := by omega
    clear hqd hrd
    generalize a.getD i 0 = ai at *
    generalize b.getD i 0 = bi at *
    have hl := hFl i
    clear hval htr
    generalize hq : borrowD a b (i + 1) = q at *
    generalize borrowD a b i = c at *
    generalize subD a b i = r at *
    by_cases hi0 : i = 0
    ·rw [if_pos hi0, if_pos hi0]
     rw [hi0] at hsn
     rw [hF0] at hsn
     have hq1 : borrowD a b 1 = q := by rw [← hq, hi0]
     simp
     refine A10 (fs pa (fs pb (fs hii (fs hij (fs ga (fs gb (fs e1 (fs e2 (fs e3 (fs e3' (fs e4 (fs e5 (fs ew hl))))))))))))) ?_; try with_reducible exact tt
     refine ⟨i + 1, 0, 1, by simp, by omega, by omega, ?_, ?_⟩
     ·simp [swT, swH, sw, Ob.sw, V.ren, V.rens, hi0, hq1, q0]
     ·simp [swT, swH, sw, Ob.sw, V.ren, V.rens, hi0, hsn]
    ·rw [if_neg hi0, if_neg hi0]
     simp
     refine A10 (fs pa (fs pb (fs hii (fs hij (fs ga (fs gb (fs e1 (fs e2 (fs e3 (fs e3' (fs e4 (fs e5 (fs ew hl))))))))))))) ?_; try with_reducible exact tt
     refine ⟨i + 1, 0, 2, by simp, by omega, by omega, ?_, ?_⟩
     ·simp [swT, swH, sw, Ob.sw, V.ren, V.rens, hq, q0]
     ·simp [swT, swH, sw, Ob.sw, V.ren, V.rens, hsn]
   ·have q0 : borrowD a b (i + 1) = 0 := by rw [hqd]; rw [if_neg hz]
    have e2 : IntKind.i64.wrap ((a.getD i 0 : Nat) - (borrowD a b i : Int) - (b.getD i 0 : Nat)) = (subD a b i : Int) := by rw [w64 (by omega) (by omega), hrd]; omega
    have e4 : ¬ (subD a b i : Int) < 0 := by omega
    clear hqd hrd
    generalize a.getD i 0 = ai at *
    generalize b.getD i 0 = bi at *
    have hl := hFl i
    clear hval htr
    generalize hq : borrowD a b (i + 1) = q at *
    generalize borrowD a b i = c at *
    generalize subD a b i = r at *
    by_cases hi0 : i = 0
    ·rw [if_pos hi0, if_pos hi0]
     rw [hi0] at hsn
     rw [hF0] at hsn
     have hq1 : borrowD a b 1 = q := by rw [← hq, hi0]
     simp
     refine A10 (fs pa (fs pb (fs hii (fs hij (fs ga (fs gb (fs e1 (fs e2 (fs e4 (fs ew hl)))))))))) ?_; try with_reducible exact tt
     refine ⟨i + 1, 0, 1, by simp, by omega, by omega, ?_, ?_⟩
     ·simp [swT, swH, sw, Ob.sw, V.ren, V.rens, hi0, hq1, q0]
     ·simp [swT, swH, sw, Ob.sw, V.ren, V.rens, hi0, hsn]
    ·rw [if_neg hi0, if_neg hi0]
     simp
     refine A10 (fs pa (fs pb (fs hii (fs hij (fs ga (fs gb (fs e1 (fs e2 (fs e4 (fs ew hl)))))))))) ?_; try with_reducible exact tt
     refine ⟨i + 1, 0, 2, by simp, by omega, by omega, ?_, ?_⟩
     ·simp [swT, swH, sw, Ob.sw, V.ren, V.rens, hq, q0]
     ·simp [swT, swH, sw, Ob.sw, V.ren, V.rens, hsn]
  ·have hij : ¬ (i : Int) < b.length := by omega
   have gb : b.getD i 0 = 0 := by simp [List.getD, List.getElem?_eq_none (show b.length ≤ i by omega)]
   by_cases hz : a.getD i 0 < b.getD i 0 + borrowD a b i
   ·have q0 : borrowD a b (i + 1) = 1 := by rw [hqd]; rw [if_pos hz]
    have e2 : IntKind.i64.wrap ((a.getD i 0 : Nat) - (borrowD a b i : Int)) = (subD a b i : Int) - 10000 := by rw [w64 (by omega) (by omega), hrd]; omega
    have e3 : IntKind.i64.wrap ((subD a b i : Int) - 10000 + 10000) = (subD a b i : Int) := by rw [w64 (by omega) (by omega)]; omega
    have e3' : IntKind.i64.wrap (subD a b i : Int) = (subD a b i : Int) := w64 (by omega) (by omega)
    have e4 : (subD a b i : Int) - 10000 < 0 := by omega
    have e5 : (subD a b i : Int) < 10000 := by omega
    clear hqd hrd e1
    generalize a.getD i 0 = ai at *
    generalize b.getD i 0 = bi at *
    have hl := hFl i
    clear hval htr
    generalize hq : borrowD a b (i + 1) = q at *
    generalize borrowD a b i = c at *
    generalize subD a b i = r at *
    by_cases hi0 : i = 0
    ·rw [if_pos hi0, if_pos hi0]
     rw [hi0] at hsn
     rw [hF0] at hsn
     have hq1 : borrowD a b 1 = q := by rw [← hq, hi0]
     simp
     refine A10 (fs pa (fs pb (fs hii (fs hij (fs ga (fs e2 (fs e3 (fs e3' (fs e4 (fs e5 (fs ew hl))))))))))) ?_; try with_reducible exact tt
     refine ⟨i + 1, 0, 1, by simp, by omega, by omega, ?_, ?_⟩
     ·simp [swT, swH, sw, Ob.sw, V.ren, V.rens, hi0, hq1, q0]
     ·simp [swT, swH, sw, Ob.sw, V.ren, V.rens, hi0, hsn]
    ·rw [if_neg hi0, if_neg hi0]
     simp
     refine A10 (fs pa (fs pb (fs hii (fs hij (fs ga (fs e2 (fs e3 (fs e3' (fs e4 (fs e5 (fs ew hl))))))))))) ?_; try with_reducible exact tt
     refine ⟨i + 1, 0, 2, by simp, by omega, by omega, ?_, ?_⟩
     ·simp [swT, swH, sw, Ob.sw, V.ren, V.rens, hq, q0]
     ·simp [swT, swH, sw, Ob.sw, V.ren, V.rens, hsn]
   ·have q0 : borrowD a b (i + 1) = 0 := by rw [hqd]; rw [if_neg hz]
    have e2 : IntKind.i64.wrap ((a.getD i 0 : Nat) - (borrowD a b i : Int)) = (subD a b i : Int) := by rw [w64 (by omega) (by omega), hrd]; omega
    have e4 : ¬ (subD a b i : Int) < 0 := by omega
    clear hqd hrd e1
    generalize a.getD i 0 = ai at *
    generalize b.getD i 0 = bi at *
    have hl := hFl i
    clear hval htr
    generalize hq : borrowD a b (i + 1) = q at *
    generalize borrowD a b i = c at *
    generalize subD a b i = r at *
    by_cases hi0 : i = 0
    ·rw [if_pos hi0, if_pos hi0]
     rw [hi0] at hsn
     rw [hF0] at hsn
     have hq1 : borrowD a b 1 = q := by rw [← hq, hi0]
     simp
     refine A10 (fs pa (fs pb (fs hii (fs hij (fs ga (fs e2 (fs e4 (fs ew hl)))))))) ?_; try with_reducible exact tt
     refine ⟨i + 1, 0, 1, by simp, by omega, by omega, ?_, ?_⟩
     ·simp [swT, swH, sw, Ob.sw, V.ren, V.rens, hi0, hq1, q0]
     ·simp [swT, swH, sw, Ob.sw, V.ren, V.rens, hi0, hsn]
    ·rw [if_neg hi0, if_neg hi0]
     simp
     refine A10 (fs pa (fs pb (fs hii (fs hij (fs ga (fs e2 (fs e4 (fs ew hl)))))))) ?_; try with_reducible exact tt
     refine ⟨i + 1, 0, 2, by simp, by omega, by omega, ?_, ?_⟩
     ·simp [swT, swH, sw, Ob.sw, V.ren, V.rens, hq, q0]
     ·simp [swT, swH, sw, Ob.sw, V.ren, V.rens, hsn]
 ·have hi2 : i = a.length := by omega
  have hii : ¬ (i : Int) < a.length := by omega
  rw [← hi2] at htr
  clear hval
  generalize borrowD a b i = c at *
  by_cases hi0 : i = 0
  ·rw [if_pos hi0, if_pos hi0]
   rw [hi0, hF0] at htr
   replace htr : Eqn Tryz.prog o_dx [.d .nilsl] [] (.d N) [] := htr.sub (Subs.cons Sub1.nil (Subs.refl _))
   simp
   refine A11 (fs pa hii) htr ?_; try with_reducible exact tt
  ·rw [if_neg hi0, if_neg hi0]
   have htk : (F i).take i = F i := List.take_of_length_le (by rw [hFl]; exact Nat.le_refl _)
   simp
   refine AW.freeze 0 1 ⟨3, (F i).map .d⟩ (F i) (by simp) rfl ?_
   simp [frzH, htk]
   refine A11 (fs pa hii) htr ?_; try with_reducible exact tt
end
section
open Go.RowKit
theorem o_vb : ∀ (ws : List Nat) (j v : Nat), j < ws.length → dval (ws.set j v) + 10000 ^ j * ws.getD j 0 = dval ws + 10000 ^ j * v
 | [], j, v, h => by simp at h
 | x :: ws, 0, v, h => by simp [dval]; omega
 | x :: ws, j + 1, v, h => by
  have ih := o_vb ws j v (by simpa using h)
  simp only [List.set_cons_succ, dval, List.getD_cons_succ]
  rw [Nat.pow_succ]
  generalize 10000 ^ j = P at *
  generalize ws.getD j 0 = g at *
  have e1 : P * 10000 * g = 10000 * (P * g) := by rw [Nat.mul_comm P, Nat.mul_assoc]
  have e2 : P * 10000 * v = 10000 * (P * v) := by rw [Nat.mul_comm P, Nat.mul_assoc]
  rw [e1, e2]
  omega
theorem o_vc {l : List Nat} {i j v : Nat} (h : i ≠ j) : (l.set i v).getD j 0 = l.getD j 0 := by
 rw [List.getD_eq_getElem?_getD, List.getElem?_set_ne h, ← List.getD_eq_getElem?_getD]
theorem dsmall.set {l : List Nat} (h : dsmall l) (j v : Nat) (hv : v < 10000) : dsmall (l.set j v) := fun x hx => by
 rcases List.mem_or_eq_of_mem_set hx with h1 | h1
 ·exact h x h1
 ·rw [h1]; exact hv
theorem o_vd {V A c o x D1 D2 Bk bk P K : Nat} (hv : D1 + P * K * c = V + P * (A * Bk)) (hs : D2 + P * K * o = D1 + P * K * (x % 10000)) (hx : x = o + c + A * bk) : D2 + P * (K * 10000) * (x / 10000) = V + P * (A * (Bk + K * bk)) := by
 have h1 : 10000 * (x / 10000) + x % 10000 = o + c + A * bk := by rw [Nat.div_add_mod]; exact hx
 have h2 : P * K * (10000 * (x / 10000) + x % 10000) = P * K * (o + c + A * bk) := by rw [h1]
 have h3 : P * (K * 10000) * (x / 10000) = P * K * (10000 * (x / 10000)) := by
  rw [← Nat.mul_assoc P K 10000, Nat.mul_assoc (P * K)]
 have h4 : P * (A * (Bk + K * bk)) = P * (A * Bk) + P * K * (A * bk) := by
  rw [Nat.mul_add, Nat.mul_add, show A * (K * bk) = K * (A * bk) by rw [← Nat.mul_assoc, Nat.mul_comm A K, Nat.mul_assoc], ← Nat.mul_assoc P K]
 rw [Nat.mul_add] at h2
 rw [Nat.mul_add, Nat.mul_add] at h2
 rw [h3, h4]
 generalize P * K * (10000 * (x / 10000)) = t1 at *
 generalize P * K * (x % 10000) = t2 at *
 generalize P * K * o = t3 at *
 generalize P * K * c = t4 at *
 generalize P * K * (A * bk) = t5 at *
 generalize P * (A * Bk) = t6 at *
 omega

@[simp] theorem lowI (n : Nat) : ∀ l : List Nat, V.lowl n (l.map fun x : Nat => V.d (D.int .i64 x)) = true
 | [] => rfl
 | x :: l => by
  have := lowI n l
  simp only [List.map_cons, V.lowl, this]; rfl
@[simp] theorem lowR (n m : Nat) (x : D) : V.lowl n (List.replicate m (V.d x)) = true := by
 induction m with
 | zero => rfl
 | succ m ih => simp only [List.replicate_succ, V.lowl, ih]; rfl
set_option maxHeartbeats 2000000 in
theorem o_ve (a b : List Nat) (ha : dsmall a) (hb : dsmall b) (hla : a.length ≤ 100000) (hlb : b.length ≤ 100000) : Eqn Tryz.prog o_9v [.d (.sl a.length (dsD a)), .d (.sl b.length (dsD b))] [] (.d (nD (dval a * dval b))) [] := by
 refine Eqn.pure o_9x Plain.ok ?_
 obtain ⟨n, hn⟩ : ∃ n, n = a.length + b.length + 1 := ⟨_, rfl⟩
 have ew1 : IntKind.i64.wrap ((a.length : Int) + b.length) = (a.length : Int) + b.length := w64 (by omega) (by omega)
 have ew2 : IntKind.i64.wrap ((a.length : Int) + b.length + 1) = (n : Int) := by rw [w64 (by omega) (by omega)]; omega
 have hnb : (n : Int) * 8 ≤ 140737488355328 := by omega
 have hnb2 : n ≤ 17592186044416 := by omega
 simp only [o_9w, dsD]
 refine A10 (fs ew1 (fs ew2 (fs hnb hnb2))) ?_; try with_reducible exact tt
 have hrep : List.replicate n (V.d (D.int .i64 0)) = (List.replicate n 0).map fun x : Nat => V.d (D.int .i64 x) := by simp
 rw [hrep]
 refine AW.loopT (α := Nat × List Nat) 1 (fun s => [(6, .d (.int .i64 (s.1 : Nat)))]) (fun s => [(0, ⟨3, s.2.map fun x : Nat => V.d (D.int .i64 x)⟩)]) (fun s => s.1 ≤ a.length ∧ s.2.length = n ∧ dsmall s.2 ∧ dval s.2 = dval (a.take s.1) * dval b ∧ ∀ j, s.1 + b.length ≤ j → s.2.getD j 0 = 0) (fun s => a.length - s.1) (0, List.replicate n 0) ?_ ?_ ⟨Nat.zero_le _, by simp, by intro x hx; simp [List.mem_replicate] at hx; omega, by rw [o_rp]; simp [dval], by intro j _; simp only [List.getD, List.getElem?_replicate]; split <;> rfl⟩ ?_ ?_ ?_
 ·simp
 ·simp
 ·simp
 ·simp
 rintro ⟨i, out⟩ ⟨hi, hol, hos, hov, hoz⟩
 simp only at hi hol hos hov hoz
 simp
 by_cases pa : i < a.length
 ·have hii : (i : Int) < a.length := by omega
  have ewi : IntKind.i64.wrap ((i : Int) + 1) = ((i + 1 : Nat) : Int) := by rw [w64 (by omega) (by omega)]; omega
  have g1 := ha.getD i
  have ga : a[i] = a.getD i 0 := by simp [List.getD, pa]
  have hta := o_rw a i
  have hal : ∀ j, i + max 0 b.length ≤ j → out.getD j 0 = 0 := fun j hj => hoz j (by omega)
  refine A10 (fs pa hii) ?_; try with_reducible exact tt
  refine AW.loopT (α := Nat × Nat × List Nat) 1 (fun s => [(8, .d (.int .i64 (s.1 : Nat))), (7, .d (.int .i64 (s.2.1 : Nat)))]) (fun s => [(0, ⟨3, s.2.2.map fun x : Nat => V.d (D.int .i64 x)⟩)]) (fun s => s.1 ≤ b.length + 1 ∧ s.2.1 ≤ 9999 ∧ (s.1 = b.length + 1 → s.2.1 = 0) ∧ s.2.2.length = n ∧ dsmall s.2.2 ∧ dval s.2.2 + 10000 ^ i * 10000 ^ s.1 * s.2.1 = dval out + 10000 ^ i * (a.getD i 0 * dval (b.take s.1)) ∧ ∀ j, i + max s.1 b.length ≤ j → s.2.2.getD j 0 = 0) (fun s => b.length + 1 - s.1) (0, 0, out) ?_ ?_ ⟨Nat.zero_le _, by simp, by simp, hol, hos, by simp [dval], hal⟩ ?_ ?_ ?_
  ·simp
  ·simp
  ·simp
  ·simp
  rintro ⟨k, c, o⟩ ⟨hk, hc, hck, hl, hs, hv, hz⟩
  simp only at hk hc hck hl hs hv hz
  simp
  have ewk : IntKind.i64.wrap ((k : Int) + 1) = ((k + 1 : Nat) : Int) := by rw [w64 (by omega) (by omega)]; omega
  have e99 : ∀ x : Nat, ((x : Int).tmod 10000 = ((x % 10000 : Nat) : Int)) ∧ ((x : Int).tdiv 10000 = ((x / 10000 : Nat) : Int)) := fun x => ⟨by rw [Int.tmod_eq_emod_of_nonneg (by omega)]; omega, by rw [Int.tdiv_eq_ediv_of_nonneg (by omega)]; omega⟩
  by_cases pb : k < b.length
  ·have hij : (k : Int) < b.length := by omega
   have g2 := hb.getD k
   have gb : b[k] = b.getD k 0 := by simp [List.getD, pb]
   have htb := o_rw b k
   obtain ⟨m, hm⟩ : ∃ m, m = i + k := ⟨_, rfl⟩
   have hmo : m < o.length := by omega
   have hmn : m < n := by omega
   have go := hs.getD m
   have gm : o[m] = o.getD m 0 := by simp [List.getD, hmo]
   have em : IntKind.i64.wrap ((i : Int) + k) = (m : Int) := by rw [w64 (by omega) (by omega)]; omega
   have hpm := Nat.mul_le_mul (show a.getD i 0 ≤ 9999 by omega) (show b.getD k 0 ≤ 9999 by omega)
   obtain ⟨p, hp⟩ : ∃ p, p = a.getD i 0 * b.getD k 0 := ⟨_, rfl⟩
   rw [← hp] at hpm
   have ep : IntKind.i64.wrap (((a.getD i 0 : Nat) : Int) * (b.getD k 0 : Nat)) = (p : Int) := by rw [hp, ← Int.natCast_mul]; exact w64 (by omega) (by rw [← hp]; omega)
   obtain ⟨x, hx⟩ : ∃ x, x = o.getD m 0 + c + p := ⟨_, rfl⟩
   have e1 : IntKind.i64.wrap ((o.getD m 0 : Nat) + (c : Int)) = (o.getD m 0 : Nat) + (c : Int) := w64 (by omega) (by omega)
   have e2 : IntKind.i64.wrap ((o.getD m 0 : Nat) + (c : Int) + p) = (x : Int) := by rw [w64 (by omega) (by omega)]; omega
   obtain ⟨e3, e4⟩ := e99 x
   have hds := o_vb o m (x % 10000) hmo
   rw [show 10000 ^ m = 10000 ^ i * 10000 ^ k by rw [hm, Nat.pow_add]] at hds
   have hst := o_vd (A := a.getD i 0) (bk := b.getD k 0) hv hds (by rw [hx, hp])
   have hset : (o.map fun x : Nat => V.d (D.int .i64 x)).set m (.d (.int .i64 (x % 10000 : Nat))) = (o.set m (x % 10000)).map fun x : Nat => V.d (D.int .i64 x) := by rw [List.map_set]
   have hs2 := hs.set m (x % 10000) (Nat.mod_lt _ (by decide))
   have hl2 : (o.set m (x % 10000)).length = n := by simpa using hl
   have hz2 : ∀ j, i + max (k + 1) b.length ≤ j → (o.set m (x % 10000)).getD j 0 = 0 := fun j hj => by rw [o_vc (by omega)]; exact hz j (by omega)
   have hxq : x / 10000 ≤ 9999 := by omega
   have e5 : IntKind.i64.wrap ((x / 10000 : Nat) : Int) = ((x / 10000 : Nat) : Int) := w64 (by omega) (by omega)
   rw [← htb] at hst
   clear hv hz hs hal hov hoz hta e99
   generalize o.set m (x % 10000) = o2 at *
   generalize x % 10000 = r at *
   generalize x / 10000 = q at *
   generalize a.getD i 0 = ai at *
   generalize b.getD k 0 = bk at *
   generalize o.getD m 0 = om at *
   refine A10 (fs pa (fs hii (fs pb (fs hij (fs ga (fs gb (fs hmo (fs hmn (fs hl (fs gm (fs em (fs ep (fs e1 (fs e2 (fs e3 (fs e4 (fs e5 (fs ewk hset)))))))))))))))))) ?_; try with_reducible exact tt
   exact ⟨k + 1, q, o2, ⟨by omega, hxq, by omega, hl2, hs2, hst, hz2⟩, by omega, ⟨Sub1.refl _, Sub1.int (by omega)⟩, Subs.refl _⟩
  ·have hij : ¬ (k : Int) < b.length := by omega
   by_cases hc0 : 0 < c
   ·have hc0' : (0 : Int) < c := by omega
    have hkb : k = b.length := by
     rcases Nat.lt_or_ge b.length k with h | h
     ·have := hck (by omega); omega
     ·omega
    obtain ⟨m, hm⟩ : ∃ m, m = i + k := ⟨_, rfl⟩
    have hmo : m < o.length := by omega
    have hmn : m < n := by omega
    have gz : o.getD m 0 = 0 := hz m (by omega)
    have gm : o[m] = 0 := by rw [← gz]; simp [List.getD, hmo]
    have em : IntKind.i64.wrap ((i : Int) + k) = (m : Int) := by rw [w64 (by omega) (by omega)]; omega
    have e2 : IntKind.i64.wrap (c : Int) = (c : Int) := w64 (by omega) (by omega)
    have e3 : (c : Int).tmod 10000 = (c : Int) := by rw [Int.tmod_eq_emod_of_nonneg (by omega)]; omega
    have e4 : (c : Int).tdiv 10000 = 0 := by rw [Int.tdiv_eq_ediv_of_nonneg (by omega)]; omega
    have hds := o_vb o m c hmo
    rw [gz, Nat.mul_zero, Nat.add_zero, show 10000 ^ m = 10000 ^ i * 10000 ^ k by rw [hm, Nat.pow_add]] at hds
    have hst : dval (o.set m c) + 10000 ^ i * 10000 ^ (k + 1) * 0 = dval out + 10000 ^ i * (a.getD i 0 * dval (b.take (k + 1))) := by
     rw [Nat.mul_zero, Nat.add_zero, hds, hv, List.take_of_length_le (by omega), List.take_of_length_le (by omega)]
    have hset : (o.map fun x : Nat => V.d (D.int .i64 x)).set m (.d (.int .i64 (c : Nat))) = (o.set m c).map fun x : Nat => V.d (D.int .i64 x) := by rw [List.map_set]
    have hs2 := hs.set m c (by omega)
    have hl2 : (o.set m c).length = n := by simpa using hl
    have hz2 : ∀ j, i + max (k + 1) b.length ≤ j → (o.set m c).getD j 0 = 0 := fun j hj => by rw [o_vc (by omega)]; exact hz j (by omega)
    clear hv hz hs hal hov hoz hta e99 hds
    generalize o.set m c = o2 at *
    generalize a.getD i 0 = ai at *
    refine A10 (fs pa (fs hii (fs pb (fs hij (fs hc0 (fs hc0' (fs hmo (fs hmn (fs hl (fs gm (fs em (fs e2 (fs e3 (fs e4 (fs ewk hset))))))))))))))) ?_; try with_reducible exact tt
    exact ⟨k + 1, 0, o2, ⟨by omega, by omega, fun _ => rfl, hl2, hs2, by rw [ga]; exact hst, hz2⟩, by omega, ⟨Sub1.int (by omega), Sub1.int (by omega)⟩, Subs.refl _⟩
   ·have hc0' : ¬ (0 : Int) < c := by omega
    have hcz : c = 0 := by omega
    rw [hcz, Nat.mul_zero, Nat.add_zero, List.take_of_length_le (by omega)] at hv
    have hnv : dval o = dval (a.take (i + 1)) * dval b := by
     rw [hv, hta, hov, Nat.add_mul, Nat.mul_assoc]
    have hnz : ∀ j, i + 1 + b.length ≤ j → o.getD j 0 = 0 := fun j hj => hz j (by omega)
    clear hv hz hal hov hoz hta e99
    refine A10 (fs pa (fs hii (fs pb (fs hij (fs hc0 (fs hc0' ewi)))))) ?_; try with_reducible exact tt
    exact ⟨i + 1, o, ⟨by omega, hl, hs, hnv, hnz⟩, by omega, Sub1.int (by omega), Subs.refl _⟩
 ·have hii : ¬ (i : Int) < a.length := by omega
  have hi2 : i = a.length := by omega
  rw [hi2, List.take_length] at hov
  have ht := o_v2 out hos (by omega)
  rw [hov, hol] at ht
  have htk : (dsD out).take n = dsD out := List.take_of_length_le (by rw [o_uy]; omega)
  have hob : (out.map fun x : Nat => V.d (D.int .i64 x)) = (dsD out).map V.d := by simp [dsD]
  rw [hob]
  refine AW.freeze 0 1 ⟨3, (dsD out).map .d⟩ (dsD out) (by simp) rfl ?_
  simp [frzH, htk]
  refine A11 (fs pa hii) ht ?_; try with_reducible exact tt
theorem o_vf (x y : Nat) (hx : sizeD x ≤ 100000) (hy : sizeD y ≤ 100000) : Eqn Tryz.prog o_9v [.d (nD x), .d (nD y)] [] (.d (nD (x * y))) [] := by
 have := o_ve (decs x) (decs y) (o_s9 x) (o_s9 y) hx hy
 rwa [o_s8, o_s8] at this
end
section
open Go.RowKit
theorem o_vg {n m : Nat} (h : n < 10000 ^ m) : sizeD n ≤ m := o_ru (o_sa n) (by rw [o_s8]; exact h)
theorem o_vh {l : List Nat} {m : Nat} (h : m < l.length) : dval (l.drop m) = l.getD m 0 + 10000 * dval (l.drop (m + 1)) := by
 rw [List.drop_eq_getElem_cons h, dval]
 simp [List.getD, h]
theorem o_vi {l : List Nat} {m v : Nat} (h : m < l.length) : dval ((l.set m v).drop m) = v + 10000 * dval (l.drop (m + 1)) := by
 rw [o_vh (by simpa using h), List.drop_set_of_lt (by omega)]
 simp [List.getD, h]

set_option maxHeartbeats 2000000 in
theorem o_vj (x y N : Nat) (h0 : 0 < y) (hN : N ≤ 50000) (hx : x < 10000 ^ N) (hy : y < 10000 ^ N) : Eqn Tryz.prog o_df [.d (nD x), .d (nD y)] [] (.tup [.d (nD (x / y)), .d (nD (x % y))]) [] := by
 refine Eqn.pure o_dh Plain.ok ?_
 have sx := o_vg hx
 have sy := o_vg hy
 have ha := o_s9 x
 have va := o_s8 x
 have hfin : ∀ q r, q * y + r = x → r < y → nD q = nD (x / y) ∧ nD r = nD (x % y) := by
  intro q r h1 h2
  rw [← h1, Nat.mul_comm q y, Nat.mul_add_div h0, Nat.div_eq_of_lt h2, Nat.mul_add_mod, Nat.mod_eq_of_lt h2]
  exact ⟨rfl, rfl⟩
 simp only [o_dg]
 rw [show nD x = .sl (decs x).length ((decs x).map fun x : Nat => D.int .i64 x) from rfl]
 unfold sizeD at sx
 generalize decs x = a at *
 rcases Nat.eq_zero_or_pos a.length with hz | hz
 ·have hx0 : x = 0 := by rw [← va, List.eq_nil_of_length_eq_zero hz]; rfl
  obtain ⟨f1, f2⟩ := hfin 0 0 (by rw [hx0]; simp) h0
  rw [← f1, ← f2]
  clear f1 f2 hfin
  have ha0 : a = [] := List.eq_nil_of_length_eq_zero hz
  subst ha0
  have ht := o_v2 [] (by simp [dsmall]) (by simp)
  have hm : IntKind.i64.wrap (-1) = -1 := by decide
  have hm2 : IntKind.i64.wrap (0 - 1) = -1 := by decide
  rw [show dval [] = 0 from rfl, show D.sl ([] : List Nat).length (dsD []) = .sl 0 [] from rfl] at ht
  rw [o_v1] at ht ⊢
  refine A10 (fs hm hm2) ?_; try with_reducible exact tt
  refine AW.rounds 1 ?_
  refine AW.freeze 0 1 ⟨3, []⟩ [] (by simp) rfl ?_
  simp [frzH]
  refine A01 ht ?_; try with_reducible exact tt
  exact Sub1.tup (Subs.cons (Sub1.refl _) (Subs.cons Sub1.nil (Subs.refl _)))
 ·have hnb : (a.length : Int) * 8 ≤ 140737488355328 := by omega
  have hnb2 : a.length ≤ 17592186044416 := by omega
  have hnz : a.length ≠ 0 := by omega
  have ew0 : IntKind.i64.wrap ((a.length : Int) - 1) = (a.length : Int) - 1 := w64 (by omega) (by omega)
  refine A10 (fs hz (fs hnb (fs hnb2 (fs hnz ew0)))) ?_; try with_reducible exact tt
  have hrep : List.replicate a.length (V.d (D.int .i64 0)) = (List.replicate a.length 0).map fun x : Nat => V.d (D.int .i64 x) := by simp
  rw [hrep]
  refine AW.loopT (α := Nat × Nat × List Nat) 1 (fun s => [(8, .d (.int .i64 ((s.1 : Int) - 1))), (7, .d (nD s.2.1))]) (fun s => [(0, ⟨3, s.2.2.map fun x : Nat => V.d (D.int .i64 x)⟩)]) (fun s => s.1 ≤ a.length ∧ s.2.1 < y ∧ s.2.2.length = a.length ∧ dsmall s.2.2 ∧ dval (s.2.2.drop s.1) * y + s.2.1 = dval (a.drop s.1)) (fun s => s.1) (a.length, 0, List.replicate a.length 0) ?_ ?_ ⟨Nat.le_refl _, h0, by simp, by intro x hx; simp [List.mem_replicate] at hx; omega, by simp [dval]⟩ ?_ ?_ ?_
  ·simp
  ·simp
  ·simp
   exact Sub1.nil
  ·simp
  rintro ⟨j, r, out⟩ ⟨hj, hr, hol, hos, hov⟩
  simp only at hj hr hol hos hov
  rcases j with _ | m
  ·rw [List.drop_zero, List.drop_zero, va] at hov
   obtain ⟨f1, f2⟩ := hfin _ _ hov hr
   rw [← f1, ← f2]
   have ht := o_v2 out hos (by omega)
   rw [hol] at ht
   have htk : (dsD out).take a.length = dsD out := List.take_of_length_le (by rw [o_uy]; omega)
   have hob : (out.map fun x : Nat => V.d (D.int .i64 x)) = (dsD out).map V.d := by simp [dsD]
   rw [hob]
   clear f1 f2 hfin
   simp
   refine AW.freeze 0 1 ⟨3, (dsD out).map .d⟩ (dsD out) (by simp) rfl ?_
   simp [frzH, htk]
   refine A01 ht ?_; try with_reducible exact tt
  ·have hm : m < a.length := by omega
   have hmo : m < out.length := by omega
   have ga : a[m] = a.getD m 0 := by simp [List.getD, hm]
   have gl := ha.getD m
   have hda := o_vh hm
   have ewm : IntKind.i64.wrap ((m : Int) - 1) = (m : Int) - 1 := w64 (by omega) (by omega)
   have hr2 : a.getD m 0 + 10000 * r < 10000 * y := by omega
   have hy1 : 10000 * y < 10000 ^ (N + 1) := by rw [Nat.pow_succ]; omega
   have sr := o_vg (Nat.lt_trans hr hy)
   have ht := o_v2 (a.getD m 0 :: decs r) (fun x hx => by
    rcases List.mem_cons.1 hx with rfl | hx
    ·exact gl
    ·exact o_s9 r x hx) (by simp; unfold sizeD at sr; omega)
   rw [show dval (a.getD m 0 :: decs r) = a.getD m 0 + 10000 * r by rw [dval, o_s8]] at ht
   simp only [List.length_cons, dsD, List.map_cons] at ht
   generalize a.getD m 0 = am at *
   obtain ⟨r2, hr2d⟩ : ∃ r2, r2 = am + 10000 * r := ⟨_, rfl⟩
   rw [← hr2d] at ht hr2
   have hr2' := hr2
   simp
   by_cases hr0 : r = 0
   ·have ht0 : decs r = [] := by rw [hr0]; rfl
    rw [ht0] at ht
    rw [show nD r = .sl 0 [] by rw [hr0]; rfl]
    refine A10 (fs hm (fs ga ewm)) ?_; try with_reducible exact tt
    refine CallS.pf 2 1 ⟨3, [.d (.int .i64 am)]⟩ [.int .i64 am] (ht) (by first | rfl | (simp; done)) (R0 ?_); try with_reducible exact tt
    refine A00 ?_; try with_reducible exact tt
    refine AW.loopT (α := Nat × Nat) 3 (fun s => [(9, .d (.int .i64 (s.1 : Nat))), (10, .d (.int .i64 (s.2 : Nat)))]) (fun s => []) (fun s => s.1 < s.2 ∧ s.2 ≤ 10000 ∧ s.1 * y ≤ r2 ∧ r2 < s.2 * y) (fun s => s.2 - s.1) (0, 10000) ?_ ?_ ⟨by decide, by decide, by omega, hr2⟩ ?_ ?_ ?_
    ·simp
    ·simp
    ·simp
    ·simp
    rintro ⟨lo, hi⟩ ⟨h1, h2, h3, h4⟩
    simp only at h1 h2 h3 h4
    simp
    by_cases hs : 1 < hi - lo
    ·obtain ⟨mid, hmid⟩ : ∃ mid, mid = (lo + hi) / 2 := ⟨_, rfl⟩
     have w1 : IntKind.i64.wrap ((hi : Int) - lo) = ((hi - lo : Nat) : Int) := by rw [w64 (by omega) (by omega)]; omega
     have w2 : IntKind.i64.wrap ((lo : Int) + hi) = ((lo + hi : Nat) : Int) := by rw [w64 (by omega) (by omega)]; omega
     have w3 : ((lo : Int) + hi).tdiv 2 = (mid : Int) := by rw [Int.tdiv_eq_ediv_of_nonneg (by omega)]; omega
     have w4 : IntKind.i64.wrap (mid : Int) = (mid : Int) := w64 (by omega) (by omega)
     have hs' : (1 : Int) < ((hi - lo : Nat) : Int) := by omega
     have c1 := o_v5 mid (by omega)
     have hym : y * mid < 10000 ^ (N + 1) := by
      refine Nat.lt_of_le_of_lt (Nat.mul_le_mul_left y (show mid ≤ 10000 by omega)) ?_
      rw [Nat.mul_comm]; exact hy1
     have c2 := o_vf y mid (by omega) (Nat.le_trans (o_vg (show mid < 10000 ^ 2 by omega)) (by omega))
     have c3 := o_v9 (y * mid) r2 (Nat.le_trans (o_vg hym) (by omega)) (Nat.le_trans (o_vg (Nat.lt_trans hr2' hy1)) (by omega))
     have d1 : lo < mid ∧ mid < hi := by omega
     clear hmid
     by_cases hle : y * mid ≤ r2
     ·have hz : ¬ 0 < cmpZ (y * mid) r2 := by unfold cmpZ; split <;> (try split) <;> omega
      have hz' : cmpZ (y * mid) r2 ≤ 0 := by omega
      generalize cmpZ (y * mid) r2 = z at *
      generalize hq : hi - lo = q at *
      refine A13 (fs w1 (fs hs (fs hs' (fs w2 (fs w3 (fs w4 (fs hz hz'))))))) c1 c2 c3 ?_; try with_reducible exact tt
      exact ⟨mid, hi, ⟨by omega, h2, by rw [Nat.mul_comm]; exact hle, h4⟩, by omega, ⟨Sub1.refl _, Sub1.refl _⟩⟩
     ·have hz : 0 < cmpZ (y * mid) r2 := by unfold cmpZ; rw [if_neg (by omega), if_pos (by omega)]; decide
      have hz' : ¬ cmpZ (y * mid) r2 ≤ 0 := by omega
      generalize cmpZ (y * mid) r2 = z at *
      generalize hq : hi - lo = q at *
      refine A13 (fs w1 (fs hs (fs hs' (fs w2 (fs w3 (fs w4 (fs hz hz'))))))) c1 c2 c3 ?_; try with_reducible exact tt
      exact ⟨lo, mid, ⟨by omega, by omega, h3, by rw [Nat.mul_comm]; omega⟩, by omega, ⟨Sub1.refl _, Sub1.refl _⟩⟩
    ·have hhi : hi = lo + 1 := by omega
     subst hhi
     have w1 : IntKind.i64.wrap (((lo + 1 : Nat) : Int) - lo) = 1 := by rw [w64 (by omega) (by omega)]; omega
     have w1' : IntKind.i64.wrap ((lo : Int) + 1 - lo) = 1 := by rw [w64 (by omega) (by omega)]; omega
     have w5 : (lo : Int) + 1 - lo = 1 := by omega
     have c1 := o_v5 lo (by omega)
     have hyl : y * lo ≤ r2 := by rw [Nat.mul_comm]; exact h3
     have hylN : y * lo < 10000 ^ (N + 1) := Nat.lt_of_le_of_lt hyl (Nat.lt_trans hr2' hy1)
     have c2 := o_vf y lo (by omega) (Nat.le_trans (o_vg (show lo < 10000 ^ 2 by omega)) (by omega))
     have c3 := o_va r2 (y * lo) hyl (Nat.le_trans (o_vg (Nat.lt_trans hr2' hy1)) (by omega)) (Nat.le_trans (o_vg hylN) (by omega))
     have hset : (out.map fun x : Nat => V.d (D.int .i64 x)).set m (.d (.int .i64 (lo : Nat))) = (out.set m lo).map fun x : Nat => V.d (D.int .i64 x) := by rw [List.map_set]
     have hnr : r2 - y * lo < y := by
      rw [Nat.add_mul, Nat.one_mul, Nat.mul_comm lo y] at h4
      omega
     have hnv : dval ((out.set m lo).drop m) * y + (r2 - y * lo) = dval (a.drop m) := by
      rw [o_vi hmo, hda, ← hov, hr2d, Nat.add_mul, Nat.mul_add, Nat.mul_comm lo y, Nat.mul_assoc]
      generalize dval (List.drop (m + 1) out) * y = t at *
      omega
     have hs2 := hos.set m lo (by omega)
     have hl2 : (out.set m lo).length = a.length := by simpa using hol
     have w6 : IntKind.i64.wrap 1 = 1 := by decide
     generalize y * lo = yl at *
     generalize r2 - yl = r3 at *
     generalize out.set m lo = out2 at *
     refine A13 (fs w1 (fs w1' (fs w5 (fs w6 (fs hm (fs hmo (fs hol (fs hset ewm)))))))) c1 c2 c3 ?_; try with_reducible exact tt
     exact ⟨m, r3, out2, ⟨by omega, hnr, hl2, hs2, hnv⟩, by omega, ⟨Sub1.refl _, Sub1.refl _⟩, Subs.refl _⟩
   ·have hlr : (decs r).length ≠ 0 := fun h => hr0 (o_sc.1 (List.eq_nil_of_length_eq_zero h))
    have hlp : 0 < (decs r).length := by omega
    rw [show nD r = .sl (decs r).length ((decs r).map fun x : Nat => D.int .i64 x) from rfl]
    have hsb : ((decs r).length : Int) + 1 ≤ 17592186044416 := by unfold sizeD at sr; omega
    have hrl : ((decs r).map fun x : Nat => D.int .i64 x).length = (decs r).length := by simp
    generalize (decs r).map (fun x : Nat => D.int .i64 x) = RD at *
    generalize (decs r).length = L at *
    have htk : (D.int .i64 am :: RD).take (1 + L) = .int .i64 am :: RD := List.take_of_length_le (by simp; omega)
    rw [Nat.add_comm L 1, ← htk] at ht
    refine A10 (fs hm (fs ga (fs ewm (fs hlr (fs hlp (fs hsb hrl)))))) ?_; try with_reducible exact tt
    refine CallS.pf 2 1 ⟨3, ([D.int .i64 am] ++ RD).map V.d⟩ ([D.int .i64 am] ++ RD) (ht) (by first | rfl | (simp; done)) (R0 ?_); try with_reducible exact tt
    refine A00 ?_; try with_reducible exact tt
    refine AW.loopT (α := Nat × Nat) 3 (fun s => [(9, .d (.int .i64 (s.1 : Nat))), (10, .d (.int .i64 (s.2 : Nat)))]) (fun s => []) (fun s => s.1 < s.2 ∧ s.2 ≤ 10000 ∧ s.1 * y ≤ r2 ∧ r2 < s.2 * y) (fun s => s.2 - s.1) (0, 10000) ?_ ?_ ⟨by decide, by decide, by omega, hr2⟩ ?_ ?_ ?_
    ·simp
    ·simp
    ·simp
    ·simp
    rintro ⟨lo, hi⟩ ⟨h1, h2, h3, h4⟩
    simp only at h1 h2 h3 h4
    simp
    by_cases hs : 1 < hi - lo
    ·obtain ⟨mid, hmid⟩ : ∃ mid, mid = (lo + hi) / 2 := ⟨_, rfl⟩
     have w1 : IntKind.i64.wrap ((hi : Int) - lo) = ((hi - lo : Nat) : Int) := by rw [w64 (by omega) (by omega)]; omega
     have w2 : IntKind.i64.wrap ((lo : Int) + hi) = ((lo + hi : Nat) : Int) := by rw [w64 (by omega) (by omega)]; omega
     have w3 : ((lo : Int) + hi).tdiv 2 = (mid : Int) := by rw [Int.tdiv_eq_ediv_of_nonneg (by omega)]; omega
     have w4 : IntKind.i64.wrap (mid : Int) = (mid : Int) := w64 (by omega) (by omega)
     have hs' : (1 : Int) < ((hi - lo : Nat) : Int) := by omega
     have c1 := o_v5 mid (by omega)
     have hym : y * mid < 10000 ^ (N + 1) := by
      refine Nat.lt_of_le_of_lt (Nat.mul_le_mul_left y (show mid ≤ 10000 by omega)) ?_
      rw [Nat.mul_comm]; exact hy1
     have c2 := o_vf y mid (by omega) (Nat.le_trans (o_vg (show mid < 10000 ^ 2 by omega)) (by omega))
     have c3 := o_v9 (y * mid) r2 (Nat.le_trans (o_vg hym) (by omega)) (Nat.le_trans (o_vg (Nat.lt_trans hr2' hy1)) (by omega))
     have d1 : lo < mid ∧ mid < hi := by omega
     clear hmid
     by_cases hle : y * mid ≤ r2
     ·have hz : ¬ 0 < cmpZ (y * mid) r2 := by unfold cmpZ; split <;> (try split) <;> omega
      have hz' : cmpZ (y * mid) r2 ≤ 0 := by omega
      generalize cmpZ (y * mid) r2 = z at *
      generalize hq : hi - lo = q at *
      refine A13 (fs w1 (fs hs (fs hs' (fs w2 (fs w3 (fs w4 (fs hz hz'))))))) c1 c2 c3 ?_; try with_reducible exact tt
      exact ⟨mid, hi, ⟨by omega, h2, by rw [Nat.mul_comm]; exact hle, h4⟩, by omega, ⟨Sub1.refl _, Sub1.refl _⟩⟩
     ·have hz : 0 < cmpZ (y * mid) r2 := by unfold cmpZ; rw [if_neg (by omega), if_pos (by omega)]; decide
      have hz' : ¬ cmpZ (y * mid) r2 ≤ 0 := by omega
      generalize cmpZ (y * mid) r2 = z at *
      generalize hq : hi - lo = q at *
      refine A13 (fs w1 (fs hs (fs hs' (fs w2 (fs w3 (fs w4 (fs hz hz'))))))) c1 c2 c3 ?_; try with_reducible exact tt
      exact ⟨lo, mid, ⟨by omega, by omega, h3, by rw [Nat.mul_comm]; omega⟩, by omega, ⟨Sub1.refl _, Sub1.refl _⟩⟩
    ·have hhi : hi = lo + 1 := by omega
     subst hhi
     have w1 : IntKind.i64.wrap (((lo + 1 : Nat) : Int) - lo) = 1 := by rw [w64 (by omega) (by omega)]; omega
     have w1' : IntKind.i64.wrap ((lo : Int) + 1 - lo) = 1 := by rw [w64 (by omega) (by omega)]; omega
     have w5 : (lo : Int) + 1 - lo = 1 := by omega
     have c1 := o_v5 lo (by omega)
     have hyl : y * lo ≤ r2 := by rw [Nat.mul_comm]; exact h3
     have hylN : y * lo < 10000 ^ (N + 1) := Nat.lt_of_le_of_lt hyl (Nat.lt_trans hr2' hy1)
     have c2 := o_vf y lo (by omega) (Nat.le_trans (o_vg (show lo < 10000 ^ 2 by omega)) (by omega))
     have c3 := o_va r2 (y * lo) hyl (Nat.le_trans (o_vg (Nat.lt_trans hr2' hy1)) (by omega)) (Nat.le_trans (o_vg hylN) (by omega))
     have hset : (out.map fun x : Nat => V.d (D.int .i64 x)).set m (.d (.int .i64 (lo : Nat))) = (out.set m lo).map fun x : Nat => V.d (D.int .i64 x) := by rw [List.map_set]
     have hnr : r2 - y * lo < y := by
      rw [Nat.add_mul, Nat.one_mul, Nat.mul_comm lo y] at h4
      omega
     have hnv : dval ((out.set m lo).drop m) * y + (r2 - y * lo) = dval (a.drop m) := by
      rw [o_vi hmo, hda, ← hov, hr2d, Nat.add_mul, Nat.mul_add, Nat.mul_comm lo y, Nat.mul_assoc]
      generalize dval (List.drop (m + 1) out) * y = t at *
      omega
     have hs2 := hos.set m lo (by omega)
     have hl2 : (out.set m lo).length = a.length := by simpa using hol
     have w6 : IntKind.i64.wrap 1 = 1 := by decide
     generalize y * lo = yl at *
     generalize r2 - yl = r3 at *
     generalize out.set m lo = out2 at *
     refine A13 (fs w1 (fs w1' (fs w5 (fs w6 (fs hm (fs hmo (fs hol (fs hset ewm)))))))) c1 c2 c3 ?_; try with_reducible exact tt
     exact ⟨m, r3, out2, ⟨by omega, hnr, hl2, hs2, hnv⟩, by omega, ⟨Sub1.refl _, Sub1.refl _⟩, Subs.refl _⟩
end
section
open Go.RowKit
def hP : Nat := 2305843009213693951
def hsum (a b key : Nat) : Nat := (a * key % hP + b) % hP
end
section
open Go.RowKit
theorem o_vk (B hi lo w : Nat) (hB : B ≤ 4294967296) (h1 : hi ≤ 4294967296) (h2 : lo ≤ 4294967296) (hw : hi * B + lo = w) : ∃ N0 N1 N2 N3 N4 N5 : D, Eqn Tryz.prog o_9m [.d (.int .i64 B)] [] (.d N3) [] ∧ Eqn Tryz.prog o_9v [.d N3, .d N3] [] (.d N1) [] ∧ Eqn Tryz.prog o_9v [.d .nilsl, .d N1] [] (.d N0) [] ∧ Eqn Tryz.prog o_9m [.d (.int .i64 hi)] [] (.d N4) [] ∧ Eqn Tryz.prog o_9m [.d (.int .i64 lo)] [] (.d N5) [] ∧ Eqn Tryz.prog o_9v [.d N4, .d N3] [] (.d N2) [] ∧ Eqn Tryz.prog o_9s [.d N2, .d N5] [] (.d (nD w)) [] ∧ Eqn Tryz.prog o_9s [.d N0, .d (nD w)] [] (.d (nD w)) [] := by
 have sz : ∀ x, x ≤ 4294967296 → sizeD x ≤ 100000 := fun x hx => Nat.le_trans (o_vg (show x < 10000 ^ 3 by omega)) (by omega)
 have bb : ∀ x y, x ≤ 4294967296 → y ≤ 4294967296 → x * y < 10000 ^ 6 := fun x y hx hy => Nat.lt_of_le_of_lt (Nat.mul_le_mul hx hy) (by decide)
 have szm : ∀ x y, x ≤ 4294967296 → y ≤ 4294967296 → sizeD (x * y) ≤ 100000 := fun x y hx hy => Nat.le_trans (o_vg (bb x y hx hy)) (by omega)
 have sw : sizeD w ≤ 100000 := Nat.le_trans (o_vg (m := 7) (by have := bb hi B h1 hB; omega)) (by omega)
 refine ⟨nD (0 * (B * B)), nD (B * B), nD (hi * B), nD B, nD hi, nD lo, o_v5 B (by omega), o_vf B B (sz B hB) (sz B hB), (o_vf 0 (B * B) (sz 0 (by omega)) (szm B B hB hB)).sub (Subs.cons Sub1.nil (Subs.refl _)), o_v5 hi (by omega), o_v5 lo (by omega), o_vf hi B (sz hi h1) (sz B hB), ?_, ?_⟩
 ·have := o_v8 (hi * B) lo (szm hi B h1 hB) (sz lo h2)
  rwa [hw] at this
 ·have := o_v8 (0 * (B * B)) w (by rw [Nat.zero_mul]; exact sz 0 (by omega)) sw
  rwa [show 0 * (B * B) + w = w by rw [Nat.zero_mul, Nat.zero_add]] at this
theorem o_vl (w : Nat) (h : w < 18446744073709551616) : Eqn Tryz.prog o_g7 [.d (.sl 1 [.int .u64 w])] [] (.d (nD w)) [] := by
 refine Eqn.pure o_g9 Plain.ok ?_
 obtain ⟨hi, hhi⟩ : ∃ x, x = w / 4294967296 := ⟨_, rfl⟩
 obtain ⟨lo, hlo⟩ : ∃ x, x = w % 4294967296 := ⟨_, rfl⟩
 have hw : hi * 4294967296 + lo = w := by omega
 have e1 : (w : Int).tdiv 4294967296 = (hi : Int) := by rw [Int.tdiv_eq_ediv_of_nonneg (by omega)]; omega
 have e2 : (w : Int).tmod 4294967296 = (lo : Int) := by rw [Int.tmod_eq_emod_of_nonneg (by omega)]; omega
 have e3 : IntKind.i64.wrap (hi : Int) = (hi : Int) := w64 (by omega) (by omega)
 have e4 : IntKind.i64.wrap (lo : Int) = (lo : Int) := w64 (by omega) (by omega)
 have e5 : IntKind.u64.wrap (hi : Int) = (hi : Int) := by rw [IntKind.wrap_u64]; omega
 obtain ⟨N0, N1, N2, N3, N4, N5, s0, m0, m1, s1, s2, m2, a1, a2⟩ := o_vk 4294967296 hi lo w (by omega) (by omega) (by omega) hw
 have m9 : IntKind.i64.wrap (-1) = -1 := by decide
 have m8 : IntKind.i64.wrap (0 - 1) = -1 := by decide
 clear hhi hlo hw
 generalize nD w = N6 at *
 simp only [o_g8]
 refine A02 s0 m0 ?_; try with_reducible exact tt
 refine AW.rounds 2 ?_
 refine A18 (fs e1 (fs e2 (fs e3 (fs e4 (fs e5 (fs m8 m9)))))) s1 s2 s0 m1 m2 a1 a2 a2 ?_; try with_reducible exact tt
end
end Go.Proofs.YtmpjlkclkhnpfaaGreatDoor.Am
