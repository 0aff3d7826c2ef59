/- Parts of the proof: FalC, FalL, TailP, TailQ, TvL. -/
import Derived.Test.YtjbcbbfhcbnncaaGreatDoorPf
set_option linter.unusedVariables false
set_option linter.unusedSimpArgs false
set_option maxRecDepth 100000
namespace Go.Proofs.YtjbcbbfhcbnncaaGreatDoor.Am
section
open Go.RowKit
theorem o_12b {x y : Rat} (h : x ≤ y) : ¬ 0 < cmpQ x y := by
 unfold cmpQ
 split
 ·decide
 ·rw [if_neg (Rat.not_lt.2 h)]; decide
theorem o_12c {x y : Rat} (h : y ≤ x) : ¬ cmpQ x y < 0 := by
 unfold cmpQ
 rw [if_neg (Rat.not_lt.2 h)]
 split <;> decide
theorem o_12d {x y : Rat} (h : ¬ cmpQ x y ≤ 0) : y < x := by
 unfold cmpQ at h
 split at h
 ·exact absurd (by decide) h
 ·split at h
  ·assumption
  ·exact absurd (by decide) h
set_option maxHeartbeats 8000000 in
theorem o_12e (k a b y t : Int) (f : Bool) (n0 n1 n2 : Int) : Eqn Tryz.prog o_6m [.d (parD k a b), .d (.agg [.int .i64 y, .int .i64 t, .bool f]), .d (.agg [.int .i64 n0, .int .i64 n1, .int .i64 n2])] [] (.d (.bool true)) [] := by
 refine Eqn.pure o_6o Plain.ok ?_
 obtain ⟨K, A, B, hsr, hsm⟩ := o_sa k a b
 obtain ⟨Y, T, F, hw, hs1⟩ := hsm y t f
 obtain ⟨m, hm, hm7, -⟩ := o_qp n0 7 (by omega)
 replace hm : bits BinOp.and IntKind.i64 n0 7 = m := hm
 have haw := o_123
 have hwn := o_s6 K A B
 have hst := o_s7 Y T F
 obtain ⟨L, D, C, E, V, hL, hof⟩ := o_128 hsr hw m (by omega)
 have hg := o_s5 hsr
 have hrs := hL.tail
 have hto := o_110 hg L hrs
 obtain ⟨lo, hlo⟩ : ∃ lo, lo = max (-5) (min n1 1000) := ⟨_, rfl⟩
 obtain ⟨dd, hdd⟩ : ∃ dd, dd = max 0 (min n2 1000) := ⟨_, rfl⟩
 have l1 : -5 ≤ lo ∧ lo ≤ 1000 := by omega
 have l2 : 0 ≤ dd ∧ dd ≤ 1000 := by omega
 obtain ⟨hi, hhi⟩ : ∃ hi, hi = lo + dd := ⟨_, rfl⟩
 have ehi : IntKind.i64.wrap (lo + dd) = hi := by rw [w64 (by omega) (by omega)]; omega
 have rsi : ∀ z : Int, -5 ≤ z → z ≤ 10000 → RS (z : Rat) 1000 := fun z h1 h2 => by
  refine ⟨?_, ?_⟩
  ·rw [Rat.num_intCast]; exact Nat.le_trans (o_m9 (by omega)) (by decide)
  ·rw [Rat.den_intCast]; exact Nat.le_trans (o_m9 (by decide)) (by decide)
 have o1 := o_12a lo (by omega) (by omega)
 have o2 := o_12a hi (by omega) (by omega)
 have o3 := rof0
 have z1 := rsi lo (by omega) (by omega)
 have z2 := rsi hi (by omega) (by omega)
 have z3 : RS (0 : Rat) 1000 := ⟨by decide, by decide⟩
 have t1 := o_11m hg hL (lo : Rat) (z1.le (by omega))
 have t2 := o_11m hg hL (hi : Rat) (z2.le (by omega))
 have t3 := o_11m hg hL 0 (z3.le (by omega))
 have hlh : (lo : Rat) ≤ (hi : Rat) := Rat.intCast_le_intCast.2 (by omega)
 have p1 := o_10m (V := vlQ K A B) hL.nn hlh
 have p2 := tl_nn (V := vlQ K A B) hL.nn (hi : Rat)
 have p3 := o_10p (V := vlQ K A B) hL.vnn
 rw [hL.one] at p3
 have p4 := o_10n (V := vlQ K A B) hL.nn hL.vnn (hi : Rat)
 have p5 := o_10o (V := vlQ K A B) hL.nn hL.one (hi : Rat)
 have r1 : RS (exQ (tlQ (vlQ K A B) lo) L) 1000 := by rw [← o_10s]; exact tl_gr hL _ _ _ (Nat.le_refl _)
 have r2 : RS (exQ (tlQ (vlQ K A B) hi) L) 1000 := by rw [← o_10s]; exact tl_gr hL _ _ _ (Nat.le_refl _)
 have r3 : RS (exQ (vlQ K A B) L) 1000 := by rw [← o_10s]; exact (hrs.s _ (Nat.le_refl _)).1
 have r4 : RS (varQ K A B L) 100000 := by
  have h1 := (hrs.s _ (Nat.le_refl _)).2.1
  rw [o_10s] at h1
  exact (h1.sub hrs.m).le (by omega)
 have p6 : exQ (fun t => vlQ K A B t * vlQ K A B t) L - exQ (vlQ K A B) L * exQ (vlQ K A B) L = varQ K A B L := rfl
 rw [p6] at p5
 rw [p3] at t3
 unfold stD3 at hto
 generalize varQ K A B L = VA at *
 generalize exQ fulI L = FU at *
 generalize exQ (vlQ K A B) L = ME at *
 generalize exQ (tlQ (vlQ K A B) lo) L = PA at *
 generalize exQ (tlQ (vlQ K A B) hi) L = PB at *
 have c1 := o_ol PB PA (r2.le (by omega)) (r1.le (by omega))
 have c2 := o_ol PB 0 (r2.le (by omega)) (z3.le (by omega))
 have q1 := o_12b p1
 have q2 := o_12c p2
 have m1 := o_oi PB hi (r2.le (by omega)) (z2.le (by omega))
 have c3 := o_ol (PB * hi) ME ((RS.mul r2 z2).le (by omega)) (r3.le (by omega))
 have q3 := o_12b p4
 have d1 := o_ok hi ME (z2.le (by omega)) (r3.le (by omega))
 have r5 := RS.sub z2 r3
 have c4 := o_ol (hi - ME) 0 (r5.le (by omega)) (z3.le (by omega))
 have m2 := o_oi (hi - ME) (hi - ME) (r5.le (by omega)) (r5.le (by omega))
 have r6 := RS.mul r5 r5
 have m3 := o_oi PB ((hi - ME) * (hi - ME)) (r2.le (by omega)) (r6.le (by omega))
 have c5 := o_ol (PB * ((hi - ME) * (hi - ME))) VA ((RS.mul r2 r6).le (by omega)) r4
 have q5 : ¬ cmpQ ((hi : Rat) - ME) 0 ≤ 0 → cmpQ (PB * (((hi : Rat) - ME) * (hi - ME))) VA ≤ 0 := fun h => by
  have h1 := o_12d h
  have h2 := o_12b (p5 (Rat.le_of_lt h1))
  omega
 have tx := o_v5 1 ⟨by decide, by decide⟩
 have sx : (txtQ 1).toList = [49] := by kernel_rfl
 generalize cmpQ PB PA = k1 at *
 generalize cmpQ PB 0 = k2 at *
 generalize cmpQ (PB * (hi : Rat)) ME = k3 at *
 generalize cmpQ ((hi : Rat) - ME) 0 = k4 at *
 generalize cmpQ (PB * (((hi : Rat) - ME) * (hi - ME))) VA = k5 at *
 generalize PB * (((hi : Rat) - ME) * (hi - ME)) = M3 at *
 generalize ((hi : Rat) - ME) * (hi - ME) = M2 at *
 generalize (hi : Rat) - ME = DI at *
 generalize PB * (hi : Rat) = M1 at *
 generalize ((hi : Int) : Rat) = HI at *
 generalize ((lo : Int) : Rat) = LO at *
 simp only [o_wk] at o1 o2 o3 t1 t2 t3 c1 c2 m1 c3 d1 c4 m2 m3 c5 tx
 obtain ⟨H1, H2, H3, hH⟩ : ∃ x y z, rcD HI = [x, y, z] := ⟨_, _, _, rfl⟩
 obtain ⟨L1, L2, L3, hLo⟩ : ∃ x y z, rcD LO = [x, y, z] := ⟨_, _, _, rfl⟩
 obtain ⟨A1, A2, A3, hA⟩ : ∃ x y z, rcD PA = [x, y, z] := ⟨_, _, _, rfl⟩
 obtain ⟨B1, B2, B3, hB⟩ : ∃ x y z, rcD PB = [x, y, z] := ⟨_, _, _, rfl⟩
 obtain ⟨E1, E2, E3, hE⟩ : ∃ x y z, rcD ME = [x, y, z] := ⟨_, _, _, rfl⟩
 obtain ⟨V1, V2, V3, hV⟩ : ∃ x y z, rcD VA = [x, y, z] := ⟨_, _, _, rfl⟩
 obtain ⟨F1, F2, F3, hF⟩ : ∃ x y z, rcD FU = [x, y, z] := ⟨_, _, _, rfl⟩
 obtain ⟨D1, D2, D3, hD⟩ : ∃ x y z, rcD DI = [x, y, z] := ⟨_, _, _, rfl⟩
 obtain ⟨O1, O2, O3, hO⟩ : ∃ x y z, rcD (1 : Rat) = [x, y, z] := ⟨_, _, _, rfl⟩
 obtain ⟨Z1, Z2, Z3, hZ⟩ : ∃ x y z, rcD (0 : Rat) = [x, y, z] := ⟨_, _, _, rfl⟩
 rw [hE, hV, hF] at hto
 rw [hLo] at o1 t1
 rw [hH] at o2 t2 m1 d1
 rw [hZ] at o3 t3 c2 c4
 rw [hA] at t1 c1
 rw [hB] at t2 c1 c2 m1 m3
 rw [hE] at c3 d1
 rw [hD] at d1 c4 m2
 rw [hV] at c5
 rw [hO] at t3 tx
 generalize rcD M1 = MM1 at *
 generalize rcD M2 = MM2 at *
 generalize rcD M3 = MM3 at *
 generalize hS1 : txtQ 1 = S1 at *
 clear hE hV hF hLo hH hZ hA hB hD hO hL hrs p1 p2 p3 p4 p5 p6 r1 r2 r3 r4 r5 r6 z1 z2 z3 hlh
 simp only [o_6n, parD, tsD] at hs1 hof hto t1 t2 t3 hwn hst ⊢
 generalize spD rcD L = LL at *
 refine A00 ?_; try with_reducible exact tt
 refine CallS.pu (haw) (R0 ?_); try with_reducible exact tt
 refine A00 ?_; try with_reducible exact tt
 refine CallS.pu (hs1) (R0 ?_); try with_reducible exact tt
 refine A00 ?_; try with_reducible exact tt
 refine CallS.pu (hwn) (R0 ?_); try with_reducible exact tt
 refine A10 hm ?_; try with_reducible exact tt
 refine CallS.pu (hst) (R1 hm ?_); try with_reducible exact tt
 have hlo' := hlo.symm
 have hdd' := hdd.symm
 refine CallS.pu (hof) (R1 (fs hm (fs hlo' (fs hdd' ehi))) ?_); try with_reducible exact tt
 refine A10 (fs hlo' (fs hdd' ehi)) ?_; try with_reducible exact tt
 refine CallS.pu (o1) (R1 ehi ?_); try with_reducible exact tt
 refine A10 ehi ?_; try with_reducible exact tt
 refine CallS.pu (t1) (R1 ehi ?_); try with_reducible exact tt
 refine A10 ehi ?_; try with_reducible exact tt
 refine CallS.pu (o2) (R0 ?_); try with_reducible exact tt
 refine CallS.pu (t2) (R0 ?_); try with_reducible exact tt
 refine A00 ?_; try with_reducible exact tt
 refine CallS.pu (o3) (R0 ?_); try with_reducible exact tt
 refine CallS.pu (t3) (R0 ?_); try with_reducible exact tt
 refine A00 ?_; try with_reducible exact tt
 refine CallS.pu (hto) (R0 ?_); try with_reducible exact tt
 by_cases hp : 0 < hi
 ·by_cases h4 : k4 ≤ 0
  ·refine A00 ?_; try with_reducible exact tt
   refine CallS.pu (c1) (R1 q1 ?_); try with_reducible exact tt
   refine CallS.pu (o3) (R1 (fs q1 q2) ?_); try with_reducible exact tt
   refine CallS.pu (c2) (R1 (fs q1 q2) ?_); try with_reducible exact tt
   refine CallS.pu (tx) (R1 (fs q1 (fs q2 (fs hp sx))) ?_); try with_reducible exact tt
   refine A10 (fs hp (fs q1 (fs q2 sx))) ?_; try with_reducible exact tt
   refine CallS.pu (o2) (R1 hp ?_); try with_reducible exact tt
   refine CallS.pu (m1) (R1 hp ?_); try with_reducible exact tt
   refine CallS.pu (c3) (R1 (fs hp q3) ?_); try with_reducible exact tt
   refine A10 (fs hp q3) ?_; try with_reducible exact tt
   refine CallS.pu (o2) (R0 ?_); try with_reducible exact tt
   refine CallS.pu (d1) (R0 ?_); try with_reducible exact tt
   refine A00 ?_; try with_reducible exact tt
   refine CallS.pu (o3) (R0 ?_); try with_reducible exact tt
   refine CallS.pu (c4) (R1 h4 ?_); try with_reducible exact tt
  ·have q6 := q5 h4
   refine A00 ?_; try with_reducible exact tt
   refine CallS.pu (c1) (R1 q1 ?_); try with_reducible exact tt
   refine CallS.pu (o3) (R1 (fs q1 q2) ?_); try with_reducible exact tt
   refine CallS.pu (c2) (R1 (fs q1 q2) ?_); try with_reducible exact tt
   refine CallS.pu (tx) (R1 (fs q1 (fs q2 (fs hp sx))) ?_); try with_reducible exact tt
   refine A10 (fs hp (fs q1 (fs q2 sx))) ?_; try with_reducible exact tt
   refine CallS.pu (o2) (R1 hp ?_); try with_reducible exact tt
   refine CallS.pu (m1) (R1 hp ?_); try with_reducible exact tt
   refine CallS.pu (c3) (R1 (fs hp q3) ?_); try with_reducible exact tt
   refine A10 (fs hp q3) ?_; try with_reducible exact tt
   refine CallS.pu (o2) (R0 ?_); try with_reducible exact tt
   refine CallS.pu (d1) (R0 ?_); try with_reducible exact tt
   refine A00 ?_; try with_reducible exact tt
   refine CallS.pu (o3) (R0 ?_); try with_reducible exact tt
   refine CallS.pu (c4) (R1 h4 ?_); try with_reducible exact tt
   refine CallS.pu (m2) (R1 h4 ?_); try with_reducible exact tt
   refine CallS.pu (m3) (R1 h4 ?_); try with_reducible exact tt
   refine CallS.pu (c5) (R1 (fs h4 q6) ?_); try with_reducible exact tt
 ·by_cases h4 : k4 ≤ 0
  ·refine A00 ?_; try with_reducible exact tt
   refine CallS.pu (c1) (R1 q1 ?_); try with_reducible exact tt
   refine CallS.pu (o3) (R1 (fs q1 q2) ?_); try with_reducible exact tt
   refine CallS.pu (c2) (R1 (fs q1 q2) ?_); try with_reducible exact tt
   refine CallS.pu (tx) (R1 (fs q1 (fs q2 (fs hp sx))) ?_); try with_reducible exact tt
   refine A10 (fs hp (fs q1 (fs q2 sx))) ?_; try with_reducible exact tt
   refine CallS.pu (o2) (R0 ?_); try with_reducible exact tt
   refine CallS.pu (d1) (R0 ?_); try with_reducible exact tt
   refine A00 ?_; try with_reducible exact tt
   refine CallS.pu (o3) (R0 ?_); try with_reducible exact tt
   refine CallS.pu (c4) (R1 h4 ?_); try with_reducible exact tt
  ·have q6 := q5 h4
   refine A00 ?_; try with_reducible exact tt
   refine CallS.pu (c1) (R1 q1 ?_); try with_reducible exact tt
   refine CallS.pu (o3) (R1 (fs q1 q2) ?_); try with_reducible exact tt
   refine CallS.pu (c2) (R1 (fs q1 q2) ?_); try with_reducible exact tt
   refine CallS.pu (tx) (R1 (fs q1 (fs q2 (fs hp sx))) ?_); try with_reducible exact tt
   refine A10 (fs hp (fs q1 (fs q2 sx))) ?_; try with_reducible exact tt
   refine CallS.pu (o2) (R0 ?_); try with_reducible exact tt
   refine CallS.pu (d1) (R0 ?_); try with_reducible exact tt
   refine A00 ?_; try with_reducible exact tt
   refine CallS.pu (o3) (R0 ?_); try with_reducible exact tt
   refine CallS.pu (c4) (R1 h4 ?_); try with_reducible exact tt
   refine CallS.pu (m2) (R1 h4 ?_); try with_reducible exact tt
   refine CallS.pu (m3) (R1 h4 ?_); try with_reducible exact tt
   refine CallS.pu (c5) (R1 (fs h4 q6) ?_); try with_reducible exact tt
end
section
open Go.RowKit

theorem tf_walk {W : World} (ht : Tabs (memW W)) {k a b y t n0 n1 n2 : Int} {f : Bool} : Calls Tryz.prog o_6m #[.agg #[.int .i64 k, .int .i64 a, .int .i64 b], .agg #[.int .i64 y, .int .i64 t, .bool f], .agg #[.int .i64 n0, .int .i64 n1, .int .i64 n2]] W (fun e W' => e = .returned (.bool true) ∧ Same W W') :=
 o_sc o_6o (o_12e k a b y t f n0 n1 n2) (V.reps_cons.2 ⟨o_sd (by simp [Value.oneCell']) (by simp [D.reps_cons, D.rep_int]), V.reps_cons.2 ⟨o_sd (by simp [Value.oneCell']) (by simp [D.reps_cons, D.rep_int, D.rep_bool]), V.reps_cons.2 ⟨o_sd (by simp [Value.oneCell']) (by simp [D.reps_cons, D.rep_int]), V.reps_nil.2 rfl⟩⟩⟩) ht
end
section
open Go.RowKit
theorem vv_pl {k a w : Nat} (hk : k ≠ 4) : vvQ k a w = plQ fun y => valC k a y * valC k a y := funext fun s => by
 unfold vvQ vlQ valR plQ
 rw [if_neg hk]
theorem vl_pl {k a w : Nat} (hk : k ≠ 4) : vlQ k a w = plQ (valC k a) := funext fun s => by
 unfold vlQ valR plQ
 rw [if_neg hk]
theorem o_12f (n : Nat) : ((n * (n - 1) : Nat) : Rat) = (n : Rat) * ((n : Rat) - 1) := by
 cases n with
 | zero => simp
 | succ n => rw [show n + 1 - 1 = n by omega, Rat.natCast_mul, Rat.natCast_add]; simp; grind
theorem o_12g {k a w : Nat} (h : GoodS k a w) (n : Nat) (hn : n ≤ topC w) : exQ (vlQ k a w) (atQ (dstQ k a w (0, 0, false) n)) = (n : Rat) := by
 rw [o_vw, vl_pl (by have := h.1; omega)]
 exact o_10g (o_119 h) n hn
theorem var_n {k a w : Nat} (h : GoodS k a w) (n : Nat) (hn : n ≤ topC w) : varQ k a w (atQ (dstQ k a w (0, 0, false) n)) = exQ (plQ fun y => valC k a y * valC k a y) (ofZ (topC w) (chP k a) n) - (n : Rat) * (n : Rat) := by
 unfold varQ
 rw [o_12g h n hn, o_vw, vv_pl (by have := h.1; omega)]; rfl
theorem o_12h {x y : Rat} {d : Nat} (hd : 0 < d) (h : 2 * x = 1 / (d : Rat) * y) : x * ((2 * d : Nat) : Rat) = y := by
 have h1 : (d : Rat) ≠ 0 := o_y9 hd
 have h2 : (1 / (d : Rat)) * (d : Rat) = 1 := Rat.div_mul_cancel h1
 rw [Rat.natCast_mul]
 have : ((2 : Nat) : Rat) = 2 := rfl
 rw [this]
 generalize 1 / (d : Rat) = u at *
 generalize (d : Rat) = z at *
 grind
theorem o_12i {a w : Nat} (h : GoodS 1 a w) (n : Nat) (hn : n ≤ topC w) : varQ 1 a w (atQ (dstQ 1 a w (0, 0, false) n)) = mkRat ((n * (n - 1) : Nat) : Int) (2 * a) := by
 have ha : 1 ≤ a := by have := h.1; omega
 have hne : (a : Rat) ≠ 0 := o_y9 (by omega)
 have hV := o_119 h
 have h1 := o_10j hV (u := 1 / (a : Rat)) (fun k hk => by
  show valM a (k + 1) - valM a k = 1 + 1 / (a : Rat) * valM a k
  rw [o_r6 ha k, valM]
  have e1 : ((1 : Nat) : Rat) = 1 := rfl
  have h2 : (1 / (a : Rat)) * (a : Rat) = 1 := Rat.div_mul_cancel hne
  rw [e1]
  generalize mkRat ((a + 1 : Nat) : Int) a ^ k = P at *
  generalize 1 / (a : Rat) = u at *
  generalize (a : Rat) = z at *
  grind) n hn
 rw [← var_n h n hn, ← o_12f] at h1
 have h2 := o_12h (by omega) h1
 have h3 : ((2 * a : Nat) : Rat) ≠ 0 := o_y9 (by omega)
 rw [Rat.mkRat_eq_div, Rat.intCast_natCast, ← h2]
 generalize varQ 1 a w (atQ (dstQ 1 a w (0, 0, false) n)) = X at *
 generalize ((2 * a : Nat) : Rat) = z at *
 rw [Rat.div_def, Rat.mul_assoc, Rat.mul_inv_cancel _ h3, Rat.mul_one]
theorem o_12j (d k : Nat) : 2 ^ (k / 2 ^ d) * 2 ^ d ≤ 2 ^ d + valF d k := by
 unfold valF
 have hP : 0 < 2 ^ (k / 2 ^ d) := Nat.two_pow_pos _
 have hb : 2 ^ d ≤ (2 ^ d + k % 2 ^ d) * 2 ^ (k / 2 ^ d) := Nat.le_trans (Nat.le_add_right _ _) (Nat.le_mul_of_pos_right _ hP)
 have hc : 2 ^ (k / 2 ^ d) * 2 ^ d ≤ (2 ^ d + k % 2 ^ d) * 2 ^ (k / 2 ^ d) := by
  rw [Nat.mul_comm (2 ^ (k / 2 ^ d))]
  exact Nat.mul_le_mul_right _ (Nat.le_add_right _ _)
 omega
theorem o_12k {x y : Rat} {d : Nat} (hd : 0 < d) (h : x * (d : Rat) ≤ (d : Rat) + y) : x ≤ 1 + 1 / (d : Rat) * y := by
 have h1 : (0 : Rat) < (d : Rat) := by exact_mod_cast hd
 have h2 : (1 / (d : Rat)) * (d : Rat) = 1 := Rat.div_mul_cancel (o_y9 hd)
 refine Rat.le_of_mul_le_mul_right ?_ h1
 refine Rat.le_trans h ?_
 generalize 1 / (d : Rat) = u at *
 generalize (d : Rat) = z at *
 have : (1 + u * y) * z = z + y := by grind
 rw [this]
 exact Rat.le_refl
theorem o_12l {a w : Nat} (h : GoodS 2 a w) (n : Nat) (hn : n ≤ topC w) : varQ 2 a w (atQ (dstQ 2 a w (0, 0, false) n)) ≤ mkRat ((n * (n - 1) : Nat) : Int) (2 * 2 ^ a) := by
 have hV := o_119 h
 have hp : 0 < 2 ^ a := Nat.two_pow_pos a
 have h1 := o_10i hV (u := 1 / ((2 ^ a : Nat) : Rat)) (fun k hk => by
  show ((valF a (k + 1) : Nat) : Rat) - ((valF a k : Nat) : Rat) ≤ 1 + 1 / ((2 ^ a : Nat) : Rat) * ((valF a k : Nat) : Rat)
  refine o_12k hp ?_
  have h2 := o_12j a k
  rw [o_116, Rat.natCast_add]
  have h3 : (((2 ^ (k / 2 ^ a) * 2 ^ a : Nat)) : Rat) ≤ ((2 ^ a + valF a k : Nat) : Rat) := by exact_mod_cast h2
  rw [Rat.natCast_mul, Rat.natCast_add] at h3
  generalize ((2 ^ (k / 2 ^ a) : Nat) : Rat) = A at *
  generalize ((2 ^ a : Nat) : Rat) = B at *
  generalize ((valF a k : Nat) : Rat) = C at *
  grind) n hn
 rw [← var_n h n hn, ← o_12f] at h1
 have h3 : ((2 * 2 ^ a : Nat) : Rat) ≠ 0 := o_y9 (by omega)
 have h4 : (0 : Rat) < ((2 * 2 ^ a : Nat) : Rat) := by exact_mod_cast (show 0 < 2 * 2 ^ a by omega)
 have h5 : (1 / ((2 ^ a : Nat) : Rat)) * ((2 ^ a : Nat) : Rat) = 1 := Rat.div_mul_cancel (o_y9 hp)
 rw [Rat.mkRat_eq_div, Rat.intCast_natCast]
 refine Rat.le_of_mul_le_mul_right ?_ h4
 rw [Rat.div_mul_cancel h3]
 rw [Rat.natCast_mul]
 have e2 : ((2 : Nat) : Rat) = 2 := rfl
 rw [e2]
 have hz : (0 : Rat) < ((2 ^ a : Nat) : Rat) := by exact_mod_cast hp
 have h6 := Rat.mul_le_mul_of_nonneg_right h1 (Rat.le_of_lt hz)
 generalize varQ 2 a w (atQ (dstQ 2 a w (0, 0, false) n)) = X at *
 generalize ((n * (n - 1) : Nat) : Rat) = Y at *
 generalize 1 / ((2 ^ a : Nat) : Rat) = u at *
 generalize ((2 ^ a : Nat) : Rat) = z at *
 have e3 : X * (2 * z) = 2 * X * z := by grind
 have e4 : u * Y * z = Y := by grind
 rw [e3, ← e4]
 exact h6
end
section
open Go.RowKit
set_option maxHeartbeats 8000000 in
theorem o_12m (k a b n : Int) : Eqn Tryz.prog o_6j [.d (parD k a b), .d (.int .i64 n)] [] (.d (.bool true)) [] := by
 refine Eqn.pure o_6l Plain.ok ?_
 obtain ⟨K, A, B, hG, hch⟩ := o_124 k a b
 obtain ⟨n0, hn, hn15, -⟩ := o_qp n 15 (by omega)
 replace hn : bits BinOp.and IntKind.i64 n 15 = n0 := hn
 have h8 : 2 ^ B ≤ 16 := Nat.pow_le_pow_right (n := 2) (by omega) hG.2.2
 have h8' := Nat.two_pow_pos B
 have hB4 := hG.2.2
 have e0 : (2 : Int) ^ B = (2 ^ B : Nat) := by rw [Int.natCast_pow]; rfl
 obtain ⟨S, hS⟩ : ∃ S, S = 2 ^ B := ⟨_, rfl⟩
 obtain ⟨n', hn'⟩ : ∃ n', n' = n0 % S := ⟨_, rfl⟩
 have hlt : n' < S := by rw [hn']; exact Nat.mod_lt _ (by omega)
 have hnt : n' ≤ topC B := by unfold topC; omega
 have haw := o_123
 have hwn := o_s6 K A B
 have hof := o_z8 hG hG.2.2 (0, 0, false) (wellQ hG (okz _)) (okz _) n' (by omega)
 have hrs := o_11f hG (okz _) n' (by omega)
 have hto := o_110 (.inr ⟨by have := hG.1; omega, o_rb hG⟩) _ hrs
 have hV := o_119 hG
 have hme := o_12g hG n' hnt
 have hvn : 0 ≤ varQ K A B (atQ (dstQ K A B (0, 0, false) n')) := by
  have h1 := o_10k (vlQ K A B) (l := dstQ K A B (0, 0, false) n') (fun p hp => (o_106 hV n' p hp).2) (o_wh _ _)
  unfold varQ
  rw [o_vw, o_vw]
  exact h1
 have hvr : RS (varQ K A B (atQ (dstQ K A B (0, 0, false) n'))) 100000 := by
  have h1 := (hrs.s _ (Nat.le_refl _)).2.1
  rw [o_10s] at h1
  exact (h1.sub hrs.m).le (by omega)
 have hnr : RS ((n' : Nat) : Rat) 100000 := by
  have hg : Gr 1 15 ((n' : Nat) : Rat) := ⟨n', by rw [show ((1 : Nat) : Rat) = 1 from rfl, Rat.mul_one], by omega⟩
  exact hg.rs (by decide) (by decide) (by decide)
 have hno := o_p8 n' (by omega)
 have hz := rof0
 have hz2 : RS (0 : Rat) 100000 := ⟨by decide, by decide⟩
 have hc1 := o_ol _ _ hnr hnr
 have hc2 := o_ol _ 0 hvr hz2
 have q1 : cmpQ ((n' : Nat) : Rat) ((n' : Nat) : Rat) = 0 := by unfold cmpQ; simp [Rat.lt_irrefl]
 have q2 := o_111 hvn
 have e1 : IntKind.i64.wrap (S : Int) = (S : Int) := w64 (by omega) (by omega)
 have e2 : IntKind.i64.wrap ((S : Int) - 1) = ((S - 1 : Nat) : Int) := by rw [w64 (by omega) (by omega)]; omega
 have e3 : IntKind.i64.wrap (((S - 1 : Nat) : Int) + 1) = (S : Int) := by rw [w64 (by omega) (by omega)]; omega
 have e4 : ((n0 : Int).tmod S) = (n' : Int) := by rw [hn']; rfl
 have e5 : ¬ (S : Int) = 0 := by omega
 rw [q1] at hc1
 obtain ⟨V, hVV⟩ : ∃ V, V = varQ K A B (atQ (dstQ K A B (0, 0, false) n')) := ⟨_, rfl⟩
 have hmor : K = 1 → V = mkRat ((n' * (n' - 1) : Nat) : Int) (2 * A) := fun h => by subst h; rw [hVV]; exact o_12i hG n' hnt
 have hflo : K = 2 → V ≤ mkRat ((n' * (n' - 1) : Nat) : Int) (2 * 2 ^ A) := fun h => by subst h; rw [hVV]; exact o_12l hG n' hnt
 unfold stD3 at hto
 rw [hme, ← hVV] at hto
 rw [← hVV] at hc2 hvr q2
 generalize exQ fulI (atQ (dstQ K A B (0, 0, false) n')) = FU at *
 generalize atQ (dstQ K A B (0, 0, false) n') = L at *
 obtain ⟨V1, V2, V3, hVR⟩ : ∃ V1 V2 V3, rcD V = [V1, V2, V3] := ⟨_, _, _, rfl⟩
 obtain ⟨F1, F2, F3, hF⟩ : ∃ F1 F2 F3, rcD FU = [F1, F2, F3] := ⟨_, _, _, rfl⟩
 obtain ⟨N1, N2, N3, hN⟩ : ∃ N1 N2 N3, rcD ((n' : Nat) : Rat) = [N1, N2, N3] := ⟨_, _, _, rfl⟩
 simp only [o_wk] at hno hz hc1 hc2
 rw [hN, hVR, hF] at hto
 rw [hVR] at hc2
 rw [hN] at hno hc1
 generalize cmpQ V 0 = c2 at *
 generalize rcD 0 = ZZ at *
 rw [← hS] at e0
 have e6 : (bits BinOp.and IntKind.i64 n 15).tmod ((2 : Int) ^ B) = (n' : Int) := by rw [hn, e0, e4]
 simp only [o_6k, parD, stD] at hch hwn hof hto ⊢
 generalize spD rcD L = LL at *
 refine A00 ?_; try with_reducible exact tt
 refine CallS.pu (haw) (R0 ?_); try with_reducible exact tt
 refine A00 ?_; try with_reducible exact tt
 refine CallS.pu (hch) (R0 ?_); try with_reducible exact tt
 refine A10 (fs e0 (fs e1 (fs e2 (fs e3 (fs e4 (fs e5 hn)))))) ?_; try with_reducible exact tt
 refine CallS.pu (hwn) (R1 e6 ?_); try with_reducible exact tt
 refine A10 e6 ?_; try with_reducible exact tt
 refine CallS.pu (hof) (R0 ?_); try with_reducible exact tt
 refine A00 ?_; try with_reducible exact tt
 refine CallS.pu (hto) (R0 ?_); try with_reducible exact tt
 refine A00 ?_; try with_reducible exact tt
 refine CallS.pu (hz) (R0 ?_); try with_reducible exact tt
 refine CallS.pu (hc2) (R1 q2 ?_); try with_reducible exact tt
 have hpn : n' * (n' - 1) ≤ 15 * 15 := Nat.mul_le_mul (by omega) (by omega)
 have ep : IntKind.i64.wrap ((n' : Int) * IntKind.i64.wrap ((n' : Int) - 1)) = ((n' * (n' - 1) : Nat) : Int) := by
  rcases Nat.eq_zero_or_pos n' with h | h
  ·rw [h]; rfl
  ·rw [w64 (x := (n' : Int) - 1) (by omega) (by omega), show (n' : Int) - 1 = ((n' - 1 : Nat) : Int) by omega, ← Int.natCast_mul]
   exact w64 (by omega) (by omega)
 obtain ⟨PN, hPN⟩ : ∃ PN, PN = n' * (n' - 1) := ⟨_, rfl⟩
 rw [← hPN] at ep hpn hmor hflo
 refine AW.cond rfl (fun hh => ?_) (fun hh => ?_)
 ·exfalso; simp at hh
 refine AW.skip ?_
 by_cases k1 : K = 1
 ·subst k1
  have hA4 : 1 ≤ A ∧ A ≤ 4 := by have := hG.1; omega
  have ea : IntKind.i64.wrap (2 * (A : Int)) = ((2 * A : Nat) : Int) := by rw [w64 (by omega) (by omega)]; omega
  have hmk := o_p9 PN (2 * A) (by omega) (by omega) (by omega)
  rw [← hmor rfl] at hmk
  have hcv := o_ol V V hvr hvr
  have qv : cmpQ V V = 0 := by unfold cmpQ; simp [Rat.lt_irrefl]
  simp only [o_wk] at hmk hcv
  rw [hVR] at hmk hcv
  rw [qv] at hcv
  refine A10 (fs ep ea) ?_; try with_reducible exact tt
  refine CallS.pu (hmk) (R0 ?_); try with_reducible exact tt
  refine A00 ?_; try with_reducible exact tt
  refine CallS.pu (hcv) (R0 ?_); try with_reducible exact tt
 ·have k1' : ¬ (K : Int) = 1 := by omega
  by_cases k2 : K = 2
  ·subst k2
   have hA4 : A ≤ 1 := by have := hG.1; omega
   have hpA : 2 ^ A ≤ 2 := Nat.pow_le_pow_right (n := 2) (by omega) hA4
   have hpA' := Nat.two_pow_pos A
   have ez : (2 : Int) ^ A = (2 ^ A : Nat) := by rw [Int.natCast_pow]; rfl
   obtain ⟨Z, hZ⟩ : ∃ Z, Z = 2 ^ A := ⟨_, rfl⟩
   rw [← hZ] at hpA hpA' ez hflo
   have ea : IntKind.i64.wrap (2 * (Z : Int)) = ((2 * Z : Nat) : Int) := by rw [w64 (by omega) (by omega)]; omega
   have hmk := o_p9 PN (2 * Z) (by omega) (by omega) (by omega)
   obtain ⟨WQ', hWQ⟩ : ∃ q : Rat, q = mkRat ((PN : Nat) : Int) (2 * Z) := ⟨_, rfl⟩
   rw [← hWQ] at hmk hflo
   have hwr : RS WQ' 100000 := by
    rw [hWQ]
    have h1 : RS (mkRat ((PN : Nat) : Int) (2 * Z)) 1 := RS.mk' (by omega) (by rw [Int.natAbs_natCast]; exact o_m9 (by omega)) (o_m9 (by omega))
    exact h1.le (by omega)
   have hcv := o_ol V WQ' hvr hwr
   have qv : cmpQ V WQ' ≤ 0 := by
    unfold cmpQ
    split
    ·decide
    ·rw [if_neg (Rat.not_lt.2 (hflo rfl))]; decide
   obtain ⟨Q1, Q2, Q3, hQ⟩ : ∃ Q1 Q2 Q3, rcD WQ' = [Q1, Q2, Q3] := ⟨_, _, _, rfl⟩
   simp only [o_wk] at hmk hcv
   rw [hVR] at hcv
   rw [hQ] at hmk hcv
   generalize cmpQ V WQ' = c3 at *
   refine A10 (fs ep (fs ez ea)) ?_; try with_reducible exact tt
   refine CallS.pu (hmk) (R0 ?_); try with_reducible exact tt
   refine A00 ?_; try with_reducible exact tt
   refine CallS.pu (hcv) ?_
   (try (simp -implicitDefEqProofs [qv]; try simp (disch := omega) only [w64, wu64]))
   repeat (first | refine AW.seq ?_ | refine AW.block ?_ | (refine AW.reg mix ?_; simp -implicitDefEqProofs [qv]; try simp (disch := omega) only [w64, wu64]) | (refine need.of (by first | omega | kernel_rfl) ?_) | (refine AW.fin ?_; try simp -implicitDefEqProofs [qv]))
  ·have k2' : ¬ (K : Int) = 2 := by omega
   refine A10 (fs k1 (fs k1' (fs k2 k2'))) ?_; try with_reducible exact tt
   refine CallS.pu (hno) (R0 ?_); try with_reducible exact tt
   refine CallS.pu (hc1) (R0 ?_); try with_reducible exact tt
end
section
open Go.RowKit

theorem tv_walk {W : World} (ht : Tabs (memW W)) {k a b n : Int} : Calls Tryz.prog o_6j #[.agg #[.int .i64 k, .int .i64 a, .int .i64 b], .int .i64 n] W (fun e W' => e = .returned (.bool true) ∧ Same W W') :=
 o_sc o_6l (o_12m k a b n) (V.reps_cons.2 ⟨o_sd (by simp [Value.oneCell']) (by simp [D.reps_cons, D.rep_int]), V.reps_cons.2 ⟨V.rep_int.2 rfl, V.reps_nil.2 rfl⟩⟩) ht
end
end Go.Proofs.YtjbcbbfhcbnncaaGreatDoor.Am
