/- Parts of the proof: Txt1, TxtN, Txt2, Txt3, Mul1, Div1, Mul2, Rat2, Txt4, Txt5, DecT, Dec4, Dec5, DecP, YuP, YuB, Float3, Rise1, AmLaw, AmTT, YuQ, FloT, FloTL. -/
import Derived.Test.YtlelpbaeplcfiaaDoorPc
set_option linter.unusedVariables false
set_option linter.unusedSimpArgs false
set_option maxRecDepth 100000
namespace Go.Proofs.YtlelpbaeplcfiaaDoor.Am
section
open Go.RowKit
theorem o_fs (b : Bool) : Eqn Tryd.prog o_be [.d (.bool b)] [] (.d (.int .i64 (if b then 1 else 0))) [] := by
 refine Eqn.pure o_bg Plain.ok ?_
 simp only [o_bf]
 cases b
 ·refine A00 ?_; try with_reducible exact tt
 ·refine A00 ?_; try with_reducible exact tt
theorem o_ft (b : Nat) (hb : b ≤ 64) : Eqn Tryd.prog o_bb [.d (.int .i64 b)] [] (.d (.int .i64 (b * 78913 / 262144 : Nat))) [] := by
 refine Eqn.pure o_bd Plain.ok ?_
 simp only [o_bc]
 have e1 : IntKind.i64.wrap ((b : Int) * 78913) = ((b * 78913 : Nat) : Int) := by rw [w64 (by omega) (by omega)]; omega
 have e2 : ((b * 78913 : Nat) : Int) / 262144 = ((b * 78913 / 262144 : Nat) : Int) := by omega
 refine A10 (fs e1 e2) ?_; try with_reducible exact tt
def pow10V : List D := [.int .u64 1, .int .u64 10, .int .u64 100, .int .u64 1000, .int .u64 10000, .int .u64 100000, .int .u64 1000000, .int .u64 10000000, .int .u64 100000000, .int .u64 1000000000, .int .u64 10000000000, .int .u64 100000000000, .int .u64 1000000000000, .int .u64 10000000000000, .int .u64 100000000000000, .int .u64 1000000000000000, .int .u64 10000000000000000, .int .u64 100000000000000000, .int .u64 1000000000000000000, .int .u64 10000000000000000000]
theorem o_fu : pow10V.length = 20 := rfl
theorem o_fv : pow10V = (List.range 20).map fun k : Nat => D.int .u64 ((10 ^ k : Nat) : Int) := by kernel_rfl
theorem o_fw : ∀ (k : Nat) (h : k < pow10V.length), pow10V[k]'h = D.int .u64 ((10 ^ k : Nat) : Int) := by
 rw [o_fv]
 intro k h
 simp
theorem o_fx (n : Nat) (h0 : 0 < n) (h1 : n < 18446744073709551616) : Eqn Tryd.prog o_aw [.d (.int .u64 n)] [] (.d (.int .i64 (ndig n : Nat))) [] := by
 refine Eqn.pure o_ay Plain.ok ?_
 have hb : bitsN n ≤ 64 := o_dp (by omega)
 have hl := o_dy n h1
 have hlt := o_do n
 have hb0 : 0 < bitsN n := by
  rcases Nat.eq_zero_or_pos (bitsN n) with h | h
  ·rw [h] at hlt; simp at hlt; omega
  ·exact h
 have hge : 2 ^ (bitsN n - 1) ≤ n := by
  rcases Nat.lt_or_ge n (2 ^ (bitsN n - 1)) with h | h
  ·have := o_dp h; omega
  ·exact h
 obtain ⟨g1, g2⟩ := o_fq n (bitsN n) hge hlt hb0 hb
 have hlo := o_ft (bitsN n) hb
 generalize bitsN n * 78913 / 262144 = k at *
 have hbo := o_fs (decide (10 ^ k ≤ n))
 have hgt := o_fw k
 obtain ⟨t, ht⟩ : ∃ t, t = 10 ^ k := ⟨_, rfl⟩
 rw [← ht] at hgt g2 hbo
 have hkl : k < 20 := by omega
 have hki : (k : Int) < 20 := by omega
 have hkl2 : k < pow10V.length := by rw [o_fu]; omega
 have hge2 : decide ((t : Int) ≤ n) = decide (t ≤ n) := by rw [decide_eq_decide]; omega
 simp only [o_ax]
 rw [show [D.int .u64 1, .int .u64 10, .int .u64 100, .int .u64 1000, .int .u64 10000, .int .u64 100000, .int .u64 1000000, .int .u64 10000000, .int .u64 100000000, .int .u64 1000000000, .int .u64 10000000000, .int .u64 100000000000, .int .u64 1000000000000, .int .u64 10000000000000, .int .u64 100000000000000, .int .u64 1000000000000000, .int .u64 10000000000000000, .int .u64 100000000000000000, .int .u64 1000000000000000000, .int .u64 10000000000000000000] = pow10V from rfl]
 generalize pow10V = PV at *
 refine A00 ?_; try with_reducible exact tt
 refine CallS.pu (hl) (R0 ?_); try with_reducible exact tt
 refine CallS.pu (hlo) (R1 (fs hkl (fs hki (fs hkl2 (fs hgt hge2)))) ?_); try with_reducible exact tt
 refine CallS.pu (hbo) (R0 ?_); try with_reducible exact tt
 refine Sub1.int ?_
 rw [g2]
 by_cases h : t ≤ n
 ·simp only [h, if_true]; omega
 ·simp only [h, if_false]; omega
end
end Go.Proofs.YtlelpbaeplcfiaaDoor.Am
namespace Go.Proofs.YtlelpbaeplcfiaaDoor.Am
section
theorem u32N (x : Nat) (h : x < 4294967296) : IntKind.u32.wrap (x : Int) = x := by rw [IntKind.wrap_u32]; omega
theorem o_fy (u k : Nat) (h0 : 0 < k) (h : k ≤ 4294967296) : IntKind.u32.wrap ((u : Int).tmod k) = ((u % k : Nat) : Int) := by
 rw [Int.tmod_eq_emod_of_nonneg (by omega), ← Int.natCast_emod]
 exact u32N _ (Nat.lt_of_lt_of_le (Nat.mod_lt _ h0) h)
theorem o_fz (x k : Nat) (h : x < 4294967296) : IntKind.u32.wrap ((x : Int) / k) = ((x / k : Nat) : Int) := by
 rw [← Int.natCast_ediv]
 exact u32N _ (Nat.lt_of_le_of_lt (Nat.div_le_self _ _) h)
theorem o_g0 (x k : Nat) (h : x < 18446744073709551616) : IntKind.u64.wrap ((x : Int) / k) = ((x / k : Nat) : Int) := by
 rw [← Int.natCast_ediv]
 have := Nat.div_le_self x k
 generalize x / k = q at *
 rw [IntKind.wrap_u64]; omega
theorem modN (x k : Nat) : (x : Int).tmod k = ((x % k : Nat) : Int) := by rw [Int.tmod_eq_emod_of_nonneg (by omega), ← Int.natCast_emod]
structure D4 (x a b : Nat) : Prop where
 da : IntKind.u32.wrap ((x : Int) / 100) = a
 mb : (x : Int).tmod 100 = b
 la : a < 100
 lb : b < 100
 dig : ∀ u, padN 4 (u * 10000 + x) = [48 + a / 10, 48 + a % 10, 48 + b / 10, 48 + b % 10]
theorem d4 (x : Nat) (hx : x < 10000) : ∃ a b, D4 x a b := by
 refine ⟨x / 100, x % 100, o_fz x 100 (by omega), modN x 100, by omega, by omega, fun u => ?_⟩
 rw [o_fa]
 congr 1
 ·omega
 congr 1
 ·omega
 congr 1
 ·omega
 congr 1
 omega
structure D8 (u x5 x6 x7 : Nat) : Prop where
 m5 : IntKind.u32.wrap ((u : Int).tmod 100000000) = x5
 d6 : IntKind.u32.wrap ((x5 : Int) / 10000) = x6
 m7 : (x5 : Int).tmod 10000 = x7
 l6 : x6 < 10000
 l7 : x7 < 10000
 dig : padN 8 u = padN 4 (u / 100000000 * 10000 + x6) ++ padN 4 (u / 10000 * 10000 + x7)
theorem d8 (u : Nat) : ∃ x5 x6 x7, D8 u x5 x6 x7 := by
 refine ⟨u % 100000000, u % 100000000 / 10000, u % 100000000 % 10000, o_fy u 100000000 (by omega) (by omega), o_fz _ 10000 (by omega), modN _ 10000, by omega, by omega, ?_⟩
 rw [show (8 : Nat) = 4 + 4 from rfl, o_f9, show u / 100000000 * 10000 + u % 100000000 / 10000 = u / 10000 by omega, show u / 10000 * 10000 + u % 100000000 % 10000 = u by omega]
structure Lk (l : ByteArray) (x y z c e : Nat) : Prop where
 wy : IntKind.u32.wrap ((x : Int) * 2) = y
 wz : IntKind.u32.wrap ((y : Int) + 1) = z
 gy : ∀ h, (l.data[y]'h).toNat = c
 gz : ∀ h, (l.data[z]'h).toNat = e
 ny : y < l.size
 nz : z < l.size
 hc : c = 48 + x / 10
 he : e = 48 + x % 10
theorem lk (l : ByteArray) (hl : l.size = 200) (h : ∀ x, x < 100 → (l.data.toList.getD (x * 2) 0).toNat = 48 + x / 10 ∧ (l.data.toList.getD (x * 2 + 1) 0).toNat = 48 + x % 10) (x : Nat) (hx : x < 100) : ∃ y z c e, Lk l x y z c e :=
 ⟨x * 2, x * 2 + 1, 48 + x / 10, 48 + x % 10, by rw [IntKind.wrap_u32]; omega, by rw [IntKind.wrap_u32]; omega, fun k => by have := (h x hx).1; rw [List.getD_eq_getElem?_getD, List.getElem?_eq_getElem (by simpa using k)] at this; simpa using this, fun k => by have := (h x hx).2; rw [List.getD_eq_getElem?_getD, List.getElem?_eq_getElem (by simpa using k)] at this; simpa using this, by omega, by omega, rfl, rfl⟩
theorem w64s (p k m : Nat) (h : p = m + k) (hp : p ≤ 1000) : IntKind.i64.wrap ((p : Int) - k) = m := by rw [IntKind.wrap_i64]; omega
end
end Go.Proofs.YtlelpbaeplcfiaaDoor.Am
namespace Go.Proofs.YtlelpbaeplcfiaaDoor.Am
section
open Go.RowKit
def yV (ws : List Nat) : List V := ws.map fun x : Nat => V.d (.int .u8 x)
theorem o_g1 (ws : List Nat) (j v : Nat) : (yV ws).set j (.d (.int .u8 v)) = yV (ws.set j v) := by simp [yV, List.map_set]
@[simp] theorem o_g2 (ws : List Nat) : (yV ws).length = ws.length := by simp [yV]
@[simp] theorem o_g3 (n : Nat) (ws : List Nat) : V.lowl n (yV ws) = true := by induction ws <;> simp_all [yV]
@[simp] theorem o_g4 (θ : Nat → Nat) (ws : List Nat) : V.rens θ (yV ws) = yV ws := by induction ws <;> simp_all [yV]
def lit2G (i : Nat) : Nat := (lit2.data.toList.getD i 0).toNat
theorem o_g5 : (List.range 100).all (fun x => lit2G (x * 2) == 48 + x / 10 && lit2G (x * 2 + 1) == 48 + x % 10) = true := by kernel_rfl
theorem o_g6 (x : Nat) (h : x < 100) : lit2G (x * 2) = 48 + x / 10 ∧ lit2G (x * 2 + 1) = 48 + x % 10 := by
 have := List.all_eq_true.1 o_g5 x (by simpa using h)
 simpa using this
theorem o_g7 (A R : List Nat) (m x : Nat) : (yV (A ++ (List.replicate (m + 1) 0 ++ R))).set (A.length + m) (.d (.int .u8 x)) = yV (A ++ (List.replicate m 0 ++ x :: R)) := by rw [o_g1, o_fr]

theorem fillF {A : List Nat} {p m : Nat} (h : p = m + 1) : ∀ (R : List Nat) (x : Nat), (yV (A ++ (List.replicate p 0 ++ R))).set (A.length + m) (.d (.int .u8 x)) = yV (A ++ (List.replicate m 0 ++ x :: R)) := by
 subst h; exact fun R x => o_g7 A R m x
def qN (n j : Nat) : Nat := n / 10 ^ (8 * j)
def rN (nd j : Nat) : Nat := nd - 8 * j
set_option maxHeartbeats 8000000 in
theorem o_g8 (T : Nat) (n nd : Nat) (hn : n < 18446744073709551616) (hnd : nd ≤ 20) (hlt : n < 10 ^ nd) (A B : List Nat) (hA : A.length ≤ 1000) :
  Eqn Tryd.prog o_az [.row 0 A.length nd, .d (.int .u64 n)] [⟨T, yV (A ++ (List.replicate nd 0 ++ B))⟩] (.tup []) [⟨T, yV (A ++ (padN nd n ++ B))⟩] := by
 refine Eqn.obj1 o_b1 (by exact Plain.ok) ⟨by simp, by simp⟩ ?_
 have e2 := o_d8
 simp only [o_b0]
 rw [show (⟨#[48, 48, 48, 49, 48, 50, 48, 51, 48, 52, 48, 53, 48, 54, 48, 55, 48, 56, 48, 57, 49, 48, 49, 49, 49, 50, 49, 51, 49, 52, 49, 53, 49, 54, 49, 55, 49, 56, 49, 57, 50, 48, 50, 49, 50, 50, 50, 51, 50, 52, 50, 53, 50, 54, 50, 55, 50, 56, 50, 57, 51, 48, 51, 49, 51, 50, 51, 51, 51, 52, 51, 53, 51, 54, 51, 55, 51, 56, 51, 57, 52, 48, 52, 49, 52, 50, 52, 51, 52, 52, 52, 53, 52, 54, 52, 55, 52, 56, 52, 57, 53, 48, 53, 49, 53, 50, 53, 51, 53, 52, 53, 53, 53, 54, 53, 55, 53, 56, 53, 57, 54, 48, 54, 49, 54, 50, 54, 51, 54, 52, 54, 53, 54, 54, 54, 55, 54, 56, 54, 57, 55, 48, 55, 49, 55, 50, 55, 51, 55, 52, 55, 53, 55, 54, 55, 55, 55, 56, 55, 57, 56, 48, 56, 49, 56, 50, 56, 51, 56, 52, 56, 53, 56, 54, 56, 55, 56, 56, 56, 57, 57, 48, 57, 49, 57, 50, 57, 51, 57, 52, 57, 53, 57, 54, 57, 55, 57, 56, 57, 57]⟩ : ByteArray) = lit2 from rfl]
 have hl2g := o_g6
 unfold lit2G at hl2g
 generalize hl2 : lit2 = l2 at *
 refine A00 ?_; try with_reducible exact tt
 refine AW.loopT (α := Nat) 1 (fun j => [(4, .d (.int .i64 (rN nd j : Nat))), (1, .d (.int .u64 (qN n j : Nat)))]) (fun j => [(0, ⟨T, yV (A ++ (List.replicate (rN nd j) 0 ++ (padN (8 * j) n ++ B)))⟩)]) (fun j => 8 * j ≤ nd) (fun j => nd - 8 * j) 0 ?_ ?_ (by simp) ?_ ?_ ?_
 ·simp
 ·simp
 ·simp [rN, qN]
 ·simp [padN, rN, qN]
 intro j hj
 simp
 have hr0 : rN nd j = nd - 8 * j := rfl
 have hr1 : rN nd (j + 1) = nd - 8 * (j + 1) := rfl
 have hle : qN n j ≤ n := Nat.div_le_self _ _
 have hdd : qN n (j + 1) = qN n j / 100000000 := by rw [qN, qN, Nat.div_div_eq_div_mul, Nat.mul_succ, Nat.pow_add]
 have hpad : ∀ w, padN (w + 8 * j) n = padN w (qN n j) ++ padN (8 * j) n := fun w => by rw [o_f9]; rfl
 by_cases h8 : 8 ≤ rN nd j
 ·have h8' : (8 : Int) ≤ (rN nd j : Nat) := by omega
  replace hpad := hpad 8
  rw [show 8 + 8 * j = 8 * (j + 1) by omega] at hpad
  generalize padN (8 * j) n = X at *
  generalize qN n j = u at *
  generalize rN nd j = p at *
  have hu32 : ∀ x : Nat, x < 4294967296 → IntKind.u32.wrap (x : Int) = x := fun x hx => by rw [IntKind.wrap_u32]; omega
  have hp : p ≤ 1000 := by omega
  have hs1 : 8 * (j + 1) ≤ nd := by omega
  have hs2 : nd - 8 * (j + 1) < nd - 8 * j := by omega
  have du : IntKind.u64.wrap ((u : Int) / 100000000) = (qN n (j + 1) : Nat) := by rw [hdd]; exact o_g0 u 100000000 (by omega)
  generalize hu1 : qN n (j + 1) = u1 at du hdd ⊢
  have hpn : p ≤ nd := by omega
  have hrp : rN nd (j + 1) + 8 = p := by omega
  clear hr0 hr1 hle
  clear hn hlt
  obtain ⟨p1, hp1⟩ : ∃ m, p = m + 1 := ⟨p - 1, by omega⟩
  have w1 : IntKind.i64.wrap ((p : Int) - 1) = p1 := w64s p 1 p1 hp1 hp
  obtain ⟨p2, hp2⟩ : ∃ m, p = m + 2 := ⟨p - 2, by omega⟩
  have w2 : IntKind.i64.wrap ((p : Int) - 2) = p2 := w64s p 2 p2 hp2 hp
  obtain ⟨p3, hp3⟩ : ∃ m, p = m + 3 := ⟨p - 3, by omega⟩
  have w3 : IntKind.i64.wrap ((p : Int) - 3) = p3 := w64s p 3 p3 hp3 hp
  obtain ⟨p4, hp4⟩ : ∃ m, p = m + 4 := ⟨p - 4, by omega⟩
  have w4 : IntKind.i64.wrap ((p : Int) - 4) = p4 := w64s p 4 p4 hp4 hp
  obtain ⟨p5, hp5⟩ : ∃ m, p = m + 5 := ⟨p - 5, by omega⟩
  have w5 : IntKind.i64.wrap ((p : Int) - 5) = p5 := w64s p 5 p5 hp5 hp
  obtain ⟨p6, hp6⟩ : ∃ m, p = m + 6 := ⟨p - 6, by omega⟩
  have w6 : IntKind.i64.wrap ((p : Int) - 6) = p6 := w64s p 6 p6 hp6 hp
  obtain ⟨p7, hp7⟩ : ∃ m, p = m + 7 := ⟨p - 7, by omega⟩
  have w7 : IntKind.i64.wrap ((p : Int) - 7) = p7 := w64s p 7 p7 hp7 hp
  obtain ⟨p8, hp8⟩ : ∃ m, p = m + 8 := ⟨p - 8, by omega⟩
  have w8 : IntKind.i64.wrap ((p : Int) - 8) = p8 := w64s p 8 p8 hp8 hp
  have f1 := fillF (A := A) (p := p) (m := p1) (by omega)
  have f2 := fillF (A := A) (p := p1) (m := p2) (by omega)
  have f3 := fillF (A := A) (p := p2) (m := p3) (by omega)
  have f4 := fillF (A := A) (p := p3) (m := p4) (by omega)
  have f5 := fillF (A := A) (p := p4) (m := p5) (by omega)
  have f6 := fillF (A := A) (p := p5) (m := p6) (by omega)
  have f7 := fillF (A := A) (p := p6) (m := p7) (by omega)
  have f8 := fillF (A := A) (p := p7) (m := p8) (by omega)
  obtain ⟨x5, x6, x7, ⟨m5, d6, m7, l6, l7, dig8⟩⟩ := d8 u
  obtain ⟨a7, b7, ⟨da7, mb7, la7, lb7, dig7⟩⟩ := d4 x7 l7
  obtain ⟨a6, b6, ⟨da6, mb6, la6, lb6, dig6⟩⟩ := d4 x6 l6
  have hlk := lk l2 e2 hl2g
  obtain ⟨yA, zA, cA, eA, ⟨wyA, wzA, gyA, gzA, nyA, nzA, hcA, heA⟩⟩ := hlk b7 lb7
  obtain ⟨yB, zB, cB, eB, ⟨wyB, wzB, gyB, gzB, nyB, nzB, hcB, heB⟩⟩ := hlk a7 la7
  obtain ⟨yC, zC, cC, eC, ⟨wyC, wzC, gyC, gzC, nyC, nzC, hcC, heC⟩⟩ := hlk b6 lb6
  obtain ⟨yD, zD, cD, eD, ⟨wyD, wzD, gyD, gzD, nyD, nzD, hcD, heD⟩⟩ := hlk a6 la6
  rw [dig8, dig6, dig7] at hpad
  rw [← hcA, ← heA, ← hcB, ← heB, ← hcC, ← heC, ← hcD, ← heD] at hpad
  clear hcA heA hcB heB hcC heC hcD heD dig8 dig6 dig7 hlk
  repeat (first | refine AW.seq ?_ | refine AW.block ?_)
  refine AW.reg mix ?_
  (simp -implicitDefEqProofs [h8, h8']; try simp (disch := omega) only [w64, wu64])
  try refine need.of (by first | omega | kernel_rfl) ?_
  refine AW.cond rfl (fun _ => ?_) (fun h => ?_)
  rotate_left
  ·simp at h
  refine AW.skip ?_
  simp
  repeat (first | refine AW.seq ?_ | refine AW.block ?_)
  refine AW.reg mix ?_
  (simp -implicitDefEqProofs [m5]; try simp (disch := omega) only [w64, wu64])
  try refine need.of (by first | omega | kernel_rfl) ?_
  repeat (first | refine AW.seq ?_ | refine AW.block ?_)
  refine AW.reg mix ?_
  (simp -implicitDefEqProofs [du]; try simp (disch := omega) only [w64, wu64])
  try refine need.of (by first | omega | kernel_rfl) ?_
  repeat (first | refine AW.seq ?_ | refine AW.block ?_)
  refine AW.reg mix ?_
  (simp -implicitDefEqProofs [d6, m7]; try simp (disch := omega) only [w64, wu64])
  try refine need.of (by first | omega | kernel_rfl) ?_
  repeat (first | refine AW.seq ?_ | refine AW.block ?_)
  refine AW.reg mix ?_
  (simp -implicitDefEqProofs [da7, mb7, wyA, wyB]; try simp (disch := omega) only [w64, wu64])
  try refine need.of (by first | omega | kernel_rfl) ?_
  repeat (first | refine AW.seq ?_ | refine AW.block ?_)
  refine AW.reg mix ?_
  (simp -implicitDefEqProofs [da6, mb6, wyC, wyD]; try simp (disch := omega) only [w64, wu64])
  try refine need.of (by first | omega | kernel_rfl) ?_
  refine G1 (fs w1 (fs w2 (fs w3 (fs w4 (fs w5 (fs w6 (fs w7 (fs w8 (fs wzA (fs wzB (fs wzC (fs wzD (fs gyA (fs gyB (fs gyC (fs gyD (fs gzA (fs gzB (fs gzC (fs gzD (fs nyA (fs nyB (fs nyC (fs nyD (fs nzA (fs nzB (fs nzC (fs nzD (fs f1 (fs f2 (fs f3 (fs f4 (fs f5 (fs f6 (fs f7 f8))))))))))))))))))))))))))))))))))) ?_; try with_reducible exact tt
  refine ⟨j + 1, hs1, hs2, ⟨Sub1.int (by rw [hu1]), Sub1.int (by omega)⟩, Subs.of ?_⟩
  rw [hpad, show rN nd (j + 1) = p8 by omega]
  simp
 ·have h8' : ¬ (8 : Int) ≤ (rN nd j : Nat) := by omega
  have hul : qN n j < 10 ^ rN nd j := by
   rw [qN, hr0, Nat.div_lt_iff_lt_mul (Nat.pow_pos (by decide)), ← Nat.pow_add, show nd - 8 * j + 8 * j = nd by omega]
   exact hlt
  replace hpad := hpad (rN nd j)
  rw [show rN nd j + 8 * j = nd by omega] at hpad
  have hfin : padN nd n ++ B = padN (rN nd j) (qN n j) ++ (padN (8 * j) n ++ B) := by rw [hpad, List.append_assoc]
  rw [hfin]
  have hp : rN nd j < 8 := by omega
  have hpn : rN nd j ≤ nd := by omega
  generalize padN (8 * j) n ++ B = X at *
  generalize qN n j = u at *
  generalize rN nd j = p at *
  have hu7 : u < 10000000 := Nat.lt_of_lt_of_le hul (Nat.pow_le_pow_right (by decide) (show p ≤ 7 by omega))
  clear hfin hpad hdd hr0 hr1 hle hn hlt hj
  have hlk := lk l2 e2 hl2g
  have du : IntKind.u32.wrap (u : Int) = u := u32N u (by omega)
  refine A10 (fs h8 (fs h8' du)) ?_; try with_reducible exact tt
  by_cases h4 : 4 ≤ p
  ·have h4' : (4 : Int) ≤ p := by omega
   obtain ⟨p4, hp4⟩ : ∃ m, p = m + 4 := ⟨p - 4, by omega⟩
   obtain ⟨p1, hp1⟩ : ∃ m, p = m + 1 := ⟨p - 1, by omega⟩
   obtain ⟨p2, hp2⟩ : ∃ m, p = m + 2 := ⟨p - 2, by omega⟩
   obtain ⟨p3, hp3⟩ : ∃ m, p = m + 3 := ⟨p - 3, by omega⟩
   have w1 : IntKind.i64.wrap ((p : Int) - 1) = p1 := w64s p 1 p1 hp1 (by omega)
   have w2 : IntKind.i64.wrap ((p : Int) - 2) = p2 := w64s p 2 p2 hp2 (by omega)
   have w3 : IntKind.i64.wrap ((p : Int) - 3) = p3 := w64s p 3 p3 hp3 (by omega)
   have w4 : IntKind.i64.wrap ((p : Int) - 4) = p4 := w64s p 4 p4 hp4 (by omega)
   have f1 := fillF (A := A) (p := p) (m := p1) (by omega)
   have f2 := fillF (A := A) (p := p1) (m := p2) (by omega)
   have f3 := fillF (A := A) (p := p2) (m := p3) (by omega)
   have f4 := fillF (A := A) (p := p3) (m := p4) (by omega)
   have hbU4 : u / 10000 < 10 ^ p4 := by rw [Nat.div_lt_iff_lt_mul (by decide), show (10000 : Nat) = 10 ^ 4 from rfl, ← Nat.pow_add, ← hp4]; exact hul
   have hpd4 : padN p u = padN p4 (u / 10000) ++ padN 4 (u / 10000 * 10000 + u % 10000) := by rw [show u / 10000 * 10000 + u % 10000 = u by omega, hp4, o_f9]
   obtain ⟨x4, hx4⟩ : ∃ b, b = u % 10000 := ⟨_, rfl⟩
   have m4 : (u : Int).tmod 10000 = x4 := by rw [hx4]; exact modN u 10000
   have l4 : x4 < 10000 := by rw [hx4]; exact Nat.mod_lt _ (by decide)
   rw [← hx4] at hpd4
   obtain ⟨a7, b7, ⟨da7, mb7, la7, lb7, dig7⟩⟩ := d4 x4 l4
   obtain ⟨yA, zA, cA, eA, ⟨wyA, wzA, gyA, gzA, nyA, nzA, hcA, heA⟩⟩ := hlk b7 lb7
   obtain ⟨yB, zB, cB, eB, ⟨wyB, wzB, gyB, gzB, nyB, nzB, hcB, heB⟩⟩ := hlk a7 la7
   rw [dig7, ← hcA, ← heA, ← hcB, ← heB] at hpd4
   have dU4 : IntKind.u32.wrap ((u : Int) / 10000) = (u / 10000 : Nat) := o_fz u 10000 (by omega)
   have hU74 : u / 10000 < 10000000 := Nat.lt_of_le_of_lt (Nat.div_le_self _ _) hu7
   rw [hpd4]
   clear hx4 hcA heA hcB heB hpd4 dig7
   generalize u / 10000 = u4 at *
   clear hul hu7 du
   refine A10 (fs h4 (fs h4' (fs m4 (fs dU4 (fs da7 (fs mb7 (fs wyA (fs wyB (fs w1 (fs w2 (fs w3 (fs w4 (fs wzA (fs wzB (fs gyA (fs gyB (fs gzA (fs gzB (fs nyA (fs nyB (fs nzA (fs nzB (fs f1 (fs f2 (fs f3 f4))))))))))))))))))))))))) ?_; try with_reducible exact tt
   by_cases h2 : 2 ≤ p4
   ·have h2' : (2 : Int) ≤ p4 := by omega
    obtain ⟨q1, hq1⟩ : ∃ m, p4 = m + 1 := ⟨p4 - 1, by omega⟩
    have v1 : IntKind.i64.wrap ((p4 : Int) - 1) = q1 := w64s p4 1 q1 hq1 (by omega)
    obtain ⟨q2, hq2⟩ : ∃ m, p4 = m + 2 := ⟨p4 - 2, by omega⟩
    have v2 : IntKind.i64.wrap ((p4 : Int) - 2) = q2 := w64s p4 2 q2 hq2 (by omega)
    have t1 := fillF (A := A) (p := p4) (m := q1) (by omega)
    have t2 := fillF (A := A) (p := q1) (m := q2) (by omega)
    have hbW2 : u4 / 100 < 10 ^ q2 := by rw [Nat.div_lt_iff_lt_mul (by decide), show (100 : Nat) = 10 ^ 2 from rfl, ← Nat.pow_add, ← hq2]; exact hbU4
    have hpd2 : padN p4 u4 = padN q2 (u4 / 100) ++ padN 2 u4 := by rw [hq2, o_f9]
    rw [o_fb] at hpd2
    obtain ⟨b2, hb2⟩ : ∃ b, b = u4 % 100 := ⟨_, rfl⟩
    have mb2 : (u4 : Int).tmod 100 = b2 := by rw [hb2]; exact modN u4 100
    have lb2 : b2 < 100 := by rw [hb2]; exact Nat.mod_lt _ (by decide)
    obtain ⟨yE, zE, cE, eE, ⟨wyE, wzE, gyE, gzE, nyE, nzE, hcE, heE⟩⟩ := hlk b2 lb2
    rw [show u4 / 10 % 10 = b2 / 10 by omega, show u4 % 10 = b2 % 10 by omega, ← hcE, ← heE] at hpd2
    have dU2 : IntKind.u32.wrap ((u4 : Int) / 100) = (u4 / 100 : Nat) := o_fz u4 100 (by omega)
    have hU72 : u4 / 100 < 10000000 := Nat.lt_of_le_of_lt (Nat.div_le_self _ _) hU74
    rw [hpd2]
    clear hb2 hcE heE hpd2
    generalize u4 / 100 = W2 at *
    clear hbU4 hU74
    refine A10 (fs h2 (fs h2' (fs mb2 (fs wyE (fs dU2 (fs v1 (fs v2 (fs wzE (fs gyE (fs gzE (fs nyE (fs nzE (fs t1 t2))))))))))))) ?_; try with_reducible exact tt
    by_cases h1 : 0 < q2
    ·have h1' : (0 : Int) < q2 := by omega
     have hP1 : q2 = 0 + 1 := by omega
     have hU : W2 < 10 := by rw [hP1] at hbW2; simpa using hbW2
     obtain ⟨c, hc⟩ : ∃ c, c = 48 + W2 := ⟨_, rfl⟩
     have o1 : IntKind.u32.wrap (48 + (W2 : Int)) = c := by rw [IntKind.wrap_u32]; omega
     have o2 : IntKind.u8.wrap (c : Int) = c := by rw [IntKind.wrap_u8]; omega
     have f := fillF (A := A) (p := q2) (m := 0) hP1
     rw [Nat.add_zero] at f
     have hnd0 : (0 : Int) < nd := by omega
     have hnd1 : 0 < nd := by omega
     refine A10 (fs h1 (fs h1' (fs o1 (fs o2 (fs f (fs hnd0 hnd1)))))) ?_; try with_reducible exact tt
     refine Subs.of ?_
     rw [hP1, hc]
     simp [padN, Nat.mod_eq_of_lt hU]
    ·have h1' : ¬ (0 : Int) < q2 := by omega
     have hP0 : q2 = 0 := by omega
     subst hP0
     refine A10 (fs h1 h1') ?_; try with_reducible exact tt
     exact Subs.of (by simp [padN])
   ·have h2' : ¬ (2 : Int) ≤ p4 := by omega
    refine A10 (fs h2 h2') ?_; try with_reducible exact tt
    by_cases h1 : 0 < p4
    ·have h1' : (0 : Int) < p4 := by omega
     have hP1 : p4 = 0 + 1 := by omega
     have hU : u4 < 10 := by rw [hP1] at hbU4; simpa using hbU4
     obtain ⟨c, hc⟩ : ∃ c, c = 48 + u4 := ⟨_, rfl⟩
     have o1 : IntKind.u32.wrap (48 + (u4 : Int)) = c := by rw [IntKind.wrap_u32]; omega
     have o2 : IntKind.u8.wrap (c : Int) = c := by rw [IntKind.wrap_u8]; omega
     have f := fillF (A := A) (p := p4) (m := 0) hP1
     rw [Nat.add_zero] at f
     have hnd0 : (0 : Int) < nd := by omega
     have hnd1 : 0 < nd := by omega
     refine A10 (fs h1 (fs h1' (fs o1 (fs o2 (fs f (fs hnd0 hnd1)))))) ?_; try with_reducible exact tt
     refine Subs.of ?_
     rw [hP1, hc]
     simp [padN, Nat.mod_eq_of_lt hU]
    ·have h1' : ¬ (0 : Int) < p4 := by omega
     have hP0 : p4 = 0 := by omega
     subst hP0
     refine A10 (fs h1 h1') ?_; try with_reducible exact tt
     exact Subs.of (by simp [padN])
  ·have h4' : ¬ (4 : Int) ≤ p := by omega
   refine A10 (fs h4 h4') ?_; try with_reducible exact tt
   by_cases h2 : 2 ≤ p
   ·have h2' : (2 : Int) ≤ p := by omega
    obtain ⟨q1, hq1⟩ : ∃ m, p = m + 1 := ⟨p - 1, by omega⟩
    have v1 : IntKind.i64.wrap ((p : Int) - 1) = q1 := w64s p 1 q1 hq1 (by omega)
    obtain ⟨q2, hq2⟩ : ∃ m, p = m + 2 := ⟨p - 2, by omega⟩
    have v2 : IntKind.i64.wrap ((p : Int) - 2) = q2 := w64s p 2 q2 hq2 (by omega)
    have t1 := fillF (A := A) (p := p) (m := q1) (by omega)
    have t2 := fillF (A := A) (p := q1) (m := q2) (by omega)
    have hbW2 : u / 100 < 10 ^ q2 := by rw [Nat.div_lt_iff_lt_mul (by decide), show (100 : Nat) = 10 ^ 2 from rfl, ← Nat.pow_add, ← hq2]; exact hul
    have hpd2 : padN p u = padN q2 (u / 100) ++ padN 2 u := by rw [hq2, o_f9]
    rw [o_fb] at hpd2
    obtain ⟨b2, hb2⟩ : ∃ b, b = u % 100 := ⟨_, rfl⟩
    have mb2 : (u : Int).tmod 100 = b2 := by rw [hb2]; exact modN u 100
    have lb2 : b2 < 100 := by rw [hb2]; exact Nat.mod_lt _ (by decide)
    obtain ⟨yE, zE, cE, eE, ⟨wyE, wzE, gyE, gzE, nyE, nzE, hcE, heE⟩⟩ := hlk b2 lb2
    rw [show u / 10 % 10 = b2 / 10 by omega, show u % 10 = b2 % 10 by omega, ← hcE, ← heE] at hpd2
    have dU2 : IntKind.u32.wrap ((u : Int) / 100) = (u / 100 : Nat) := o_fz u 100 (by omega)
    have hU72 : u / 100 < 10000000 := Nat.lt_of_le_of_lt (Nat.div_le_self _ _) hu7
    rw [hpd2]
    clear hb2 hcE heE hpd2
    generalize u / 100 = W2 at *
    clear hul hu7
    refine A10 (fs h2 (fs h2' (fs mb2 (fs wyE (fs dU2 (fs v1 (fs v2 (fs wzE (fs gyE (fs gzE (fs nyE (fs nzE (fs t1 t2))))))))))))) ?_; try with_reducible exact tt
    by_cases h1 : 0 < q2
    ·have h1' : (0 : Int) < q2 := by omega
     have hP1 : q2 = 0 + 1 := by omega
     have hU : W2 < 10 := by rw [hP1] at hbW2; simpa using hbW2
     obtain ⟨c, hc⟩ : ∃ c, c = 48 + W2 := ⟨_, rfl⟩
     have o1 : IntKind.u32.wrap (48 + (W2 : Int)) = c := by rw [IntKind.wrap_u32]; omega
     have o2 : IntKind.u8.wrap (c : Int) = c := by rw [IntKind.wrap_u8]; omega
     have f := fillF (A := A) (p := q2) (m := 0) hP1
     rw [Nat.add_zero] at f
     have hnd0 : (0 : Int) < nd := by omega
     have hnd1 : 0 < nd := by omega
     refine A10 (fs h1 (fs h1' (fs o1 (fs o2 (fs f (fs hnd0 hnd1)))))) ?_; try with_reducible exact tt
     refine Subs.of ?_
     rw [hP1, hc]
     simp [padN, Nat.mod_eq_of_lt hU]
    ·have h1' : ¬ (0 : Int) < q2 := by omega
     have hP0 : q2 = 0 := by omega
     subst hP0
     refine A10 (fs h1 h1') ?_; try with_reducible exact tt
     exact Subs.of (by simp [padN])
   ·have h2' : ¬ (2 : Int) ≤ p := by omega
    refine A10 (fs h2 h2') ?_; try with_reducible exact tt
    by_cases h1 : 0 < p
    ·have h1' : (0 : Int) < p := by omega
     have hP1 : p = 0 + 1 := by omega
     have hU : u < 10 := by rw [hP1] at hul; simpa using hul
     obtain ⟨c, hc⟩ : ∃ c, c = 48 + u := ⟨_, rfl⟩
     have o1 : IntKind.u32.wrap (48 + (u : Int)) = c := by rw [IntKind.wrap_u32]; omega
     have o2 : IntKind.u8.wrap (c : Int) = c := by rw [IntKind.wrap_u8]; omega
     have f := fillF (A := A) (p := p) (m := 0) hP1
     rw [Nat.add_zero] at f
     have hnd0 : (0 : Int) < nd := by omega
     have hnd1 : 0 < nd := by omega
     refine A10 (fs h1 (fs h1' (fs o1 (fs o2 (fs f (fs hnd0 hnd1)))))) ?_; try with_reducible exact tt
     refine Subs.of ?_
     rw [hP1, hc]
     simp [padN, Nat.mod_eq_of_lt hU]
    ·have h1' : ¬ (0 : Int) < p := by omega
     have hP0 : p = 0 := by omega
     subst hP0
     refine A10 (fs h1 h1') ?_; try with_reducible exact tt
     exact Subs.of (by simp [padN])
end
end Go.Proofs.YtlelpbaeplcfiaaDoor.Am
namespace Go.Proofs.YtlelpbaeplcfiaaDoor.Am
section
open Go.RowKit
@[simp] theorem o_g9 : ∀ l : List Nat, intsV (yV l) = some (l.map fun n : Nat => (n : Int))
 | [] => rfl
 | x :: l => by
  have := o_g9 l
  unfold yV at this ⊢
  rw [List.map_cons, intsV, this]
  rfl
theorem o_ga (l : List Nat) : strOf (l.map fun n : Nat => (n : Int)) = bst l := by
 unfold strOf bst
 rw [List.map_map]
 congr 1
theorem o_gb : ((List.range 10).all fun n => (lit1.extract n (n + 1)).data.toList == [UInt8.ofNat (48 + n)]) = true ∧ ((List.range 100).all fun n => n < 10 || (lit2.extract (n * 2) (n * 2 + 2)).data.toList == [UInt8.ofNat (48 + n / 10), UInt8.ofNat (48 + n % 10)]) = true := ⟨by kernel_rfl, by kernel_rfl⟩
theorem o_gc (n : Nat) (h : n < 100) : smallS n = txt n := by
 have key : ∀ (s : ByteArray) (l : List UInt8), s.data.toList = l → s = ⟨l.toArray⟩ := by
  rintro ⟨a⟩ l rfl
  rfl
 unfold smallS
 split
 ·rename_i h10
  have := List.all_eq_true.1 o_gb.1 n (by simpa using h10)
  simp only [beq_iff_eq] at this
  rw [key _ _ this, txt, decN, ndig, if_pos h10]
  simp [padN, bst, Nat.mod_eq_of_lt h10]
 ·rename_i h10
  have := List.all_eq_true.1 o_gb.2 n (by simpa using h)
  simp only [h10, decide_false, Bool.false_or, beq_iff_eq] at this
  have h1 : n / 10 < 10 := by omega
  rw [key _ _ this, txt, decN, ndig, if_neg h10, ndig, if_pos h1]
  simp [padN, bst, Nat.mod_eq_of_lt h1]
theorem o_gd (n : Nat) (hn : n < 18446744073709551616) : Eqn Tryd.prog o_9t [.d (.int .u64 n), .d (.int .i64 10)] [] (.d (.str (txt n))) [] := by
 by_cases h100 : n < 100
 ·rw [← o_gc n h100]; exact o_de n h100
 refine Eqn.pure o_9v (o_5f _) ?_
 simp only [o_9u]
 have h1 : ¬ (n : Int) < 100 := by omega
 have hnd := o_fx n (by omega) hn
 have hlt := o_fh n
 have hle := o_fi n 20 (Nat.lt_trans hn (by decide)) (by decide)
 have htx : txt n = bst (padN (ndig n) n) := rfl
 rw [htx]
 generalize ndig n = nd at *
 have hf := o_g8 112 n nd hn hle hlt [] (List.replicate (24 - nd) 0) (by simp)
 have hz : yV ([] ++ (List.replicate nd 0 ++ List.replicate (24 - nd) 0)) = List.replicate 24 (V.d (.int .u8 0)) := by
  rw [List.nil_append, List.replicate_append_replicate, show nd + (24 - nd) = 24 by omega]; rfl
 rw [hz] at hf
 rw [List.nil_append, List.length_nil] at hf
 have htk : (yV (padN nd n ++ List.replicate (24 - nd) 0)).take nd = yV (padN nd n) := by
  unfold yV
  rw [List.map_append, List.take_append_of_le_length (by rw [List.length_map, o_f8]; exact Nat.le_refl _), List.take_of_length_le (by rw [List.length_map, o_f8]; exact Nat.le_refl _)]
 have hln : (padN nd n).length = nd := o_f8 _ _
 have hst := o_ga (padN nd n)
 have hni : (nd : Int) ≤ 24 := by omega
 refine A10 (fs h100 h1) ?_; try with_reducible exact tt
 refine CallS.pu (hnd) (R1 hni ?_); try with_reducible exact tt
 refine CallS.g [0] (hf) (R1 (fs hni (fs htk (fs hln hst))) ?_); try with_reducible exact tt
 done
end
end Go.Proofs.YtlelpbaeplcfiaaDoor.Am
namespace Go.Proofs.YtlelpbaeplcfiaaDoor.Am
section
open Go.RowKit
theorem and32 (x : Nat) (h : x < 18446744073709551616) : bits BinOp.and IntKind.u64 (x : Int) 4294967295 = ((x % 4294967296 : Nat) : Int) := by
 have := bits_and_u64_nat x 4294967295 h (by omega)
 rw [show ((4294967295 : Nat) : Int) = 4294967295 by rfl] at this
 rw [this, show (4294967295 : Nat) = 2 ^ 32 - 1 by rfl, Nat.and_two_pow_sub_one_eq_mod]

theorem o_ge (x y : Nat) (hx : x < 18446744073709551616) (hy : y < 18446744073709551616) :
  let x0 := x % 4294967296; let x1 := x / 4294967296; let y0 := y % 4294967296; let y1 := y / 4294967296
  let w0 := x0 * y0; let t := x1 * y0 + w0 / 4294967296; let w1 := t % 4294967296 + x0 * y1
  w0 < 18446744073709551616 ∧ x1 * y0 < 18446744073709551616 ∧ t < 18446744073709551616 ∧ x0 * y1 < 18446744073709551616 ∧ w1 < 18446744073709551616 ∧ x1 * y1 < 18446744073709551616 ∧
  x1 * y1 + t / 4294967296 < 18446744073709551616 ∧ x1 * y1 + t / 4294967296 + w1 / 4294967296 < 18446744073709551616 ∧
  x * y = (x1 * y1 + t / 4294967296 + w1 / 4294967296) * 18446744073709551616 + x * y % 18446744073709551616 := by
 intro x0 x1 y0 y1 w0 t w1
 have hx0 : x0 < 4294967296 := Nat.mod_lt _ (by decide)
 have hy0 : y0 < 4294967296 := Nat.mod_lt _ (by decide)
 have hx1 : x1 < 4294967296 := by simp only [x1]; omega
 have hy1 : y1 < 4294967296 := by simp only [y1]; omega
 have ex : x = x1 * 4294967296 + x0 := by simp only [x1, x0]; omega
 have ey : y = y1 * 4294967296 + y0 := by simp only [y1, y0]; omega
 have b : ∀ {a c : Nat}, a < 4294967296 → c < 4294967296 → a * c ≤ 18446744065119617025 := fun {a c} ha hc => by
  have := Nat.mul_le_mul (show a ≤ 4294967295 by omega) (show c ≤ 4294967295 by omega)
  omega
 have b00 := b hx0 hy0
 have b10 := b hx1 hy0
 have b01 := b hx0 hy1
 have b11 := b hx1 hy1
 have exy : x * y = x1 * y1 * 18446744073709551616 + (x1 * y0 + x0 * y1) * 4294967296 + x0 * y0 := by
  rw [ex, ey]
  simp only [Nat.add_mul, Nat.mul_add]
  have e1 : x1 * 4294967296 * (y1 * 4294967296) = x1 * y1 * 18446744073709551616 := by
   rw [Nat.mul_mul_mul_comm]
  have e2 : x1 * 4294967296 * y0 = x1 * y0 * 4294967296 := by rw [Nat.mul_right_comm]
  have e3 : x0 * (y1 * 4294967296) = x0 * y1 * 4294967296 := by rw [Nat.mul_assoc]
  rw [e1, e2, e3]; omega
 have hw0 : w0 = x0 * y0 := rfl
 generalize x * y = xy at exy ⊢
 generalize x0 * y0 = a00 at *
 have ht : t = x1 * y0 + w0 / 4294967296 := rfl
 generalize x1 * y0 = a10 at *
 have hw1 : w1 = t % 4294967296 + x0 * y1 := rfl
 generalize x0 * y1 = a01 at *
 generalize x1 * y1 = a11 at *
 clear_value w0 t w1
 omega

theorem o_gf (x y : Nat) (hx : x < 18446744073709551616) (hy : y < 18446744073709551616) : Eqn Tryd.prog o_b2 [.d (.int .u64 x), .d (.int .u64 y)] [] (.tup [.d (.int .u64 (x * y / 18446744073709551616 : Nat)), .d (.int .u64 (x * y % 18446744073709551616 : Nat))]) [] := by
 refine Eqn.pure o_b4 (o_cb _ _) ?_
 simp only [o_b3]
 have hp := o_ge x y hx hy
 simp only at hp
 have a1 := and32 x hx
 have a2 := and32 y hy
 have d1 : (x : Int) / 4294967296 = (x / 4294967296 : Nat) := rfl
 have d2 : (y : Int) / 4294967296 = (y / 4294967296 : Nat) := rfl
 have l1 : x % 4294967296 < 4294967296 := Nat.mod_lt _ (by decide)
 generalize x % 4294967296 = x0 at hp a1 l1
 generalize x / 4294967296 = x1 at hp d1
 generalize y % 4294967296 = y0 at hp a2
 generalize y / 4294967296 = y1 at hp d2
 obtain ⟨p1, p2, p3, p4, p5, p6, p7, p8, p9⟩ := hp
 have m1 : IntKind.u64.wrap ((x0 : Int) * y0) = (x0 * y0 : Nat) := by rw [← Int.natCast_mul]; exact wu64 (by omega) (by omega)
 have m2 : IntKind.u64.wrap ((x1 : Int) * y0) = (x1 * y0 : Nat) := by rw [← Int.natCast_mul]; exact wu64 (by omega) (by omega)
 have m3 : IntKind.u64.wrap ((x0 : Int) * y1) = (x0 * y1 : Nat) := by rw [← Int.natCast_mul]; exact wu64 (by omega) (by omega)
 have m4 : IntKind.u64.wrap ((x1 : Int) * y1) = (x1 * y1 : Nat) := by rw [← Int.natCast_mul]; exact wu64 (by omega) (by omega)
 have m5 : IntKind.u64.wrap ((x : Int) * y) = (x * y % 18446744073709551616 : Nat) := by rw [IntKind.wrap_u64, Int.natCast_emod, Int.natCast_mul]; rfl
 have lo : x * y % 18446744073709551616 < 18446744073709551616 := Nat.mod_lt _ (by decide)
 generalize x * y % 18446744073709551616 = low at *
 generalize x * y = xy at *
 generalize x0 * y0 = a00 at *
 generalize x1 * y0 = a10 at *
 generalize x0 * y1 = a01 at *
 generalize x1 * y1 = a11 at *
 have q1 : (a00 : Int) / 4294967296 = (a00 / 4294967296 : Nat) := rfl
 generalize a00 / 4294967296 = b0 at *
 have s1 : IntKind.u64.wrap ((a10 : Int) + b0) = (a10 + b0 : Nat) := wu64 (by omega) (by omega)
 have a3 := and32 (a10 + b0) p3
 have q2 : ((a10 + b0 : Nat) : Int) / 4294967296 = ((a10 + b0) / 4294967296 : Nat) := rfl
 generalize (a10 + b0) / 4294967296 = t1 at *
 generalize (a10 + b0) % 4294967296 = t0 at *
 generalize a10 + b0 = t at *
 have s2 : IntKind.u64.wrap ((t0 : Int) + a01) = (t0 + a01 : Nat) := wu64 (by omega) (by omega)
 have q3 : ((t0 + a01 : Nat) : Int) / 4294967296 = ((t0 + a01) / 4294967296 : Nat) := rfl
 generalize (t0 + a01) / 4294967296 = v1 at *
 generalize t0 + a01 = v at *
 have s3 : IntKind.u64.wrap ((a11 : Int) + t1) = (a11 + t1 : Nat) := wu64 (by omega) (by omega)
 have s4 : IntKind.u64.wrap (((a11 + t1 : Nat) : Int) + v1) = (a11 + t1 + v1 : Nat) := wu64 (by omega) (by omega)
 have fin : xy / 18446744073709551616 = a11 + t1 + v1 := by omega
 rw [fin]
 generalize a11 + t1 + v1 = hi at *
 generalize a11 + t1 = r at *
 refine G1 (fs a1 (fs a2 (fs d1 (fs d2 (fs m1 (fs m2 (fs m3 (fs m4 (fs m5 (fs q1 (fs s1 (fs a3 (fs q2 (fs s2 (fs q3 (fs s3 s4)))))))))))))))) ?_; try with_reducible exact tt
end
end Go.Proofs.YtlelpbaeplcfiaaDoor.Am
namespace Go.Proofs.YtlelpbaeplcfiaaDoor.Am
section
open Go.RowKit
theorem o_gg (hi lo y : Nat) (h0 : hi < y) (hl : lo < 18446744073709551616) (hy : y < 18446744073709551616) :
  ∃ s Y u v : Nat, s = 64 - bitsN y ∧ s ≤ 63 ∧ y * 2 ^ s = Y ∧ Y < 18446744073709551616 ∧ 9223372036854775808 ≤ Y ∧ hi * 2 ^ s < 18446744073709551616 ∧ hi * 2 ^ s ||| lo / 2 ^ (64 - s) = u ∧ lo * 2 ^ s % 18446744073709551616 = v ∧ u < Y ∧ v < 18446744073709551616 ∧
   (hi * 18446744073709551616 + lo) * 2 ^ s = u * 18446744073709551616 + v := by
 obtain ⟨b1, b2⟩ := o_dr (n := y) (by omega)
 have b3 := o_do y
 have b4 : bitsN y ≤ 64 := o_dp (by omega)
 have hs : 64 - bitsN y ≤ 63 := by omega
 have hY1 : y * 2 ^ (64 - bitsN y) < 18446744073709551616 := by
  have : 2 ^ bitsN y * 2 ^ (64 - bitsN y) = 18446744073709551616 := by rw [← Nat.pow_add, show bitsN y + (64 - bitsN y) = 64 by omega]
  rw [← this]
  exact Nat.mul_lt_mul_of_pos_right b3 (Nat.two_pow_pos _)
 have hY2 : 9223372036854775808 ≤ y * 2 ^ (64 - bitsN y) := by
  have : 2 ^ (bitsN y - 1) * 2 ^ (64 - bitsN y) = 9223372036854775808 := by rw [← Nat.pow_add, show bitsN y - 1 + (64 - bitsN y) = 63 by omega]
  rw [← this]
  exact Nat.mul_le_mul_right _ b1
 generalize 64 - bitsN y = s at *
 have hB : (18446744073709551616 : Nat) = 2 ^ s * 2 ^ (64 - s) := by rw [← Nat.pow_add, show s + (64 - s) = 64 by omega]
 have hp := Nat.two_pow_pos s
 have hp' := Nat.two_pow_pos (64 - s)
 have hh : hi * 2 ^ s < y * 2 ^ s := Nat.mul_lt_mul_of_pos_right h0 hp
 have hlq : lo / 2 ^ (64 - s) < 2 ^ s := by rw [Nat.div_lt_iff_lt_mul hp', ← hB]; exact hl
 have hor : hi * 2 ^ s ||| lo / 2 ^ (64 - s) = hi * 2 ^ s + lo / 2 ^ (64 - s) := by
  rw [Nat.mul_comm, ← Nat.two_pow_add_eq_or_of_lt hlq]
 have hlo : lo * 2 ^ s = lo / 2 ^ (64 - s) * 18446744073709551616 + lo * 2 ^ s % 18446744073709551616 := by
  have h1 : lo * 2 ^ s / 18446744073709551616 = lo / 2 ^ (64 - s) := by
   conv => lhs; rw [hB]
   rw [Nat.mul_comm lo, Nat.mul_div_mul_left _ _ hp]
  have h2 := Nat.div_add_mod (lo * 2 ^ s) 18446744073709551616
  rw [h1] at h2
  omega
 have hlm : lo * 2 ^ s % 18446744073709551616 < 18446744073709551616 := Nat.mod_lt _ (by decide)
 have hN : (hi * 18446744073709551616 + lo) * 2 ^ s = (hi * 2 ^ s) * 18446744073709551616 + lo * 2 ^ s := by
  rw [Nat.add_mul, Nat.mul_right_comm]
 refine ⟨s, y * 2 ^ s, hi * 2 ^ s + lo / 2 ^ (64 - s), lo * 2 ^ s % 18446744073709551616, rfl, hs, rfl, hY1, hY2, by omega, hor, rfl, ?_, hlm, ?_⟩
 ·have h1 : (hi + 1) * 2 ^ s ≤ y * 2 ^ s := Nat.mul_le_mul_right _ h0
  rw [Nat.add_mul, Nat.one_mul] at h1
  omega
 ·rw [hN, hlo, Nat.add_mul]
  generalize lo * 2 ^ s % 18446744073709551616 = a at *
  generalize lo / 2 ^ (64 - s) = b at *
  generalize hi * 2 ^ s = c at *
  omega

def hInv (Y1 Y0 u v : Nat) (q r : Nat) : Prop := q * Y1 + r = u ∧ u * 4294967296 + v < (q + 1) * (Y1 * 4294967296 + Y0) ∧ r < 4294967296

theorem o_gh {Y1 Y0 u v : Nat} (h1 : 0 < Y1) (h2 : Y1 < 4294967296) (hv : v < 4294967296) : hInv Y1 Y0 u v (u / Y1) (u % Y1) := by
 refine ⟨?_, o_dv h1 hv, ?_⟩
 ·rw [Nat.mul_comm]; exact Nat.div_add_mod u Y1
 ·have := Nat.mod_lt u h1; omega

set_option maxHeartbeats 8000000 in
theorem o_gi (hi lo y : Nat) (h0 : hi < y) (hl : lo < 18446744073709551616) (hy : y < 18446744073709551616) : Eqn Tryd.prog o_9q [.d (.int .u64 hi), .d (.int .u64 lo), .d (.int .u64 y)] [] (.tup [.d (.int .u64 ((hi * 18446744073709551616 + lo) / y : Nat)), .d (.int .u64 ((hi * 18446744073709551616 + lo) % y : Nat))]) [] := by
 rcases Nat.eq_zero_or_pos hi with rfl | hpos
 ·rw [Nat.zero_mul, Nat.zero_add]
  exact o_cu lo y hl (by omega)
 refine Eqn.pure o_9s (o_cb _ _) ?_
 simp only [o_9r]
 obtain ⟨s, Y, u, v, hs, hs63, hY, hYl, hYg, hhs, hor, hv, hu, hvl, hN⟩ := o_gg hi lo y h0 hl hy
 have hq : (hi * 18446744073709551616 + lo) / y = (u * 18446744073709551616 + v) / Y := by rw [← hN, ← hY]; exact o_dw.1.symm
 have hr : (hi * 18446744073709551616 + lo) % y = (u * 18446744073709551616 + v) % Y / 2 ^ s := by rw [← hN, ← hY]; exact o_dw.2.symm
 rw [hq, hr]
 clear hq hr hN
 obtain ⟨Qf, hQf⟩ : ∃ Qf, Qf = (u * 18446744073709551616 + v) / Y := ⟨_, rfl⟩
 obtain ⟨Rf, hRf⟩ : ∃ Rf, Rf = (u * 18446744073709551616 + v) % Y / 2 ^ s := ⟨_, rfl⟩
 rw [← hQf, ← hRf]
 have h1 : ¬ y = 0 := by omega
 have h2 : ¬ (y : Int) ≤ hi := by omega
 have h3 : ¬ hi = 0 := by omega
 have h1' : ¬ (y : Int) = 0 := by omega
 have h3' : ¬ (hi : Int) = 0 := by omega
 refine G1 (fs h1 h1') ?_; try with_reducible exact tt
 refine AW.cond rfl (fun h => ?_) (fun h => ?_)
 ·simp [h1] at h
 refine G1 h2 ?_; try with_reducible exact tt
 refine AW.cond rfl (fun h => ?_) (fun h => ?_)
 ·simp [h2] at h
 refine G1 (fs h3 h3') ?_; try with_reducible exact tt
 refine AW.cond rfl (fun h => ?_) (fun h => ?_)
 ·simp [h3] at h
 refine G0 ?_; try with_reducible exact tt
 have hlead := o_dz y hy
 rw [← hs] at hlead
 have hq1' := Nat.div_add_mod Y 4294967296
 have hY0' : Y % 4294967296 < 4294967296 := Nat.mod_lt _ (by decide)
 have hv' := Nat.div_add_mod v 4294967296
 have hv0' : v % 4294967296 < 4294967296 := Nat.mod_lt _ (by decide)
 have f1 : IntKind.u64.wrap (s : Int) = s := wu64 (by omega) (by omega)
 have f2 : IntKind.u64.wrap ((y : Int) * 2 ^ s) = Y := by
  rw [show (y : Int) * 2 ^ s = ((y * 2 ^ s : Nat) : Int) by rw [Int.natCast_mul, Int.natCast_pow]; rfl, hY]; exact wu64 (by omega) (by omega)
 have f3 : (Y : Int) / 4294967296 = (Y / 4294967296 : Nat) := rfl
 have f4 := and32 Y hYl
 have f5 : IntKind.u64.wrap ((hi : Int) * 2 ^ s) = (hi * 2 ^ s : Nat) := by
  rw [show (hi : Int) * 2 ^ s = ((hi * 2 ^ s : Nat) : Int) by rw [Int.natCast_mul, Int.natCast_pow]; rfl]; exact wu64 (by omega) (by omega)
 have f6 : IntKind.u64.wrap ((64 : Int) - s) = (64 : Int) - s := wu64 (by omega) (by omega)
 have f7 : ((64 : Int) - s).toNat = 64 - s := by omega
 have f8 : (lo : Int) / 2 ^ (64 - s) = (lo / 2 ^ (64 - s) : Nat) := by rw [Int.natCast_ediv, Int.natCast_pow]; rfl
 have hll : lo / 2 ^ (64 - s) ≤ lo := Nat.div_le_self _ _
 have f9 := bits_or_u64_nat (hi * 2 ^ s) (lo / 2 ^ (64 - s)) hhs (by omega)
 rw [hor] at f9
 have f10 : IntKind.u64.wrap ((lo : Int) * 2 ^ s) = v := by
  rw [IntKind.wrap_u64, show (lo : Int) * 2 ^ s = ((lo * 2 ^ s : Nat) : Int) by rw [Int.natCast_mul, Int.natCast_pow]; rfl, ← hv]; rfl
 have f11 : (v : Int) / 4294967296 = (v / 4294967296 : Nat) := rfl
 have f12 := and32 v hvl
 have f13 : (s : Int) ≤ 64 := by omega
 have f14 : (0 : Int) ≤ 64 - s := by omega
 have f15 : (64 : Int) - s ≤ 64 := by omega
 generalize Y / 4294967296 = Y1 at *
 generalize Y % 4294967296 = Y0 at *
 generalize v / 4294967296 = v1 at *
 generalize v % 4294967296 = v0 at *
 generalize hi * 2 ^ s = h' at *
 generalize lo / 2 ^ (64 - s) = l' at *
 have hYY : Y = Y1 * 4294967296 + Y0 := by omega
 have hvv : v = v1 * 4294967296 + v0 := by omega
 have hY1 : 2147483648 ≤ Y1 := by omega
 have hY1l : Y1 < 4294967296 := by omega
 have hY0 : Y0 < 4294967296 := by omega
 have hv1 : v1 < 4294967296 := by omega
 have hv0 : v0 < 4294967296 := by omega
 have hYn : ¬ (Y1 : Int) = 0 := by omega
 have hYn' : ¬ Y1 = 0 := by omega
 have huq := Nat.div_add_mod u Y1
 have hqle : u / Y1 ≤ u := Nat.div_le_self _ _
 have g1 : IntKind.u64.wrap ((u : Int) / Y1) = (u / Y1 : Nat) := by rw [← Int.natCast_ediv]; generalize u / Y1 = q at *; exact wu64 (by omega) (by omega)
 have g2 : IntKind.u64.wrap (((u / Y1 : Nat) : Int) * Y1) = (u / Y1 * Y1 : Nat) := by
  rw [Nat.mul_comm] at huq
  rw [← Int.natCast_mul]; generalize u / Y1 * Y1 = q at *; exact wu64 (by omega) (by omega)
 have g3 : IntKind.u64.wrap ((u : Int) - (u / Y1 * Y1 : Nat)) = (u % Y1 : Nat) := by
  rw [Nat.mul_comm] at huq
  generalize u / Y1 * Y1 = q at *
  generalize u % Y1 = r at *
  rw [wu64 (by omega) (by omega)]; omega
 obtain ⟨q1, hq1⟩ : ∃ q1, q1 = (u * 4294967296 + v1) / Y := ⟨_, rfl⟩
 have gA : IntKind.u64.wrap ((u : Int) - IntKind.u64.wrap ((u : Int) / Y1 * Y1)) = (u : Int) % Y1 := by
  have h1 : ((u : Int) / Y1 * Y1) = ((u / Y1 : Nat) : Int) * Y1 := by rw [Int.natCast_ediv]
  rw [h1, g2, g3, Int.natCast_emod]
 refine G0 ?_; try with_reducible exact tt
 refine CallS.pu (hlead) (R1 (fs f1 (fs f2 (fs f3 (fs f4 (fs f5 (fs f6 (fs f7 (fs f8 (fs f9 (fs f10 (fs f11 (fs f12 (fs f13 (fs f14 (fs f15 (fs hYn (fs hYn' g1))))))))))))))))) ?_); try with_reducible exact tt
 refine AW.blockCut 0 [(15, .d (.int .u64 q1))] [] (by simp) (by simp) ?_ ?_
 ·-- the half digit 15
  refine AW.loopT (α := Nat × Nat) 0 (fun a => [(15, .d (.int .u64 (a.1 : Int))), (16, .d (.int .u64 (a.2 : Int)))]) (fun _ => []) (fun a => hInv Y1 Y0 u v1 a.1 a.2) (fun a => a.1) (u / Y1, u % Y1) (by simp) (by simp) (o_gh (by omega) (by omega) (by omega)) (by simp [gA]) (by simp) ?_
  rintro ⟨q, r⟩ ⟨i1, i2, i3⟩
  simp only at i1 i2 i3
  have hqY : q * 2147483648 ≤ q * Y1 := Nat.mul_le_mul_left _ hY1
  have hend : q * Y0 ≤ r * 4294967296 + v1 → q1 = q := fun h => by rw [hq1, hYY]; exact o_ds i1 h i2
  have hnext : (4294967296 ≤ q ∨ r * 4294967296 + v1 < q * Y0) → 0 < q ∧ (q - 1) * Y1 + (r + Y1) = u ∧ u * 4294967296 + v1 < (q - 1 + 1) * (Y1 * 4294967296 + Y0) := fun h => o_dt i1 (by omega) (by omega) h
  have hstep : ∀ (T : List V) , (4294967296 ≤ q ∨ r * 4294967296 + v1 < q * Y0) → 0 < q ∧ hInv Y1 Y0 u v1 (q - 1) (r + Y1) ∨ (0 < q ∧ 4294967296 ≤ r + Y1 ∧ q1 = q - 1) := fun _ h => by
   obtain ⟨n1, n2, n3⟩ := hnext h
   rcases Nat.lt_or_ge (r + Y1) 4294967296 with h1 | h1
   ·exact .inl ⟨n1, n2, n3, h1⟩
   ·refine .inr ⟨n1, h1, ?_⟩
    rw [hq1, hYY]
    exact o_ds n2 (o_du n2 (by omega) hY0 h1 _) n3
  have b1 : IntKind.u64.wrap ((r : Int) + Y1) = ((r + Y1 : Nat) : Int) := wu64 (by omega) (by omega)
  have body : (4294967296 ≤ q ∨ r * 4294967296 + v1 < q * Y0) → IntKind.u64.wrap ((q : Int) - 1) = ((q - 1 : Nat) : Int) := fun h => by
   have := (hnext h).1
   rw [wu64 (by omega) (by omega)]; omega
  by_cases c1 : 4294967296 ≤ q
  ·have c1' : (4294967296 : Int) ≤ q := by omega
   refine G1 c1' ?_; try with_reducible exact tt
   refine AW.cond rfl (fun h => ?_) (fun h => ?_)
   ·have e1 := body (.inl c1)
    rcases hstep [] (.inl c1) with ⟨n1, n2⟩ | ⟨n1, n2, n3⟩
    ·have n4 : ¬ (4294967296 : Int) ≤ ((r + Y1 : Nat) : Int) := by have := n2.2.2; omega
     generalize hr' : r + Y1 = r' at *
     generalize hq' : q - 1 = q' at *
     refine G1 (fs e1 (fs b1 n4)) ?_; try with_reducible exact tt
     refine AW.cond rfl (fun h => ?_) (fun h => ?_)
     ·first | (simp [n4] at h; done) | (simp [n4] at h; omega)
     refine G0 ?_; try with_reducible exact tt
     exact ⟨q', r', n2, by omega, by simp, by simp⟩
    ·have n4 : (4294967296 : Int) ≤ ((r + Y1 : Nat) : Int) := by omega
     generalize hr' : r + Y1 = r' at *
     generalize hq' : q - 1 = q' at *
     refine G1 (fs e1 (fs b1 n4)) ?_; try with_reducible exact tt
     refine AW.cond rfl (fun h => ?_) (fun h => ?_)
     ·refine AW.exit ?_
      (try (simp -implicitDefEqProofs; try simp (disch := omega) only [w64, wu64]))
      rw [n3]
      exact Sub1.refl _
     ·first | (simp at h; done) | (simp at h; omega)
   ·simp [c1'] at h
  ·have c1' : ¬ (4294967296 : Int) ≤ q := by omega
   have hqy : q * Y0 ≤ 4294967295 * 4294967295 := Nat.mul_le_mul (by omega) (by omega)
   have e1 : IntKind.u64.wrap ((q : Int) * Y0) = ((q * Y0 : Nat) : Int) := by rw [← Int.natCast_mul]; exact wu64 (by omega) (by omega)
   have e2 : IntKind.u64.wrap (4294967296 * (r : Int)) = ((4294967296 * r : Nat) : Int) := wu64 (by omega) (by omega)
   have e3 : IntKind.u64.wrap (((4294967296 * r : Nat) : Int) + v1) = ((4294967296 * r + v1 : Nat) : Int) := wu64 (by omega) (by omega)
   by_cases c2 : r * 4294967296 + v1 < q * Y0
   ·have c2' : ((4294967296 * r + v1 : Nat) : Int) < ((q * Y0 : Nat) : Int) := by omega
    have e4 := body (.inr c2)
    have hs := hstep [] (.inr c2)
    clear hend hnext hstep body
    generalize q * Y0 = m at *
    generalize 4294967296 * r = m2 at *
    generalize m2 + v1 = m3 at *
    refine G1 (fs c1' (fs e1 (fs e2 (fs e3 c2')))) ?_; try with_reducible exact tt
    refine AW.cond rfl (fun h => ?_) (fun h => ?_)
    ·rcases hs with ⟨n1, n2⟩ | ⟨n1, n2, n3⟩
     ·have n4 : ¬ (4294967296 : Int) ≤ ((r + Y1 : Nat) : Int) := by have := n2.2.2; omega
      generalize hr' : r + Y1 = r' at *
      generalize hq' : q - 1 = q' at *
      refine G1 (fs e4 (fs b1 n4)) ?_; try with_reducible exact tt
      refine AW.cond rfl (fun h => ?_) (fun h => ?_)
      ·first | (simp at h; done) | (simp at h; omega)
      refine G0 ?_; try with_reducible exact tt
      exact ⟨q', r', n2, by omega, by simp, by simp⟩
     ·have n4 : (4294967296 : Int) ≤ ((r + Y1 : Nat) : Int) := by omega
      generalize hr' : r + Y1 = r' at *
      generalize hq' : q - 1 = q' at *
      refine G1 (fs e4 (fs b1 n4)) ?_; try with_reducible exact tt
      refine AW.cond rfl (fun h => ?_) (fun h => ?_)
      ·refine AW.exit ?_
       (try (simp -implicitDefEqProofs; try simp (disch := omega) only [w64, wu64]))
       rw [n3]
       exact Sub1.refl _
      ·first | (simp at h; done) | (simp at h; omega)
    ·first | (simp at h; done) | (simp at h; omega)
   ·have c2' : ¬ ((4294967296 * r + v1 : Nat) : Int) < ((q * Y0 : Nat) : Int) := by omega
    have e4 := hend (by omega)
    clear hend hnext hstep body
    generalize q * Y0 = m at *
    generalize 4294967296 * r = m2 at *
    generalize m2 + v1 = m3 at *
    refine G1 (fs c1' (fs e1 (fs e2 (fs e3 c2')))) ?_; try with_reducible exact tt
    refine AW.cond rfl (fun h => ?_) (fun h => ?_)
    ·first | (simp at h; done) | (simp at h; omega)
    ·refine AW.exit ?_
     (try (simp -implicitDefEqProofs; try simp (disch := omega) only [w64, wu64]))
     rw [e4]
     exact Sub1.refl _
 obtain ⟨r1, hr1⟩ : ∃ r1, r1 = u * 4294967296 + v1 - q1 * Y := ⟨_, rfl⟩
 have hd := Nat.div_add_mod (u * 4294967296 + v1) Y
 have hm := Nat.mod_lt (u * 4294967296 + v1) (show Y > 0 by omega)
 rw [← hq1, Nat.mul_comm] at hd
 have hr1l : r1 < Y := by omega
 have hq1l : q1 < 4294967296 := by
  rw [hq1, Nat.div_lt_iff_lt_mul (by omega)]
  omega
 have p1 : IntKind.u64.wrap ((u : Int) * 4294967296) = (u * 4294967296 % 18446744073709551616 : Nat) := by rw [IntKind.wrap_u64]; rfl
 have p2 : IntKind.u64.wrap (((u * 4294967296 % 18446744073709551616 : Nat) : Int) + v1) = ((u * 4294967296 + v1) % 18446744073709551616 : Nat) := by rw [IntKind.wrap_u64]; omega
 have p3 : IntKind.u64.wrap ((q1 : Int) * Y) = (q1 * Y % 18446744073709551616 : Nat) := by rw [IntKind.wrap_u64, ← Int.natCast_mul]; rfl
 have p4 : IntKind.u64.wrap (((((u * 4294967296 + v1) % 18446744073709551616 : Nat)) : Int) - (q1 * Y % 18446744073709551616 : Nat)) = (r1 : Int) := by
  rw [IntKind.wrap_u64]
  generalize q1 * Y = m at *
  omega
 have hrq := Nat.div_add_mod r1 Y1
 have hrle : r1 / Y1 ≤ r1 := Nat.div_le_self _ _
 have g1' : IntKind.u64.wrap ((r1 : Int) / Y1) = (r1 / Y1 : Nat) := by rw [← Int.natCast_ediv]; generalize r1 / Y1 = q at *; exact wu64 (by omega) (by omega)
 have g2' : IntKind.u64.wrap (((r1 / Y1 : Nat) : Int) * Y1) = (r1 / Y1 * Y1 : Nat) := by
  rw [Nat.mul_comm] at hrq
  rw [← Int.natCast_mul]; generalize r1 / Y1 * Y1 = q at *; exact wu64 (by omega) (by omega)
 have g3' : IntKind.u64.wrap ((r1 : Int) - (r1 / Y1 * Y1 : Nat)) = (r1 % Y1 : Nat) := by
  rw [Nat.mul_comm] at hrq
  generalize r1 / Y1 * Y1 = q at *
  generalize r1 % Y1 = r at *
  rw [wu64 (by omega) (by omega)]; omega
 have gA' : IntKind.u64.wrap ((r1 : Int) - IntKind.u64.wrap ((r1 : Int) / Y1 * Y1)) = (r1 : Int) % Y1 := by
  have h1 : ((r1 : Int) / Y1 * Y1) = ((r1 / Y1 : Nat) : Int) * Y1 := by rw [Int.natCast_ediv]
  rw [h1, g2', g3', Int.natCast_emod]
 have hp := halves' (y := Y) (a := u * 4294967296 + v1) (b := 4294967296) (v0 := v0) (q1 := q1) (q0 := (r1 * 4294967296 + v0) / Y) (by omega) hq1.symm (by rw [← hr1])
 rw [← hr1] at hp
 obtain ⟨q0, hq0⟩ : ∃ q0, q0 = (r1 * 4294967296 + v0) / Y := ⟨_, rfl⟩
 rw [← hq0] at hp
 rw [show u * 18446744073709551616 + v = (u * 4294967296 + v1) * 4294967296 + v0 by omega] at hQf hRf
 rw [hp.1] at hQf
 rw [hp.2] at hRf
 have hd0 := Nat.div_add_mod (r1 * 4294967296 + v0) Y
 have hm0 := Nat.mod_lt (r1 * 4294967296 + v0) (show Y > 0 by omega)
 rw [← hq0, Nat.mul_comm] at hd0
 obtain ⟨r0, hr0⟩ : ∃ r0, r0 = r1 * 4294967296 + v0 - q0 * Y := ⟨_, rfl⟩
 rw [← hr0] at hRf
 have hq0l : q0 < 4294967296 := by
  rw [hq0, Nat.div_lt_iff_lt_mul (by omega)]
  omega
 have s1 : IntKind.u64.wrap ((r1 : Int) * 4294967296) = (r1 * 4294967296 % 18446744073709551616 : Nat) := by rw [IntKind.wrap_u64]; rfl
 have s2 : IntKind.u64.wrap (((r1 * 4294967296 % 18446744073709551616 : Nat) : Int) + v0) = ((r1 * 4294967296 + v0) % 18446744073709551616 : Nat) := by rw [IntKind.wrap_u64]; omega
 have s3 : IntKind.u64.wrap ((q0 : Int) * Y) = (q0 * Y % 18446744073709551616 : Nat) := by rw [IntKind.wrap_u64, ← Int.natCast_mul]; rfl
 have s4 : IntKind.u64.wrap (((((r1 * 4294967296 + v0) % 18446744073709551616 : Nat)) : Int) - (q0 * Y % 18446744073709551616 : Nat)) = (r0 : Int) := by
  rw [IntKind.wrap_u64]
  generalize q0 * Y = m at *
  omega
 have s5 : IntKind.u64.wrap ((q1 : Int) * 4294967296) = (q1 * 4294967296 : Nat) := wu64 (by omega) (by omega)
 have s6 : IntKind.u64.wrap (((q1 * 4294967296 : Nat) : Int) + q0) = (q1 * 4294967296 + q0 : Nat) := wu64 (by omega) (by omega)
 have s7 : (r0 : Int) / 2 ^ s = (r0 / 2 ^ s : Nat) := by rw [Int.natCast_ediv, Int.natCast_pow]; rfl
 rw [← hRf] at s7
 rw [← hQf] at s6
 clear hp hd hm hr1 hq1 hr0 hd0 hm0 hRf hQf
 obtain ⟨t3, ht3⟩ : ∃ t, t = q1 * Y % 18446744073709551616 := ⟨_, rfl⟩
 rw [← ht3] at p3 p4
 obtain ⟨t2, ht2⟩ : ∃ t, t = (u * 4294967296 + v1) % 18446744073709551616 := ⟨_, rfl⟩
 rw [← ht2] at p2 p4
 obtain ⟨t1, ht1⟩ : ∃ t, t = u * 4294967296 % 18446744073709551616 := ⟨_, rfl⟩
 rw [← ht1] at p1 p2
 clear ht1 ht2 ht3
 simp
 repeat (first | refine AW.seq ?_ | refine AW.block ?_ | (refine AW.reg mix ?_; simp -implicitDefEqProofs [p1, p2, p3, p4, hYn, hYn', g1']; try simp (disch := omega) only [w64, wu64]) | (refine need.of (by first | omega | kernel_rfl) ?_) | (refine AW.fin ?_; try simp -implicitDefEqProofs [p1, p2, p3, p4, hYn, hYn', g1']))
 refine AW.blockCut 0 [(18, .d (.int .u64 q0))] [] (by simp) (by simp) ?_ ?_
 ·-- the other half digit
  refine AW.loopT (α := Nat × Nat) 0 (fun a => [(18, .d (.int .u64 (a.1 : Int))), (16, .d (.int .u64 (a.2 : Int)))]) (fun _ => []) (fun a => hInv Y1 Y0 r1 v0 a.1 a.2) (fun a => a.1) (r1 / Y1, r1 % Y1) (by simp) (by simp) (o_gh (by omega) (by omega) (by omega)) (by simp [gA']) (by simp) ?_
  rintro ⟨q, r⟩ ⟨i1, i2, i3⟩
  simp only at i1 i2 i3
  have hqY : q * 2147483648 ≤ q * Y1 := Nat.mul_le_mul_left _ hY1
  have hend : q * Y0 ≤ r * 4294967296 + v0 → q0 = q := fun h => by rw [hq0, hYY]; exact o_ds i1 h i2
  have hnext : (4294967296 ≤ q ∨ r * 4294967296 + v0 < q * Y0) → 0 < q ∧ (q - 1) * Y1 + (r + Y1) = r1 ∧ r1 * 4294967296 + v0 < (q - 1 + 1) * (Y1 * 4294967296 + Y0) := fun h => o_dt i1 (by omega) (by omega) h
  have hstep : ∀ (T : List V) , (4294967296 ≤ q ∨ r * 4294967296 + v0 < q * Y0) → 0 < q ∧ hInv Y1 Y0 r1 v0 (q - 1) (r + Y1) ∨ (0 < q ∧ 4294967296 ≤ r + Y1 ∧ q0 = q - 1) := fun _ h => by
   obtain ⟨n1, n2, n3⟩ := hnext h
   rcases Nat.lt_or_ge (r + Y1) 4294967296 with h1 | h1
   ·exact .inl ⟨n1, n2, n3, h1⟩
   ·refine .inr ⟨n1, h1, ?_⟩
    rw [hq0, hYY]
    exact o_ds n2 (o_du n2 (by omega) hY0 h1 _) n3
  have b1 : IntKind.u64.wrap ((r : Int) + Y1) = ((r + Y1 : Nat) : Int) := wu64 (by omega) (by omega)
  have body : (4294967296 ≤ q ∨ r * 4294967296 + v0 < q * Y0) → IntKind.u64.wrap ((q : Int) - 1) = ((q - 1 : Nat) : Int) := fun h => by
   have := (hnext h).1
   rw [wu64 (by omega) (by omega)]; omega
  by_cases c1 : 4294967296 ≤ q
  ·have c1' : (4294967296 : Int) ≤ q := by omega
   refine G1 c1' ?_; try with_reducible exact tt
   refine AW.cond rfl (fun h => ?_) (fun h => ?_)
   ·have e1 := body (.inl c1)
    rcases hstep [] (.inl c1) with ⟨n1, n2⟩ | ⟨n1, n2, n3⟩
    ·have n4 : ¬ (4294967296 : Int) ≤ ((r + Y1 : Nat) : Int) := by have := n2.2.2; omega
     generalize hr' : r + Y1 = r' at *
     generalize hq' : q - 1 = q' at *
     refine G1 (fs e1 (fs b1 n4)) ?_; try with_reducible exact tt
     refine AW.cond rfl (fun h => ?_) (fun h => ?_)
     ·first | (simp [n4] at h; done) | (simp [n4] at h; omega)
     refine G0 ?_; try with_reducible exact tt
     exact ⟨q', r', n2, by omega, by simp, by simp⟩
    ·have n4 : (4294967296 : Int) ≤ ((r + Y1 : Nat) : Int) := by omega
     generalize hr' : r + Y1 = r' at *
     generalize hq' : q - 1 = q' at *
     refine G1 (fs e1 (fs b1 n4)) ?_; try with_reducible exact tt
     refine AW.cond rfl (fun h => ?_) (fun h => ?_)
     ·refine AW.exit ?_
      (try (simp -implicitDefEqProofs; try simp (disch := omega) only [w64, wu64]))
      rw [n3]
      exact Sub1.refl _
     ·first | (simp at h; done) | (simp at h; omega)
   ·simp [c1'] at h
  ·have c1' : ¬ (4294967296 : Int) ≤ q := by omega
   have hqy : q * Y0 ≤ 4294967295 * 4294967295 := Nat.mul_le_mul (by omega) (by omega)
   have e1 : IntKind.u64.wrap ((q : Int) * Y0) = ((q * Y0 : Nat) : Int) := by rw [← Int.natCast_mul]; exact wu64 (by omega) (by omega)
   have e2 : IntKind.u64.wrap (4294967296 * (r : Int)) = ((4294967296 * r : Nat) : Int) := wu64 (by omega) (by omega)
   have e3 : IntKind.u64.wrap (((4294967296 * r : Nat) : Int) + v0) = ((4294967296 * r + v0 : Nat) : Int) := wu64 (by omega) (by omega)
   by_cases c2 : r * 4294967296 + v0 < q * Y0
   ·have c2' : ((4294967296 * r + v0 : Nat) : Int) < ((q * Y0 : Nat) : Int) := by omega
    have e4 := body (.inr c2)
    have hs := hstep [] (.inr c2)
    clear hend hnext hstep body
    generalize q * Y0 = m at *
    generalize 4294967296 * r = m2 at *
    generalize m2 + v0 = m3 at *
    refine G1 (fs c1' (fs e1 (fs e2 (fs e3 c2')))) ?_; try with_reducible exact tt
    refine AW.cond rfl (fun h => ?_) (fun h => ?_)
    ·rcases hs with ⟨n1, n2⟩ | ⟨n1, n2, n3⟩
     ·have n4 : ¬ (4294967296 : Int) ≤ ((r + Y1 : Nat) : Int) := by have := n2.2.2; omega
      generalize hr' : r + Y1 = r' at *
      generalize hq' : q - 1 = q' at *
      refine G1 (fs e4 (fs b1 n4)) ?_; try with_reducible exact tt
      refine AW.cond rfl (fun h => ?_) (fun h => ?_)
      ·first | (simp at h; done) | (simp at h; omega)
      refine G0 ?_; try with_reducible exact tt
      exact ⟨q', r', n2, by omega, by simp, by simp⟩
     ·have n4 : (4294967296 : Int) ≤ ((r + Y1 : Nat) : Int) := by omega
      generalize hr' : r + Y1 = r' at *
      generalize hq' : q - 1 = q' at *
      refine G1 (fs e4 (fs b1 n4)) ?_; try with_reducible exact tt
      refine AW.cond rfl (fun h => ?_) (fun h => ?_)
      ·refine AW.exit ?_
       (try (simp -implicitDefEqProofs; try simp (disch := omega) only [w64, wu64]))
       rw [n3]
       exact Sub1.refl _
      ·first | (simp at h; done) | (simp at h; omega)
    ·first | (simp at h; done) | (simp at h; omega)
   ·have c2' : ¬ ((4294967296 * r + v0 : Nat) : Int) < ((q * Y0 : Nat) : Int) := by omega
    have e4 := hend (by omega)
    clear hend hnext hstep body
    generalize q * Y0 = m at *
    generalize 4294967296 * r = m2 at *
    generalize m2 + v0 = m3 at *
    refine G1 (fs c1' (fs e1 (fs e2 (fs e3 c2')))) ?_; try with_reducible exact tt
    refine AW.cond rfl (fun h => ?_) (fun h => ?_)
    ·first | (simp at h; done) | (simp at h; omega)
    ·refine AW.exit ?_
     (try (simp -implicitDefEqProofs; try simp (disch := omega) only [w64, wu64]))
     rw [e4]
     exact Sub1.refl _
 clear hq0
 obtain ⟨t6, ht6⟩ : ∃ t, t = q0 * Y % 18446744073709551616 := ⟨_, rfl⟩
 rw [← ht6] at s3 s4
 obtain ⟨t5, ht5⟩ : ∃ t, t = (r1 * 4294967296 + v0) % 18446744073709551616 := ⟨_, rfl⟩
 rw [← ht5] at s2 s4
 obtain ⟨t4, ht4⟩ : ∃ t, t = r1 * 4294967296 % 18446744073709551616 := ⟨_, rfl⟩
 rw [← ht4] at s1 s2
 obtain ⟨t7, ht7⟩ : ∃ t, t = q1 * 4294967296 := ⟨_, rfl⟩
 rw [← ht7] at s5 s6
 clear ht4 ht5 ht6 ht7
 simp
 refine G1 (fs s1 (fs s2 (fs s3 (fs s4 (fs s5 (fs s6 (fs s7 f13))))))) ?_; try with_reducible exact tt
end
end Go.Proofs.YtlelpbaeplcfiaaDoor.Am
namespace Go.Proofs.YtlelpbaeplcfiaaDoor.Am
section
open Go.RowKit
theorem o_gj : ∀ (ws : List Nat) (j v : Nat), j < ws.length → wval (ws.set j v) + 18446744073709551616 ^ j * ws.getD j 0 = wval ws + 18446744073709551616 ^ j * v
 | [], j, v, h => by simp at h
 | x :: l, 0, v, h => by simp [wval]; omega
 | x :: l, j + 1, v, h => by
  have ih := o_gj l j v (by simpa using h)
  simp only [List.set_cons_succ, wval, Nat.pow_succ, List.getD_cons_succ]
  have e : ∀ z, 18446744073709551616 ^ j * 18446744073709551616 * z = 18446744073709551616 * (18446744073709551616 ^ j * z) := fun z => by
   rw [Nat.mul_right_comm, Nat.mul_comm]
  rw [e, e]
  omega
theorem o_gk {ws : List Nat} (h : small ws) (j v : Nat) (hv : v < 18446744073709551616) : small (ws.set j v) := by
 intro x hx
 rcases List.mem_or_eq_of_mem_set hx with hx | rfl
 ·exact h x hx
 ·exact hv
def uW (ws : List Nat) : List V := U ws
theorem o_gl (ws : List Nat) : (uW ws).length = ws.length := by simp [uW, U]
theorem o_gm {ws : List Nat} {j : Nat} (h : j < ws.length) : (uW ws)[j]? = some (.d (.int .u64 (ws.getD j 0 : Nat))) := by
 simp [uW, U, List.getD, h]
theorem o_gn (ws : List Nat) (j v : Nat) : (uW ws).set j (.d (.int .u64 v)) = uW (ws.set j v) := by simp [uW, U, List.map_set]
theorem o_go (n : Nat) (ws : List Nat) : V.lowl n (uW ws) = true := o_cn n ws

theorem o_gp {vn v z1 z2 p b xy o c l2 h2 : Nat} (hs2 : vn + p * o = v + p * l2) (hv : v + p * c = z2 + z1) (htot : xy + o + c = l2 + b * h2) : vn + p * b * h2 = z2 + (z1 + p * xy) := by
 have e2 := congrArg (p * ·) htot
 simp only [Nat.mul_add] at e2
 rw [← Nat.mul_assoc] at e2
 omega
set_option maxHeartbeats 4000000 in
theorem o_gq (m n : Nat) (hm : size m ≤ 1000000) (hn : size n ≤ 1000000) : Eqn Tryd.prog o_ah [.d (.agg [natW m]), .d (.agg [natW n])] [] (.d (.agg [natW (m * n)])) [] := by
 refine Eqn.pure o_aj (o_5f _) ?_
 unfold size at hm hn
 rw [← o_bm m, ← o_bm n]
 have hsA := o_bn m
 have hsB := o_bn n
 rw [show natW (wval (words m)) = W (words m) by rw [o_bm]; rfl, show natW (wval (words n)) = W (words n) by rw [o_bm]; rfl]
 generalize words m = A at *
 generalize words n = B at *
 simp only [o_ai, W]
 have hlen : ((A.length : Int) + B.length).toNat = A.length + B.length := by omega
 refine G1 hlen ?_; try with_reducible exact tt
 rw [show List.replicate (A.length + B.length) (V.d (.int .u64 0)) = uW (List.replicate (A.length + B.length) 0) by simp [uW, U]]
 refine AW.loopT (α := Nat × List Nat) 4 (fun s => [(25, .d (.int .i64 (s.1 : Int)))]) (fun s => [(3, ⟨34, uW s.2⟩)]) (fun s => s.1 ≤ A.length ∧ s.2.length = A.length + B.length ∧ small s.2 ∧ wval s.2 = wval (A.take s.1) * wval B ∧ ∀ j, s.1 + B.length ≤ j → s.2.getD j 0 = 0) (fun s => A.length - s.1) (0, List.replicate (A.length + B.length) 0) ?_ ?_ ?_ ?_ ?_ ?_
 ·simp
 ·simp
 ·refine ⟨Nat.zero_le _, by simp, fun x hx => by rw [List.eq_of_mem_replicate hx]; omega, by simp [o_1, wval], fun j _ => ?_⟩
  simp [List.getD, List.getElem?_replicate]
  split <;> rfl
 ·simp
 ·simp [o_go]
 rintro ⟨i, ws⟩ ⟨hi, hl, hs, hv, hz⟩
 simp only at hi hl hs hv hz
 simp
 by_cases h : i = A.length
 ·subst h
  rw [List.take_length] at hv
  refine G0 ?_; try with_reducible exact tt
  refine AW.cond rfl (fun h => ?_) (fun h => ?_)
  ·simp at h
  refine AW.exit ?_
  (try (simp -implicitDefEqProofs; try simp (disch := omega) only [w64, wu64]))
  have hcell : uW ws = (ws.map fun x : Nat => D.int .u64 x).map V.d := by simp [uW, U]
  rw [hcell]
  refine AW.freeze 3 1 ⟨34, _⟩ (ws.map fun x : Nat => .int .u64 x) (by rfl) (by rfl) ?_
  simp [← hl, List.take_of_length_le]
  refine G0 ?_; try with_reducible exact tt
  refine CallS.pu (o_bv ws hs (by omega)) (R0 ?_); try with_reducible exact tt
  refine Sub1.of ?_
  rw [hv]
 ·have hi' : i < A.length := by omega
  have hp : (i : Int) < A.length := by omega
  refine G1 (fs hi' hp) ?_; try with_reducible exact tt
  refine AW.cond rfl (fun h => ?_) (fun h => ?_)
  ·refine G1 (fs hi' hp) ?_; try with_reducible exact tt
   have hwA : A[i] = A.getD i 0 := o_bu hi'
   have hx : A[i] < 18446744073709551616 := hsA _ (List.getElem_mem _)
   generalize A[i] = x at hwA hx ⊢
   refine AW.loopT (α := Nat × Nat × List Nat) 4 (fun s => [(33, .d (.int .i64 (s.1 : Int))), (8, .d (.int .u64 (s.2.1 : Int)))]) (fun s => [(3, ⟨34, uW s.2.2⟩)]) (fun s => s.1 ≤ B.length ∧ s.2.1 < 18446744073709551616 ∧ s.2.2.length = A.length + B.length ∧ small s.2.2 ∧ wval s.2.2 + 18446744073709551616 ^ (i + s.1) * s.2.1 = wval (A.take i) * wval B + 18446744073709551616 ^ i * (x * wval (B.take s.1)) ∧ ∀ j, i + B.length ≤ j → s.2.2.getD j 0 = 0) (fun s => B.length - s.1) (0, 0, ws) ?_ ?_ ⟨Nat.zero_le _, by simp, hl, hs, by simp [hv, wval], hz⟩ ?_ ?_ ?_
   ·simp
   ·simp
   ·simp
   ·simp [o_go]
   clear hl hs hv hz
   rintro ⟨k, c, ws'⟩ ⟨hk, hc, hl, hs, hv, hz⟩
   simp only at hk hc hl hs hv hz
   simp
   have hlen' : ((i : Int) + B.length).toNat = i + B.length := by omega
   have ew : IntKind.i64.wrap ((i : Int) + B.length) = ((i + B.length : Nat) : Int) := w64 (by omega) (by omega)
   have eu := o_gl ws'
   have eset := fun j v => o_gn ws' j v
   by_cases hkl : k = B.length
   ·subst hkl
    rw [List.take_length] at hv
    refine G0 ?_; try with_reducible exact tt
    refine AW.cond rfl (fun h => ?_) (fun h => ?_)
    ·simp at h
    have hg : (uW ws').length = A.length + B.length := by rw [eu]; exact hl
    have e2 : IntKind.i64.wrap ((i : Int) + 1) = (i : Int) + 1 := w64 (by omega) (by omega)
    refine G1 (fs hg (fs eset e2)) ?_; try with_reducible exact tt
    refine ⟨i + 1, ws'.set (i + B.length) c, ⟨hi', by simp [hl], o_gk hs _ _ hc, ?_, fun j hj => ?_⟩, by omega, by simp, by rw [hlen']; simp, o_go _ _⟩
    ·have h1 := o_gj ws' (i + B.length) c (by omega)
     rw [hz _ (Nat.le_refl _), Nat.mul_zero, Nat.add_zero] at h1
     rw [h1, hv, o_l, Nat.add_mul, hwA, Nat.mul_assoc]
    ·have h1 := hz j (by omega)
     rw [List.getD] at h1
     rw [List.getElem?_set_ne (by omega)]
     exact h1
   ·have hk' : k < B.length := by omega
    have hkp : (k : Int) < B.length := by omega
    refine G1 (fs hk' hkp) ?_; try with_reducible exact tt
    refine AW.cond rfl (fun h => ?_) (fun h => ?_)
    ·have hy : B[k] < 18446744073709551616 := hsB _ (List.getElem_mem _)
     have hwB : B[k] = B.getD k 0 := o_bu hk'
     have hg : (uW ws').length = A.length + B.length := by rw [eu]; exact hl
     have hik : i + k < ws'.length := by omega
     have hik2 : ((i : Int) + k).toNat = i + k := by omega
     have ewk : IntKind.i64.wrap ((i : Int) + k) = (i : Int) + k := w64 (by omega) (by omega)
     have hgo := o_gm hik
     have ho := hs.getD (i + k)
     have hset := fun v => o_gj ws' (i + k) v hik
     generalize hO : ws'.getD (i + k) 0 = o at hgo ho hset
     have e2 : IntKind.i64.wrap ((k : Int) + 1) = (k : Int) + 1 := w64 (by omega) (by omega)
     refine G1 (fs hk' hkp) ?_; try with_reducible exact tt
     generalize B[k] = y at hy hwB ⊢
     have hmul := o_gf x y hx hy
     have l0 : x * y % 18446744073709551616 < 18446744073709551616 := Nat.mod_lt _ (by decide)
     have hxy : x * y ≤ 18446744073709551615 * 18446744073709551615 := Nat.mul_le_mul (by omega) (by omega)
     have hdm := Nat.div_add_mod (x * y) 18446744073709551616
     obtain ⟨hi', hhi⟩ : ∃ q, q = x * y / 18446744073709551616 := ⟨_, rfl⟩
     obtain ⟨lo, hlo⟩ : ∃ q, q = x * y % 18446744073709551616 := ⟨_, rfl⟩
     obtain ⟨xy, hxyd⟩ : ∃ q, q = x * y := ⟨_, rfl⟩
     rw [← hhi, ← hlo] at hmul
     rw [← hlo] at l0
     rw [← hhi, ← hlo, ← hxyd] at hdm
     rw [← hxyd] at hxy
     obtain ⟨l1, k1, hl1, hll1, hk1⟩ : ∃ l1 k1 : Nat, lo + o + 0 = l1 + 18446744073709551616 * k1 ∧ l1 < 18446744073709551616 ∧ k1 ≤ 1 := ⟨(lo + o) % 18446744073709551616, (lo + o) / 18446744073709551616, by omega, by omega, by omega⟩
     obtain ⟨l2, k2, hl2, hll2, hk2⟩ : ∃ l2 k2 : Nat, l1 + c + 0 = l2 + 18446744073709551616 * k2 ∧ l2 < 18446744073709551616 ∧ k2 ≤ 1 := ⟨(l1 + c) % 18446744073709551616, (l1 + c) / 18446744073709551616, by omega, by omega, by omega⟩
     have htot : xy + o + c = l2 + 18446744073709551616 * (hi' + k1 + k2) := by omega
     have hhl : hi' + k1 + k2 < 18446744073709551616 := by omega
     have w1 : IntKind.u64.wrap ((hi' : Int) + k1) = ((hi' + k1 : Nat) : Int) := wu64 (by omega) (by omega)
     have w2 : IntKind.u64.wrap (((hi' + k1 : Nat) : Int) + k2) = ((hi' + k1 + k2 : Nat) : Int) := wu64 (by omega) (by omega)
     clear hhi hlo
     refine CallS.pu (hmul) (R1 (fs hg (fs hgo (fs hik2 ewk))) ?_); try with_reducible exact tt
     generalize hi' + k1 = h1 at *
     generalize h1 + k2 = h2 at *
     refine CallS.pu (o_c0 lo o 0 l1 k1 l0 ho (by omega) hll1 hl1) (R1 w1 ?_); try with_reducible exact tt
     refine CallS.pu (o_c0 l1 c 0 l2 k2 hll1 hc (by omega) hll2 hl2) (R1 (fs w2 (fs hg (fs hik2 (fs ewk (fs eset e2))))) ?_); try with_reducible exact tt
     refine ⟨k + 1, h2, ws'.set (i + k) l2, ⟨hk', hhl, by simpa using hl, o_gk hs _ _ hll2, ?_, fun j hj => ?_⟩, by omega, by simp, Subs.refl _, o_go _ _⟩
     ·have hs2 := hset l2
      have e1 : x * wval (B.take (k + 1)) = x * wval (B.take k) + 18446744073709551616 ^ k * xy := by
       rw [o_l, ← hwB, Nat.mul_add, hxyd]
       congr 1
       rw [← Nat.mul_assoc, Nat.mul_comm x, Nat.mul_assoc]
      rw [e1, Nat.mul_add, ← Nat.mul_assoc (18446744073709551616 ^ i) (18446744073709551616 ^ k) xy, ← Nat.pow_add, ← Nat.add_assoc i k 1, Nat.pow_succ]
      exact o_gp hs2 hv htot
     ·have h1 := hz j hj
      rw [← List.getD_eq_getElem?_getD]
      rw [List.getD] at h1 ⊢
      rw [List.getElem?_set_ne (by omega)]
      exact h1
    ·simp [hk'] at h
  ·simp [hi'] at h
end
end Go.Proofs.YtlelpbaeplcfiaaDoor.Am
namespace Go.Proofs.YtlelpbaeplcfiaaDoor.Am
section
open Go.RowKit
theorem o_gr {x n m : Nat} (h : x < 2 ^ n) (hm : n ≤ 64 * m) : size x ≤ m := by
 apply o_j (o_bo x)
 rw [o_bm, show (18446744073709551616 : Nat) = 2 ^ 64 by rfl, ← Nat.pow_mul]
 exact Nat.lt_of_lt_of_le h (Nat.pow_le_pow_right (by omega) hm)
def splitW (y : Nat) : List Nat → List Nat × Nat
 | [] => ([], 0)
 | x :: l => (((splitW y l).2 * 18446744073709551616 + x) / y :: (splitW y l).1, ((splitW y l).2 * 18446744073709551616 + x) % y)
theorem o_gs {y : Nat} (h0 : 0 < y) : ∀ {l : List Nat}, small l → wval l = wval (splitW y l).1 * y + (splitW y l).2 ∧ (splitW y l).2 < y ∧ small (splitW y l).1 ∧ (splitW y l).1.length = l.length
 | [], _ => ⟨by simp [splitW, wval], h0, by simp [small, splitW], rfl⟩
 | x :: l, h => by
  have hx := h x (by simp)
  obtain ⟨h1, h2, h3, h4⟩ := o_gs h0 (l := l) (fun z hz => h z (by simp [hz]))
  simp only [splitW, wval, List.length_cons, h4]
  generalize splitW y l = s at *
  obtain ⟨Q, r⟩ := s
  simp only at *
  have hd := Nat.div_add_mod (r * 18446744073709551616 + x) y
  have hm := Nat.mod_lt (r * 18446744073709551616 + x) h0
  have hq : (r * 18446744073709551616 + x) / y < 18446744073709551616 := by
   rw [Nat.div_lt_iff_lt_mul h0]
   have : (r + 1) * 18446744073709551616 ≤ y * 18446744073709551616 := Nat.mul_le_mul_right _ h2
   omega
  refine ⟨?_, hm, ?_, trivial⟩
  ·rw [Nat.mul_comm y] at hd
   have e : 18446744073709551616 * (wval Q * y + r) = 18446744073709551616 * wval Q * y + r * 18446744073709551616 := by rw [Nat.mul_add, Nat.mul_assoc, Nat.mul_comm r]
   rw [h1, e, Nat.add_mul]
   obtain ⟨z, hz⟩ : ∃ z, z = (r * 18446744073709551616 + x) % y := ⟨_, rfl⟩
   obtain ⟨z2, hz2⟩ : ∃ z, z = (r * 18446744073709551616 + x) / y * y := ⟨_, rfl⟩
   obtain ⟨z3, hz3⟩ : ∃ z, z = 18446744073709551616 * wval Q * y := ⟨_, rfl⟩
   rw [← hz, ← hz2] at hd
   rw [← hz, ← hz2, ← hz3]
   omega
  ·intro z hz
   rcases List.mem_cons.1 hz with rfl | hz
   ·exact hq
   ·exact h3 z hz

theorem o_gt {y : Nat} (h0 : 0 < y) {l : List Nat} (h : small l) : wval (splitW y l).1 = wval l / y ∧ (splitW y l).2 = wval l % y := by
 obtain ⟨h1, h2, _, _⟩ := o_gs h0 h
 rw [h1]
 constructor
 ·rw [Nat.mul_comm, Nat.mul_add_div h0, Nat.div_eq_of_lt h2, Nat.add_zero]
 ·rw [Nat.mul_comm, Nat.mul_add_mod]; exact (Nat.mod_eq_of_lt h2).symm

def splitC (y : Nat) (ws : List Nat) (k : Nat) : List V := U (List.replicate k 0 ++ (splitW y (ws.drop k)).1)
theorem o_gu {y : Nat} (h0 : 0 < y) {ws : List Nat} (hs : small ws) {k : Nat} (hk : k ≤ ws.length) : (splitC y ws k).length = ws.length := by
 have := (o_gs h0 (l := ws.drop k) (fun x hx => hs x (List.mem_of_mem_drop hx))).2.2.2
 simp [splitC, U, this]; omega

set_option maxHeartbeats 2000000 in
theorem o_gv (ws : List Nat) (y : Nat) (hs : small ws) (hn : ws.length ≤ 1000000) (h0 : 0 < y) (hy : y < 18446744073709551616) : Eqn Tryd.prog o_7y [.d (W ws), .d (.int .u64 y)] [] (.tup [.d (W (splitW y ws).1), .d (.int .u64 (splitW y ws).2)]) [] := by
 refine Eqn.pure o_80 (o_cb _ _) ?_
 simp only [o_7z, W]
 have hlen := (o_gs h0 hs).2.2.2
 rw [hlen]
 have hlowC : ∀ k, V.lowl 1 (splitC y ws k) = true := fun k => o_cn 1 _
 refine G0 ?_; try with_reducible exact tt
 rw [show List.replicate ws.length (V.d (.int .u64 0)) = splitC y ws ws.length by simp [splitC, U, splitW]]
 refine AW.loopT (α := Nat) 1 (fun k => [(8, .d (.int .i64 ((k : Int) - 1))), (7, .d (.int .u64 ((splitW y (ws.drop k)).2 : Nat)))]) (fun k => [(0, ⟨34, splitC y ws k⟩)]) (fun k => k ≤ ws.length) (fun k => k) ws.length ?_ ?_ (Nat.le_refl _) ?_ ?_ ?_
 ·simp
 ·simp
 ·simp [splitW]
 ·simp [hlowC]
 rintro k hk
 simp
 cases k with
 | zero =>
  refine G0 ?_; try with_reducible exact tt
  refine AW.cond rfl (fun h => ?_) (fun h => ?_)
  ·simp at h
  refine AW.exit ?_
  (try (simp -implicitDefEqProofs; try simp (disch := omega) only [w64, wu64]))
  rw [show splitC y ws 0 = ((splitW y ws).1.map fun x : Nat => D.int .u64 x).map V.d by simp [splitC, U]]
  refine AW.freeze 0 1 ⟨34, _⟩ ((splitW y ws).1.map fun x : Nat => .int .u64 x) (by rfl) (by rfl) ?_
  simp [← hlen, List.take_of_length_le]
  refine G0 ?_; try with_reducible exact tt
 | succ k =>
  have hk' : k < ws.length := hk
  have hdrop : ws.drop k = ws[k] :: ws.drop (k + 1) := List.drop_eq_getElem_cons hk'
  obtain ⟨i1, i2, i3, i4⟩ := o_gs h0 (l := ws.drop (k + 1)) (fun x hx => hs x (List.mem_of_mem_drop hx))
  have hl := o_gu h0 hs hk
  have hset : (splitC y ws (k + 1)).set k (.d (.int .u64 (((splitW y (ws.drop (k + 1))).2 * 18446744073709551616 + ws[k]) / y : Nat))) = splitC y ws k := by
   rw [splitC, splitC, hdrop, splitW, U, U, List.replicate_succ', List.append_assoc, List.map_append, List.map_append, List.set_append_right _ _ (by simp)]
   simp
  have hrest : (splitW y (ws.drop k)).2 = ((splitW y (ws.drop (k + 1))).2 * 18446744073709551616 + ws[k]) % y := by rw [hdrop, splitW]
  have hx : ws[k] < 18446744073709551616 := hs _ (List.getElem_mem _)
  have hdv := o_gi (splitW y (ws.drop (k + 1))).2 ws[k] y i2 hx hy
  rw [← hrest] at hdv
  generalize (splitW y (ws.drop (k + 1))).2 = r at *
  have e0 : (0 : Int) ≤ (k : Int) + 1 - 1 := by omega
  have e1 : (k : Int) + 1 - 1 = k := by omega
  have e2 : (((k : Int) + 1 - 1)).toNat = k := by omega
  have e3 : IntKind.i64.wrap ((k : Int) - 1) = (k : Int) - 1 := w64 (by omega) (by omega)
  generalize hxk : ws[k] = x at *
  generalize hqd : (r * 18446744073709551616 + x) / y = q at *
  generalize hr'' : (splitW y (ws.drop k)).2 = r' at *
  refine G1 (fs e0 (fs e1 (fs e2 hk'))) ?_; try with_reducible exact tt
  refine AW.cond rfl (fun h => ?_) (fun h => ?_)
  ·refine G1 (fs e0 (fs e1 (fs e2 (fs hk' hxk)))) ?_; try with_reducible exact tt
   refine CallS.pu (hdv) (R1 (fs e1 (fs hl (fs hk' (fs hset e3)))) ?_); try with_reducible exact tt
   refine ⟨k, by omega, by omega, ?_⟩
   rw [hr'']
   simp [hlowC]
  ·simp at h

theorem o_gw (a b : Nat) (ha : size a ≤ 1000000) (h0 : 0 < b) (hb : b < 18446744073709551616 ∨ a < b) (hbs : size b ≤ 1000000) : Eqn Tryd.prog o_a8 [.d (.agg [natW a]), .d (.agg [natW b])] [] (.tup [.d (.agg [natW (a / b)]), .d (.agg [natW (a % b)]), .d (.int .i64 0)]) [] := by
 refine Eqn.pure o_aa (o_cc _ _ _) ?_
 simp only [o_a9]
 refine G0 ?_; try with_reducible exact tt
 refine CallS.pu (o_bx b) (R0 ?_); try with_reducible exact tt
 have hz : (b == 0) = false := by simp; omega
 refine AW.cond rfl (fun h => ?_) (fun h => ?_)
 ·simp [hz] at h
 refine G0 ?_; try with_reducible exact tt
 refine CallS.pu (o_bz a b ha hbs) (R0 ?_); try with_reducible exact tt
 refine AW.cond rfl (fun h => ?_) (fun h => ?_)
 ·have hlt : a < b := by simpa [o_ct] using h
  rw [Nat.div_eq_of_lt hlt, Nat.mod_eq_of_lt hlt]
  refine G0 ?_; try with_reducible exact tt
  refine CallS.pu (o_bw (words a) (o_bn a) (by unfold size at ha; omega)) (R0 ?_); try with_reducible exact tt
  rw [o_bm]
  exact Sub1.tup (Subs.cons (Sub1.nat0) (Subs.refl _))
 ·have hge : ¬ a < b := fun hlt => by simp [o_ct, hlt] at h
  have hb1 : b < 18446744073709551616 := by omega
  have e' : natW b = .sl 1 [.int .u64 b] := by rw [natW, o_cr (by omega) hb1]; rfl
  have hsp := o_gv (words a) b (o_bn a) (by unfold size at ha; omega) h0 hb1
  obtain ⟨q1, q2, q3, q4⟩ := o_gs h0 (o_bn a)
  have hd := o_gt h0 (o_bn a)
  rw [o_bm] at hd
  have htr := o_bv (splitW b (words a)).1 q3 (by unfold size at ha; omega)
  rw [hd.1] at htr
  rw [hd.2] at hsp q2
  rw [show W (words a) = natW a from rfl] at hsp
  generalize (splitW b (words a)).1 = qs at *
  refine G1 e' ?_; try with_reducible exact tt
  refine AW.cond rfl (fun h => ?_) (fun h => ?_)
  ·refine G1 e' ?_; try with_reducible exact tt
   refine CallS.pu (hsp) (R0 ?_); try with_reducible exact tt
   refine CallS.pu (htr) (R0 ?_); try with_reducible exact tt
   refine CallS.pf 4 1 ⟨34, _⟩ [.int .u64 (a % b : Nat)] (o_bw [a % b] (o_cs (by omega)) (by simp)) (by first | rfl | (simp; done)) (R0 ?_); try with_reducible exact tt
   simp [wval]
  ·simp [e'] at h

theorem o_gx (b : Nat) (hb : 0 < b) (hbs : size b ≤ 1000000) : Eqn Tryd.prog o_a2 [.d (.agg [natW 1]), .d (.agg [natW b])] [] (.d (.agg [natW 1])) [] := by
 refine Eqn.pure o_a4 (o_5f _) ?_
 simp only [o_a3]
 have s1 : size 1 ≤ 1 := o_cy (by omega)
 refine G0 ?_; try with_reducible exact tt
 refine AW.loopT (α := Nat × Nat) 3 (fun _ => []) (fun p => [(0, ⟨25, [.d (natW p.1)]⟩), (1, ⟨25, [.d (natW p.2)]⟩)]) (fun p => (p = (1, b) ∨ (p = (b, 1) ∧ 1 < b) ∨ p = (1, 0))) (fun p => if p = (1, b) ∧ 0 < b then 3 else if p.2 = 0 then 1 else 2) (1, b) ?_ ?_ (.inl rfl) ?_ ?_ ?_
 ·simp
 ·simp
 ·simp
 ·simp
 rintro ⟨x, y⟩ hxy
 simp
 have hy : size y ≤ 1000000 ∧ size x ≤ 1000000 := by
  rcases hxy with h | ⟨h, _⟩ | h <;> cases h
  ·exact ⟨hbs, by omega⟩
  ·exact ⟨by omega, hbs⟩
  ·exact ⟨by rw [show size 0 = 0 from rfl]; omega, by omega⟩
 refine G0 ?_; try with_reducible exact tt
 refine CallS.pu (o_bx y) (R0 ?_); try with_reducible exact tt
 by_cases h0 : y = 0
 ·subst h0
  have hx : x = 1 := by
   rcases hxy with h | ⟨h, _⟩ | h <;> cases h
   ·omega
   ·rfl
  subst hx
  simp
  refine AW.cond rfl (fun h => ?_) (fun h => ?_)
  ·simp at h
  refine AW.exit ?_
  (try (simp -implicitDefEqProofs; try simp (disch := omega) only [w64, wu64]))
  refine G0 ?_; try with_reducible exact tt
  refine CallS.pu (o_bw (words 1) (o_bn 1) (by unfold size at s1; omega)) (R0 ?_); try with_reducible exact tt
  refine Sub1.of ?_
  rw [o_bm]
 ·refine AW.cond rfl (fun h => ?_) (fun h => ?_)
  ·refine G0 ?_; try with_reducible exact tt
   have hd : y < 18446744073709551616 ∨ x < y := by
    rcases hxy with h | ⟨h, h1⟩ | h <;> cases h
    ·rcases Nat.lt_or_ge 1 b with h | h
     ·exact .inr h
     ·exact .inl (by omega)
    ·exact .inl (by omega)
    ·exact absurd rfl h0
   refine CallS.pu (o_gw x y hy.2 (by omega) hd hy.1) (R0 ?_); try with_reducible exact tt
   rcases hxy with h | ⟨h, h1⟩ | h <;> cases h
   ·rcases Nat.lt_or_ge 1 b with h | h
    ·refine .inr (.inl ⟨b, 1, ⟨⟨rfl, rfl⟩, h⟩, ?_, Subs.refl _, ?_⟩)
     ·rw [if_neg (by omega), if_neg (by omega), if_pos ⟨⟨rfl, rfl⟩, hb⟩]
      omega
     ·rw [Nat.mod_eq_of_lt h]; exact Subs.refl _
    ·obtain rfl : b = 1 := by omega
     exact .inr (.inr ⟨by simp, Subs.refl _, by simp⟩)
   ·refine .inr (.inr ⟨?_, Subs.refl _, by rw [Nat.mod_one]; exact Subs.refl _⟩)
    rw [if_neg (by omega), if_neg (by omega), if_neg (by omega)]
    omega
   ·exact absurd rfl h0
  ·simp at h
   exact absurd h h0

theorem o_gy (b : Nat) (h0 : 0 < b) (hb : size b ≤ 1000000) : Eqn Tryd.prog o_8y [.d (.agg [natW 1, .bool false]), .d (.agg [natW b])] [] (.d (.agg [natW 1, .bool false, natW (b - 1)])) [] := by
 refine Eqn.pure o_90 (o_5f _) ?_
 simp only [o_8z]
 have s1 : size 1 ≤ 1 := o_cy (by omega)
 have h1 := o_gw 1 1 (by omega) (by omega) (.inl (by omega)) (by omega)
 have h2 := o_gw b 1 hb (by omega) (.inl (by omega)) (by omega)
 rw [Nat.div_one] at h1 h2
 refine G0 ?_; try with_reducible exact tt
 refine CallS.pu (o_d0 1 false) (R0 ?_); try with_reducible exact tt
 refine CallS.pu (o_gx b h0 hb) (R0 ?_); try with_reducible exact tt
 refine CallS.pu (o_d0 1 false) (R0 ?_); try with_reducible exact tt
 refine CallS.pu (h1) (R0 ?_); try with_reducible exact tt
 refine CallS.pu (h2) (R0 ?_); try with_reducible exact tt
 refine CallS.pf 8 1 ⟨34, _⟩ [.int .u64 (1 : Nat)] (o_bw [1] (o_cs (by omega)) (by simp)) (by first | rfl | (simp; done)) (R0 ?_); try with_reducible exact tt
 refine CallS.pu (o_ch b 1 hb (by omega)) (R0 ?_); try with_reducible exact tt
 refine CallS.pu (o_d1 1 false) (R0 ?_); try with_reducible exact tt
 refine CallS.pu (o_cz 1) (R0 ?_); try with_reducible exact tt

theorem o_gz (k : Nat) (hk : k ≤ 8192) : size (2 ^ k) ≤ 129 := o_gr (n := k + 1) (Nat.pow_lt_pow_right (by omega) (Nat.lt_succ_self _)) (by omega)
theorem o_h0 (k : Nat) (hk : k ≤ 8192) : Eqn Tryd.prog o_7j [.d (.int .i64 k)] [] (.tup [.d (.agg [natW 1, .bool false, natW (2 ^ k - 1)]), .d (.int .i64 0)]) [] := by
 refine Eqn.pure o_7l (o_cb _ _) ?_
 simp only [o_7k]
 have hs := o_gz k hk
 have hp := Nat.two_pow_pos k
 have s1 : size 1 ≤ 1 := o_cy (by omega)
 have h1 := o_cq 1 k (by omega) hk
 rw [Nat.one_mul] at h1
 generalize 2 ^ k = b at *
 refine G0 ?_; try with_reducible exact tt
 refine CallS.pf 1 1 ⟨34, _⟩ [.int .u64 (1 : Nat)] (o_bw [1] (o_cs (by omega)) (by simp)) (by first | rfl | (simp; done)) (R0 ?_); try with_reducible exact tt
 refine CallS.pu (h1) (R0 ?_); try with_reducible exact tt
 refine AW.cond rfl (fun h => ?_) (fun h => ?_)
 ·simp at h
 refine G0 ?_; try with_reducible exact tt
 refine CallS.pu (o_d2 1 (by omega)) (R0 ?_); try with_reducible exact tt
 refine CallS.pu (o_gy b hp (by omega)) (R0 ?_); try with_reducible exact tt
end
end Go.Proofs.YtlelpbaeplcfiaaDoor.Am
namespace Go.Proofs.YtlelpbaeplcfiaaDoor.Am
section
open Go.RowKit
def spcL : ByteArray := ⟨#[32, 32, 32, 32, 32, 32, 32, 32, 32, 32, 32, 32, 32, 32, 32, 32, 32, 32, 32, 32, 32, 32, 32, 32, 32, 32, 32, 32, 32, 32, 32, 32, 32, 32, 32, 32, 32, 32, 32, 32, 32, 32, 32, 32, 32, 32, 32, 32, 32, 32, 32, 32, 32, 32, 32, 32, 32, 32, 32, 32, 32, 32, 32, 32, 32, 32, 32, 32, 32, 32, 32, 32, 32, 32, 32, 32, 32, 32, 32, 32, 32, 32, 32, 32, 32, 32, 32, 32, 32, 32, 32, 32, 32, 32, 32, 32, 32, 32, 32, 32, 32, 32, 32, 32, 32, 32, 32, 32, 32, 32, 32, 32, 32, 32, 32, 32, 32, 32, 32, 32, 32, 32, 32, 32, 32, 32, 32, 32]⟩
def dshL : ByteArray := ⟨#[45, 45, 45, 45, 45, 45, 45, 45, 45, 45, 45, 45, 45, 45, 45, 45, 45, 45, 45, 45, 45, 45, 45, 45, 45, 45, 45, 45, 45, 45, 45, 45, 45, 45, 45, 45, 45, 45, 45, 45, 45, 45, 45, 45, 45, 45, 45, 45, 45, 45, 45, 45, 45, 45, 45, 45, 45, 45, 45, 45, 45, 45, 45, 45, 45, 45, 45, 45, 45, 45, 45, 45, 45, 45, 45, 45, 45, 45, 45, 45, 45, 45, 45, 45, 45, 45, 45, 45, 45, 45, 45, 45, 45, 45, 45, 45, 45, 45, 45, 45, 45, 45, 45, 45, 45, 45, 45, 45, 45, 45, 45, 45, 45, 45, 45, 45, 45, 45, 45, 45, 45, 45, 45, 45, 45, 45, 45, 45]⟩
def zerL : ByteArray := ⟨#[48, 48, 48, 48, 48, 48, 48, 48, 48, 48, 48, 48, 48, 48, 48, 48, 48, 48, 48, 48, 48, 48, 48, 48, 48, 48, 48, 48, 48, 48, 48, 48, 48, 48, 48, 48, 48, 48, 48, 48, 48, 48, 48, 48, 48, 48, 48, 48, 48, 48, 48, 48, 48, 48, 48, 48, 48, 48, 48, 48, 48, 48, 48, 48]⟩
theorem o_h1 : spcL.size = 128 := by kernel_rfl
theorem o_h2 : dshL.size = 128 := by kernel_rfl
theorem o_h3 : zerL.size = 64 := by kernel_rfl
theorem o_h4 : ((spcL.extract 0 1).toList == (⟨#[48]⟩ : ByteArray).toList) = false := by kernel_rfl
theorem o_h5 : ((dshL.extract 0 1).toList == (⟨#[48]⟩ : ByteArray).toList) = false := by kernel_rfl
theorem o_h6 : ((zerL.extract 0 1).toList == (⟨#[48]⟩ : ByteArray).toList) = true := by kernel_rfl
theorem o_h7 : ((List.range 65).all fun k => (zerL.extract 0 k).data.toList == (List.replicate k 48).map UInt8.ofNat) = true := by kernel_rfl
theorem o_h8 (k : Nat) (h : k ≤ 64) : zerL.extract 0 k = bst (List.replicate k 48) := by
 have := List.all_eq_true.1 o_h7 k (by simp; omega)
 simp only [beq_iff_eq] at this
 unfold bst
 rw [← this]
theorem o_h9 (s p : ByteArray) (h : p.size ≤ s.size) (hs : s.size ≤ 1000) : Eqn Tryd.prog o_b5 [.d (.str s), .d (.str p)] [] (.d (.bool ((s.extract 0 p.size).toList == p.toList))) [] := by
 refine Eqn.pure o_b7 Plain.ok ?_
 simp only [o_b6]
 have h' : (p.size : Int) ≤ s.size := by omega
 refine A10 (fs h h') ?_; try with_reducible exact tt
theorem o_ha (s p : ByteArray) (h : p.size ≤ s.size) (hs : s.size ≤ 1000) : Eqn Tryd.prog o_9z [.d (.str s), .d (.str p)] [] (.d (.bool ((s.extract 0 p.size).toList == p.toList))) [] := by
 refine Eqn.pure o_a1 Plain.ok ?_
 simp only [o_a0]
 have hh := o_h9 s p h hs
 refine A01 hh ?_; try with_reducible exact tt
theorem o_hb (k : Nat) (h : k < 18446744073709551616) : Eqn Tryd.prog o_9w [.d (.int .u64 1), .d (.int .u64 k)] [] (.tup [.d (.int .u64 0), .d (.int .u64 k)]) [] := by
 refine Eqn.pure o_9y Plain.ok ?_
 simp only [o_9x]
 have hm := o_gf 1 k (by omega) h
 rw [Nat.one_mul, Nat.div_eq_of_lt h, Nat.mod_eq_of_lt h] at hm
 refine A01 hm ?_; try with_reducible exact tt
@[simp] theorem o_hc : ByteArray.size ⟨#[48]⟩ = 1 := rfl
theorem o_hd (k : Nat) (hk : k ≤ 18) : Eqn Tryd.prog o_87 [.d (.str ⟨#[48]⟩), .d (.int .i64 k)] [] (.d (.str (bst (List.replicate k 48)))) [] := by
 refine Eqn.pure o_89 Plain.ok ?_
 simp only [o_88]
 rw [show (⟨#[32, 32, 32, 32, 32, 32, 32, 32, 32, 32, 32, 32, 32, 32, 32, 32, 32, 32, 32, 32, 32, 32, 32, 32, 32, 32, 32, 32, 32, 32, 32, 32, 32, 32, 32, 32, 32, 32, 32, 32, 32, 32, 32, 32, 32, 32, 32, 32, 32, 32, 32, 32, 32, 32, 32, 32, 32, 32, 32, 32, 32, 32, 32, 32, 32, 32, 32, 32, 32, 32, 32, 32, 32, 32, 32, 32, 32, 32, 32, 32, 32, 32, 32, 32, 32, 32, 32, 32, 32, 32, 32, 32, 32, 32, 32, 32, 32, 32, 32, 32, 32, 32, 32, 32, 32, 32, 32, 32, 32, 32, 32, 32, 32, 32, 32, 32, 32, 32, 32, 32, 32, 32, 32, 32, 32, 32, 32, 32]⟩ : ByteArray) = spcL from rfl]
 rw [show (⟨#[45, 45, 45, 45, 45, 45, 45, 45, 45, 45, 45, 45, 45, 45, 45, 45, 45, 45, 45, 45, 45, 45, 45, 45, 45, 45, 45, 45, 45, 45, 45, 45, 45, 45, 45, 45, 45, 45, 45, 45, 45, 45, 45, 45, 45, 45, 45, 45, 45, 45, 45, 45, 45, 45, 45, 45, 45, 45, 45, 45, 45, 45, 45, 45, 45, 45, 45, 45, 45, 45, 45, 45, 45, 45, 45, 45, 45, 45, 45, 45, 45, 45, 45, 45, 45, 45, 45, 45, 45, 45, 45, 45, 45, 45, 45, 45, 45, 45, 45, 45, 45, 45, 45, 45, 45, 45, 45, 45, 45, 45, 45, 45, 45, 45, 45, 45, 45, 45, 45, 45, 45, 45, 45, 45, 45, 45, 45, 45]⟩ : ByteArray) = dshL from rfl]
 rw [show (⟨#[48, 48, 48, 48, 48, 48, 48, 48, 48, 48, 48, 48, 48, 48, 48, 48, 48, 48, 48, 48, 48, 48, 48, 48, 48, 48, 48, 48, 48, 48, 48, 48, 48, 48, 48, 48, 48, 48, 48, 48, 48, 48, 48, 48, 48, 48, 48, 48, 48, 48, 48, 48, 48, 48, 48, 48, 48, 48, 48, 48, 48, 48, 48, 48]⟩ : ByteArray) = zerL from rfl]
 by_cases h0 : k = 0
 ·subst h0
  refine A00 ?_; try with_reducible exact tt
  exact Sub1.of rfl
 by_cases h1 : k = 1
 ·subst h1
  refine A00 ?_; try with_reducible exact tt
  exact Sub1.of rfl
 have e1 := o_h1
 have e2 := o_h2
 have e3 := o_h3
 have p1 := o_ha spcL ⟨#[48]⟩ (by rw [e1]; decide) (by omega)
 have p2 := o_ha dshL ⟨#[48]⟩ (by rw [e2]; decide) (by omega)
 have p3 := o_ha zerL ⟨#[48]⟩ (by rw [e3]; decide) (by omega)
 rw [o_hc, o_h4] at p1
 rw [o_hc, o_h5] at p2
 rw [o_hc, o_h6] at p3
 have hx := o_h8 k (by omega)
 have hm := o_hb k (by omega)
 generalize spcL = s1 at *
 generalize dshL = s2 at *
 generalize zerL = s3 at *
 have ku : IntKind.u64.wrap (k : Int) = k := by rw [IntKind.wrap_u64]; omega
 have ki : IntKind.i64.wrap (k : Int) = k := by rw [IntKind.wrap_i64]; omega
 have g1 : ¬ (k : Int) = 0 := by omega
 have g2 : ¬ (k : Int) = 1 := by omega
 have g3 : ¬ (k : Int) < 0 := by omega
 have g4 : (k : Int) ≤ 128 := by omega
 have g5 : (k : Int) ≤ 64 := by omega
 have g6 : ¬ (9223372036854775807 : Int) < k := by omega
 have e3k : k ≤ s3.size := by omega
 refine A14 (fs h0 (fs h1 (fs g1 (fs g2 (fs g3 (fs g4 (fs g5 (fs g6 (fs ku (fs ki (fs e3 (fs hx e3k)))))))))))) hm p1 p2 p3 ?_; try with_reducible exact tt
 done
end
end Go.Proofs.YtlelpbaeplcfiaaDoor.Am
namespace Go.Proofs.YtlelpbaeplcfiaaDoor.Am
section
open Go.RowKit
theorem o_he : txt 0 = ⟨#[48]⟩ := by rw [txt, decN, ndig]; rfl
theorem o_hf (n : Nat) (hn : n < 18446744073709551616) : Eqn Tryd.prog o_84 [.d (.int .u64 n), .d (.int .i64 10)] [] (.d (.str (txt n))) [] := by
 refine Eqn.pure o_86 (o_5f _) ?_
 simp only [o_85]
 have h := o_gd n hn
 refine A01 h ?_; try with_reducible exact tt
def wN (a i : Nat) : Nat := a / 10 ^ (18 * i)
def outN (a i : Nat) : List Nat := if wN a i = 0 then decN a else padN (18 * i) a
theorem o_hg (a i : Nat) : wN a (i + 1) = wN a i / 1000000000000000000 := by rw [wN, wN, Nat.div_div_eq_div_mul, Nat.mul_succ, Nat.pow_add]
theorem e18 : (1000000000000000000 : Nat) = 10 ^ 18 := by decide
theorem o_hh (a i : Nat) (h : 0 < wN a (i + 1)) (h0 : 0 < wN a i) : List.replicate (18 - (decN (wN a i % 1000000000000000000)).length) 48 ++ decN (wN a i % 1000000000000000000) ++ outN a i = outN a (i + 1) := by
 have h1 : outN a i = padN (18 * i) a := by rw [outN, if_neg (by omega)]
 have h2 : outN a (i + 1) = padN (18 * (i + 1)) a := by rw [outN, if_neg (by omega)]
 have h3 : padN (18 * (i + 1)) a = padN 18 (wN a i) ++ padN (18 * i) a := by rw [show 18 * (i + 1) = 18 + 18 * i by omega, o_f9]; rfl
 rw [h1, h2, h3, e18, o_fl _ 18 (Nat.mod_lt _ (Nat.pow_pos (by decide))) (by decide), o_fe 18 (wN a i)]
theorem o_hi (a i : Nat) (h : wN a (i + 1) = 0) (h0 : 0 < wN a i) : decN (wN a i % 1000000000000000000) ++ outN a i = outN a (i + 1) := by
 rw [outN, outN, if_neg (by omega), if_pos h, Nat.mod_eq_of_lt (by rw [o_hg] at h; omega), o_fk (18 * i) a h0]
 rfl
theorem splitN (w y : Nat) (h0 : 0 < y) : wval (splitW y (words w)).1 = w / y ∧ (splitW y (words w)).2 = w % y := by
 obtain ⟨h1, h2, -, -⟩ := o_gs h0 (o_bn w)
 rw [o_bm] at h1
 generalize splitW y (words w) = s at *
 constructor
 ·rw [h1, Nat.mul_comm, Nat.mul_add_div h0, Nat.div_eq_of_lt h2, Nat.add_zero]
 ·rw [h1, Nat.mul_comm, Nat.mul_add_mod, Nat.mod_eq_of_lt h2]
theorem o_hj (a : Nat) (ha : size a ≤ 1000) : Eqn Tryd.prog o_6m [.d (.agg [natW a])] [] (.d (.str (txt a))) [] := by
 refine Eqn.pure o_6o (o_5f _) ?_
 have hz := o_bx a
 simp only [o_6n]
 by_cases h0 : a = 0
 ·subst h0
  refine A01 hz ?_; try with_reducible exact tt
  exact Sub1.of (by rw [o_he])
 have hda : ndig a ≤ 20000 := by
  have h1 := o_2 (o_bn a)
  rw [o_bm] at h1
  obtain ⟨K, hK⟩ : ∃ K, K = 20 * (words a).length := ⟨_, rfl⟩
  have h2 : a < 10 ^ K := by
   rw [hK, Nat.pow_mul]
   exact Nat.lt_of_lt_of_le h1 (Nat.pow_le_pow_left (by decide) _)
  rcases Nat.eq_zero_or_pos K with h3 | h3
  ·rw [h3] at h2; simp at h2; omega
  ·have := o_fi a K h2 h3
   rw [o_cp] at hK
   omega
 refine A11 h0 hz ?_; try with_reducible exact tt
 refine AW.loopT (α := Nat) 1 (fun i => [(4, .d (natW (wN a i))), (3, .d (.str (bst (outN a i))))]) (fun i => []) (fun i => True) (fun i => wN a i) 0 ?_ ?_ trivial ?_ ?_ ?_
 ·simp
 ·simp
 ·have e1 : outN a 0 = [] := by rw [outN, if_neg (by rw [wN]; simpa using h0)]; rfl
  have e2 : wN a 0 = a := by simp [wN]
  rw [e1, e2]
  simp [o_fo]
 ·simp
 intro i _
 have hw : wN a i ≤ a := Nat.div_le_self _ _
 have hsw := o_cg hw
 by_cases hwz : wN a i = 0
 ·have e1 : outN a i = decN a := by rw [outN, if_pos hwz]
  rw [e1, hwz, o_bs]
  simp
  refine A00 ?_; try with_reducible exact tt
  exact Sub1.of rfl
 ·have hs := o_gv (words (wN a i)) 1000000000000000000 (o_bn _) (by rw [o_cp]; omega) (by decide) (by decide)
  have ht := o_bv (splitW 1000000000000000000 (words (wN a i))).1 (o_gs (by decide) (o_bn _)).2.2.1 (by rw [(o_gs (y := 1000000000000000000) (by decide) (o_bn _)).2.2.2, o_cp]; omega)
  obtain ⟨k1, k2⟩ := splitN (wN a i) 1000000000000000000 (by decide)
  rw [k2] at hs
  rw [k1, ← o_hg] at ht
  have hf := o_hf (wN a i % 1000000000000000000) (Nat.lt_trans (Nat.mod_lt _ (by decide)) (by decide))
  have hlt : wN a (i + 1) < wN a i := by rw [o_hg]; exact Nat.div_lt_self (by omega) (by decide)
  have hdl := o_fp (wN a i % 1000000000000000000)
  have hd18 := o_fi (wN a i % 1000000000000000000) 18 (Nat.mod_lt _ (by decide)) (by decide)
  have hd0 := o_fg (wN a i % 1000000000000000000)
  obtain ⟨w, hwd⟩ : ∃ w, w = wN a i := ⟨_, rfl⟩
  obtain ⟨w1, hwd1⟩ : ∃ w, w = wN a (i + 1) := ⟨_, rfl⟩
  obtain ⟨pt, hpt⟩ : ∃ w, w = wN a i % 1000000000000000000 := ⟨_, rfl⟩
  have hW : natW w = W (words w) := rfl
  have hlw : 0 < (words w).length := by
   rcases Nat.eq_zero_or_pos (words w).length with h | h
   ·exact absurd (o_bq.1 (List.eq_nil_of_length_eq_zero h)) (by omega)
   ·exact h
  have hol : (outN a i).length ≤ 20000 := by
   rw [outN, if_neg hwz, o_f8]
   have := o_fj (18 * i) a (Nat.pos_of_ne_zero hwz)
   omega
  have hmore := o_hh a i
  have hlast := o_hi a i
  rw [← hpt] at hs hf hmore hlast hdl hd18 hd0
  rw [← hwd] at hs ht hlt hmore hlast hwz hw hsw ⊢
  rw [← hwd1] at ht hlt hmore hlast
  simp only [W] at hs ht hW
  generalize (words w).length = nw at *
  generalize ((words w).map fun x : Nat => D.int .u64 x) = LW at *
  generalize (splitW 1000000000000000000 (words w)).1 = sw1 at *
  simp
  rw [hW]
  have hlw' : (0 : Int) < nw := by omega
  rw [txt] at hf
  obtain ⟨O, hO⟩ : ∃ O, O = outN a i := ⟨_, rfl⟩
  obtain ⟨B, hB⟩ : ∃ B, B = decN pt := ⟨_, rfl⟩
  rw [← hO] at hmore hlast hol ⊢
  rw [← hB] at hmore hlast hdl hf
  refine A13 (fs hlw hlw') hs ht hf ?_; try with_reducible exact tt
  have hap := o_fm
  by_cases h1 : w1 = 0
  ·rw [h1, o_bs]
   replace hlast := hlast (by omega) (by omega)
   refine A00 ?_; try with_reducible exact tt
   have e1 := o_fm B O
   rw [hlast] at e1
   exact ⟨i + 1, by rw [← hwd1]; exact hlt, Sub1.of (by rw [e1]), Sub1.of (by rw [← hwd1, h1, o_bs])⟩
  ·have hW1 : natW w1 = W (words w1) := rfl
   simp only [W] at hW1
   have hl1 : 0 < (words w1).length := by
    rcases Nat.eq_zero_or_pos (words w1).length with h | h
    ·exact absurd (o_bq.1 (List.eq_nil_of_length_eq_zero h)) h1
    ·exact h
   generalize (words w1).length = nw1 at *
   generalize ((words w1).map fun x : Nat => D.int .u64 x) = LW1 at *
   have hl1' : (0 : Int) < nw1 := by omega
   replace hmore := hmore (by omega) (by omega)
   obtain ⟨k, hk⟩ : ∃ k, k = 18 - B.length := ⟨_, rfl⟩
   have hr := o_hd k (by omega)
   have ek : IntKind.i64.wrap (18 - (B.length : Int)) = k := by rw [w64 (by omega) (by omega)]; omega
   rw [← hk] at hmore
   have e1 := o_fm (List.replicate k 48) B
   have e2 := o_fm (List.replicate k 48 ++ B) O
   rw [hmore] at e2
   rw [hW1]
   have hsz : (List.replicate k 48 ++ B).length ≤ 18 := by simp; omega
   generalize hRB : List.replicate k 48 ++ B = RB at *
   generalize hRR : List.replicate k 48 = RR at *
   have hrl : RR.length ≤ 18 := by rw [← hRR]; simp; omega
   refine A11 (fs hl1 (fs hl1' (fs ek e1))) hr ?_; try with_reducible exact tt
   exact ⟨i + 1, by rw [← hwd1]; exact hlt, Sub1.of (by rw [e2]), Sub1.of (by rw [← hwd1, hW1])⟩
end
end Go.Proofs.YtlelpbaeplcfiaaDoor.Am
namespace Go.Proofs.YtlelpbaeplcfiaaDoor.Am
section
open Go.RowKit
@[simp] theorem o_hk : intsV [] = some [] := rfl
@[simp] theorem o_hl (n : Int) : intsV [.d (.int .u8 n)] = some [n] := rfl
theorem o_hm (n : Nat) : ∀ i, i ≤ sizeD n → dval ((decs n).take i) = n % 10000 ^ i := by
 intro i hi
 have h1 := o_w ((decs n).take i) ((decs n).drop i)
 rw [List.take_append_drop, o_1b, List.length_take, Nat.min_eq_left (show i ≤ (decs n).length from hi)] at h1
 have h2 := o_19 (o_1c n) i
 generalize dval ((decs n).take i) = T at *
 generalize dval ((decs n).drop i) = R at *
 rw [h1, Nat.add_mul_mod_self_left, Nat.mod_eq_of_lt h2]
theorem o_hn (n i : Nat) (hi : i < sizeD n) : (decs n).getD i 0 = n / 10000 ^ i % 10000 := by
 have h1 := o_14 (decs n) i
 rw [o_hm n (i + 1) hi, o_hm n i (by omega), Nat.pow_succ, Nat.mod_mul] at h1
 have hp : 0 < 10000 ^ i := Nat.pow_pos (by decide)
 have h2 : 10000 ^ i * (n / 10000 ^ i % 10000) = 10000 ^ i * (decs n).getD i 0 := by omega
 exact (Nat.eq_of_mul_eq_mul_left hp h2).symm
theorem o_ho (n : Nat) : n < 10000 ^ sizeD n := by
 have := o_y (o_1c n)
 rwa [o_1b] at this
theorem o_hp (n i : Nat) (hi : i < sizeD n) : 0 < n / 10000 ^ i := by
 rcases Nat.eq_zero_or_pos (n / 10000 ^ i) with h | h
 ·have hp : 0 < 10000 ^ i := Nat.pow_pos (by decide)
  have h1 : n < 10000 ^ i := (Nat.div_eq_zero_iff_lt hp).1 h
  have h2 := o_12 (ws := decs n) (m := i) (o_1d n) (by rw [o_1b]; exact h1)
  unfold sizeD at hi
  omega
 ·exact h
theorem pow4 (i : Nat) : 10000 ^ i = 10 ^ (4 * i) := by rw [Nat.pow_mul]
def dN (n i : Nat) : List Nat := if i < sizeD n then padN (4 * i) n else decN n
def qD (w k : Nat) : Nat := w / 10 ^ k
theorem o_hq (w k : Nat) : qD w (k + 1) = qD w k / 10 := by rw [qD, qD, Nat.div_div_eq_div_mul, Nat.pow_succ]
theorem o_hr (w k : Nat) : padN (k + 1) w = (48 + qD w k % 10) :: padN k w := by
 rw [Nat.add_comm, o_f9]; rfl
theorem o_hs (c : Nat) (l : List Nat) : bst [c] ++ bst l = bst (c :: l) := o_fm [c] l
theorem o_ht (c : Nat) : strOf [(c : Int)] = bst [c] := rfl
set_option maxHeartbeats 2000000 in
theorem o_hu (n : Nat) (hn : sizeD n ≤ 10000) : Eqn Tryd.prog o_9g [.d (nD n)] [] (.d (.str (txt n))) [] := by
 refine Eqn.pure o_9i Plain.ok ?_
 simp only [o_9h, nD]
 by_cases h0 : n = 0
 ·subst h0
  have e : sizeD 0 = 0 := rfl
  rw [e, o_he]
  refine A00 ?_; try with_reducible exact tt
 have hL : 0 < sizeD n := by
  rcases Nat.eq_zero_or_pos (sizeD n) with h | h
  ·exact absurd (o_1f.1 (List.eq_nil_of_length_eq_zero h)) h0
  ·exact h
 have hL' : ¬ (sizeD n : Int) = 0 := by omega
 have hL2 : ¬ sizeD n = 0 := by omega
 have hdl : (dsD (decs n)).length = sizeD n := o_ey _
 have hget := fun i h => o_hn n i h
 have hgd := fun i => o_ez (decs n) i
 obtain ⟨DS, hDS⟩ : ∃ DS, DS = dsD (decs n) := ⟨_, rfl⟩
 rw [← hDS] at hdl hgd ⊢
 refine A10 (fs hL' hL2) ?_; try with_reducible exact tt
 refine AW.loopT (α := Nat) 0 (fun i => [(3, .d (.str (bst (dN n i)))), (4, .d (.int .i64 (i : Nat)))]) (fun i => []) (fun i => i ≤ sizeD n) (fun i => sizeD n - i) 0 ?_ ?_ (Nat.zero_le _) ?_ ?_ ?_
 ·simp
 ·simp
 ·simp [dN, hL, padN, o_fo]
 ·simp
 intro i hi
 simp
 by_cases hin : i < sizeD n
 ·have hin' : (i : Int) < sizeD n := by omega
  have hge := o_hp n i hin
  have hgi := hget i hin
  have hgdi := hgd i (by unfold sizeD at hin; exact hin)
  rw [hgi] at hgdi
  obtain ⟨w, hw⟩ : ∃ w, w = n / 10000 ^ i % 10000 := ⟨_, rfl⟩
  rw [← hw] at hgdi
  have hw4 : w < 10000 := by rw [hw]; exact Nat.mod_lt _ (by decide)
  have hd0 : dN n i = padN (4 * i) n := if_pos hin
  have hlen : (padN (4 * i) n).length = 4 * i := o_f8 _ _
  obtain ⟨K, hK4, hKc, hKe⟩ : ∃ K, K ≤ 4 ∧ (∀ k, k ≤ K → (k < K ↔ (k < 4 ∧ (i < sizeD n - 1 ∨ 0 < qD w k)))) ∧ padN K w ++ padN (4 * i) n = dN n (i + 1) := by
   by_cases hlast : i < sizeD n - 1
   ·refine ⟨4, Nat.le_refl _, fun k hk => by simp [hlast], ?_⟩
    rw [dN, if_pos (by omega), show 4 * (i + 1) = 4 + 4 * i by omega, o_f9, ← pow4, hw, show (10000 : Nat) = 10 ^ 4 from rfl, o_fe]
   ·have hi1 : i + 1 = sizeD n := by omega
    have hwv : w = n / 10000 ^ i := by
     rw [hw, Nat.mod_eq_of_lt]
     have := o_ho n
     rw [← hi1, Nat.pow_succ] at this
     exact Nat.div_lt_of_lt_mul this
    refine ⟨ndig w, o_fi w 4 hw4 (by decide), fun k hk => ?_, ?_⟩
    ·have h4 := o_fi w 4 hw4 (by decide)
     constructor
     ·intro hlt
      refine ⟨by omega, .inr ?_⟩
      rcases Nat.eq_zero_or_pos (qD w k) with h | h
      ·have h5 : w < 10 ^ k := (Nat.div_eq_zero_iff_lt (Nat.pow_pos (by decide))).1 h
       rcases Nat.eq_zero_or_pos k with rfl | hk0
       ·simp at h5; omega
       ·have := o_fi w k h5 hk0; omega
      ·exact h
     ·rintro ⟨-, h | h⟩
      ·exact absurd h hlast
      ·have := o_fj k w h
       have := o_fg (w / 10 ^ k)
       omega
    ·rw [dN, if_neg (by omega), o_fk (4 * i) n (by rw [← pow4]; exact hge), hwv, ← pow4]
     rfl
  rw [hd0]
  obtain ⟨P0, hP0⟩ : ∃ P, P = padN (4 * i) n := ⟨_, rfl⟩
  rw [← hP0] at hKe hlen ⊢
  have hgd2 : ∀ h, DS[i]'h = .int .i64 (w : Nat) := fun h => by
   rw [List.getElem?_eq_getElem h] at hgdi
   exact Option.some.inj hgdi
  have hi48 : i < DS.length := by omega
  clear hDS hgd hget hgi hgdi hge hd0
  refine A10 (fs hin (fs hin' (fs hgd2 hi48))) ?_; try with_reducible exact tt
  refine AW.loopT (α := Nat) 0 (fun k => [(3, .d (.str (bst (padN k w ++ P0)))), (5, .d (.int .i64 (qD w k : Nat))), (6, .d (.int .i64 (k : Nat)))]) (fun k => []) (fun k => k ≤ K) (fun k => K - k) 0 ?_ ?_ (Nat.zero_le _) ?_ ?_ ?_
  ·simp
  ·simp
  ·simp [padN, qD]
  ·simp
  intro k hk
  simp
  have xel : IntKind.i64.wrap ((sizeD n : Int) - 1) = ((sizeD n - 1 : Nat) : Int) := by rw [w64 (by omega) (by omega)]; omega
  have hkc := hKc k hk
  have hqle : qD w k ≤ w := Nat.div_le_self _ _
  obtain ⟨q, hq⟩ : ∃ q, q = qD w k := ⟨_, rfl⟩
  rw [← hq] at hkc hqle ⊢
  generalize hL1 : sizeD n - 1 = L1 at *
  by_cases hk4 : k < 4
  ·have hk4' : (k : Int) < 4 := by omega
   by_cases hla : i < L1
   ·have hla' : (i : Int) < L1 := by omega
    have hkK : k < K := hkc.2 ⟨hk4, .inl hla⟩
    have xek : IntKind.i64.wrap ((k : Int) + 1) = ((k + 1 : Nat) : Int) := by rw [w64 (by omega) (by omega)]; omega
    obtain ⟨r, hr⟩ : ∃ r, r = q % 10 := ⟨_, rfl⟩
    have xm10 : (q : Int).tmod 10 = r := by rw [hr]; exact modN q 10
    have r10 : r < 10 := by rw [hr]; exact Nat.mod_lt _ (by decide)
    obtain ⟨c, hc⟩ : ∃ c, c = 48 + r := ⟨_, rfl⟩
    have xa48 : IntKind.i64.wrap (48 + (r : Int)) = c := by rw [w64 (by omega) (by omega)]; omega
    have xu8c : IntKind.u8.wrap (c : Int) = c := by rw [IntKind.wrap_u8]; omega
    obtain ⟨q1, hq1⟩ : ∃ q1, q1 = q / 10 := ⟨_, rfl⟩
    have xdq : IntKind.i64.wrap ((q : Int) / 10) = q1 := by rw [hq1, w64 (by omega) (by omega)]; omega
    have xsO := o_ht c
    obtain ⟨X, hX⟩ : ∃ X, X = padN k w ++ P0 := ⟨_, rfl⟩
    have hXl : X.length ≤ 50000 := by rw [hX, List.length_append, o_f8, hlen]; omega
    have xbc := o_hs c X
    have hst : padN (k + 1) w ++ P0 = c :: X := by rw [o_hr, hX, hc, hr, hq]; rfl
    have hq' : qD w (k + 1) = q1 := by rw [o_hq, ← hq, hq1]
    rw [← hX]
    clear hr hc hq1 hX hKc hKe
    refine A10 (fs hk4 (fs hk4' (fs hla (fs hla' (fs xel (fs xek (fs xm10 (fs xa48 (fs xu8c (fs xdq (fs xsO xbc))))))))))) ?_; try with_reducible exact tt
    exact ⟨k + 1, by omega, by omega, Sub1.of (by rw [hst]), Sub1.int (by rw [hq']), Sub1.int (by omega)⟩
   ·have hla' : ¬ (i : Int) < L1 := by omega
    by_cases hq0 : 0 < q
    ·have hq0' : (0 : Int) < q := by omega
     have hkK : k < K := hkc.2 ⟨hk4, .inr hq0⟩
     have xek : IntKind.i64.wrap ((k : Int) + 1) = ((k + 1 : Nat) : Int) := by rw [w64 (by omega) (by omega)]; omega
     obtain ⟨r, hr⟩ : ∃ r, r = q % 10 := ⟨_, rfl⟩
     have xm10 : (q : Int).tmod 10 = r := by rw [hr]; exact modN q 10
     have r10 : r < 10 := by rw [hr]; exact Nat.mod_lt _ (by decide)
     obtain ⟨c, hc⟩ : ∃ c, c = 48 + r := ⟨_, rfl⟩
     have xa48 : IntKind.i64.wrap (48 + (r : Int)) = c := by rw [w64 (by omega) (by omega)]; omega
     have xu8c : IntKind.u8.wrap (c : Int) = c := by rw [IntKind.wrap_u8]; omega
     obtain ⟨q1, hq1⟩ : ∃ q1, q1 = q / 10 := ⟨_, rfl⟩
     have xdq : IntKind.i64.wrap ((q : Int) / 10) = q1 := by rw [hq1, w64 (by omega) (by omega)]; omega
     have xsO := o_ht c
     obtain ⟨X, hX⟩ : ∃ X, X = padN k w ++ P0 := ⟨_, rfl⟩
     have hXl : X.length ≤ 50000 := by rw [hX, List.length_append, o_f8, hlen]; omega
     have xbc := o_hs c X
     have hst : padN (k + 1) w ++ P0 = c :: X := by rw [o_hr, hX, hc, hr, hq]; rfl
     have hq' : qD w (k + 1) = q1 := by rw [o_hq, ← hq, hq1]
     rw [← hX]
     clear hr hc hq1 hX hKc hKe
     refine A10 (fs hk4 (fs hk4' (fs hla (fs hla' (fs hq0 (fs hq0' (fs xel (fs xek (fs xm10 (fs xa48 (fs xu8c (fs xdq (fs xsO xbc))))))))))))) ?_; try with_reducible exact tt
     exact ⟨k + 1, by omega, by omega, Sub1.of (by rw [hst]), Sub1.int (by rw [hq']), Sub1.int (by omega)⟩
    ·have hq0' : ¬ (0 : Int) < q := by omega
     have hkK : k = K := by
      rcases Nat.lt_or_ge k K with h | h
      ·have := (hKc k hk).1 h; omega
      ·omega
     subst hkK
     rw [hKe]
     have xei : IntKind.i64.wrap ((i : Int) + 1) = ((i + 1 : Nat) : Int) := by rw [w64 (by omega) (by omega)]; omega
     refine A10 (fs hk4 (fs hk4' (fs hla (fs hla' (fs hq0 (fs hq0' (fs xel xei))))))) ?_; try with_reducible exact tt
     exact ⟨i + 1, by omega, by omega, Sub1.refl _, Sub1.int (by omega)⟩
  ·have hk4' : ¬ (k : Int) < 4 := by omega
   have hkK : k = K := by
    rcases Nat.lt_or_ge k K with h | h
    ·have := (hKc k hk).1 h; omega
    ·omega
   subst hkK
   rw [hKe]
   have xei : IntKind.i64.wrap ((i : Int) + 1) = ((i + 1 : Nat) : Int) := by rw [w64 (by omega) (by omega)]; omega
   refine A10 (fs hk4 (fs hk4' (fs xel xei))) ?_; try with_reducible exact tt
   exact ⟨i + 1, by omega, by omega, Sub1.refl _, Sub1.int (by omega)⟩
 ·have h2 : i = sizeD n := by omega
  subst h2
  have hd : dN n (sizeD n) = decN n := if_neg (by omega)
  rw [hd]
  refine A00 ?_; try with_reducible exact tt
  exact Sub1.of rfl
end
end Go.Proofs.YtlelpbaeplcfiaaDoor.Am
namespace Go.Proofs.YtlelpbaeplcfiaaDoor.Am
section
open Go.RowKit
theorem o_hv : ∀ (ws : List Nat) (j v : Nat), j < ws.length → dval (ws.set j v) + 10000 ^ j * ws.getD j 0 = dval ws + 10000 ^ j * v
 | [], j, v, h => by simp at h
 | x :: ws, 0, v, h => by simp [dval]; omega
 | x :: ws, j + 1, v, h => by
  have ih := o_hv ws j v (by simpa using h)
  simp only [List.set_cons_succ, dval, List.getD_cons_succ]
  rw [Nat.pow_succ]
  generalize 10000 ^ j = P at *
  generalize ws.getD j 0 = g at *
  have e1 : P * 10000 * g = 10000 * (P * g) := by rw [Nat.mul_comm P, Nat.mul_assoc]
  have e2 : P * 10000 * v = 10000 * (P * v) := by rw [Nat.mul_comm P, Nat.mul_assoc]
  rw [e1, e2]
  omega
theorem o_hw {l : List Nat} {i j v : Nat} (h : i ≠ j) : (l.set i v).getD j 0 = l.getD j 0 := by
 rw [List.getD_eq_getElem?_getD, List.getElem?_set_ne h, ← List.getD_eq_getElem?_getD]
theorem dsmall.set {l : List Nat} (h : dsmall l) (j v : Nat) (hv : v < 10000) : dsmall (l.set j v) := fun x hx => by
 rcases List.mem_or_eq_of_mem_set hx with h1 | h1
 ·exact h x h1
 ·rw [h1]; exact hv
theorem o_hx {V A c o x D1 D2 Bk bk P K : Nat} (hv : D1 + P * K * c = V + P * (A * Bk)) (hs : D2 + P * K * o = D1 + P * K * (x % 10000)) (hx : x = o + c + A * bk) : D2 + P * (K * 10000) * (x / 10000) = V + P * (A * (Bk + K * bk)) := by
 have h1 : 10000 * (x / 10000) + x % 10000 = o + c + A * bk := by rw [Nat.div_add_mod]; exact hx
 have h2 : P * K * (10000 * (x / 10000) + x % 10000) = P * K * (o + c + A * bk) := by rw [h1]
 have h3 : P * (K * 10000) * (x / 10000) = P * K * (10000 * (x / 10000)) := by
  rw [← Nat.mul_assoc P K 10000, Nat.mul_assoc (P * K)]
 have h4 : P * (A * (Bk + K * bk)) = P * (A * Bk) + P * K * (A * bk) := by
  rw [Nat.mul_add, Nat.mul_add, show A * (K * bk) = K * (A * bk) by rw [← Nat.mul_assoc, Nat.mul_comm A K, Nat.mul_assoc], ← Nat.mul_assoc P K]
 rw [Nat.mul_add] at h2
 rw [Nat.mul_add, Nat.mul_add] at h2
 rw [h3, h4]
 generalize P * K * (10000 * (x / 10000)) = t1 at *
 generalize P * K * (x % 10000) = t2 at *
 generalize P * K * o = t3 at *
 generalize P * K * c = t4 at *
 generalize P * K * (A * bk) = t5 at *
 generalize P * (A * Bk) = t6 at *
 omega

@[simp] theorem lowI (n : Nat) : ∀ l : List Nat, V.lowl n (l.map fun x : Nat => V.d (D.int .i64 x)) = true
 | [] => rfl
 | x :: l => by
  have := lowI n l
  simp only [List.map_cons, V.lowl, this]; rfl
@[simp] theorem lowR (n m : Nat) (x : D) : V.lowl n (List.replicate m (V.d x)) = true := by
 induction m with
 | zero => rfl
 | succ m ih => simp only [List.replicate_succ, V.lowl, ih]; rfl
set_option maxHeartbeats 2000000 in
theorem o_hy (a b : List Nat) (ha : dsmall a) (hb : dsmall b) (hla : a.length ≤ 100000) (hlb : b.length ≤ 100000) : Eqn Tryd.prog o_an [.d (.sl a.length (dsD a)), .d (.sl b.length (dsD b))] [] (.d (nD (dval a * dval b))) [] := by
 refine Eqn.pure o_ap Plain.ok ?_
 obtain ⟨n, hn⟩ : ∃ n, n = a.length + b.length + 1 := ⟨_, rfl⟩
 have ew1 : IntKind.i64.wrap ((a.length : Int) + b.length) = (a.length : Int) + b.length := w64 (by omega) (by omega)
 have ew2 : IntKind.i64.wrap ((a.length : Int) + b.length + 1) = (n : Int) := by rw [w64 (by omega) (by omega)]; omega
 have hnb : (n : Int) * 8 ≤ 140737488355328 := by omega
 have hnb2 : n ≤ 17592186044416 := by omega
 simp only [o_ao, dsD]
 refine A10 (fs ew1 (fs ew2 (fs hnb hnb2))) ?_; try with_reducible exact tt
 have hrep : List.replicate n (V.d (D.int .i64 0)) = (List.replicate n 0).map fun x : Nat => V.d (D.int .i64 x) := by simp
 rw [hrep]
 refine AW.loopT (α := Nat × List Nat) 1 (fun s => [(6, .d (.int .i64 (s.1 : Nat)))]) (fun s => [(0, ⟨3, s.2.map fun x : Nat => V.d (D.int .i64 x)⟩)]) (fun s => s.1 ≤ a.length ∧ s.2.length = n ∧ dsmall s.2 ∧ dval s.2 = dval (a.take s.1) * dval b ∧ ∀ j, s.1 + b.length ≤ j → s.2.getD j 0 = 0) (fun s => a.length - s.1) (0, List.replicate n 0) ?_ ?_ ⟨Nat.zero_le _, by simp, by intro x hx; simp [List.mem_replicate] at hx; omega, by rw [o_x]; simp [dval], by intro j _; simp only [List.getD, List.getElem?_replicate]; split <;> rfl⟩ ?_ ?_ ?_
 ·simp
 ·simp
 ·simp
 ·simp
 rintro ⟨i, out⟩ ⟨hi, hol, hos, hov, hoz⟩
 simp only at hi hol hos hov hoz
 simp
 by_cases pa : i < a.length
 ·have hii : (i : Int) < a.length := by omega
  have ewi : IntKind.i64.wrap ((i : Int) + 1) = ((i + 1 : Nat) : Int) := by rw [w64 (by omega) (by omega)]; omega
  have g1 := ha.getD i
  have ga : a[i] = a.getD i 0 := by simp [List.getD, pa]
  have hta := o_14 a i
  have hal : ∀ j, i + max 0 b.length ≤ j → out.getD j 0 = 0 := fun j hj => hoz j (by omega)
  refine A10 (fs pa hii) ?_; try with_reducible exact tt
  refine AW.loopT (α := Nat × Nat × List Nat) 1 (fun s => [(8, .d (.int .i64 (s.1 : Nat))), (7, .d (.int .i64 (s.2.1 : Nat)))]) (fun s => [(0, ⟨3, s.2.2.map fun x : Nat => V.d (D.int .i64 x)⟩)]) (fun s => s.1 ≤ b.length + 1 ∧ s.2.1 ≤ 9999 ∧ (s.1 = b.length + 1 → s.2.1 = 0) ∧ s.2.2.length = n ∧ dsmall s.2.2 ∧ dval s.2.2 + 10000 ^ i * 10000 ^ s.1 * s.2.1 = dval out + 10000 ^ i * (a.getD i 0 * dval (b.take s.1)) ∧ ∀ j, i + max s.1 b.length ≤ j → s.2.2.getD j 0 = 0) (fun s => b.length + 1 - s.1) (0, 0, out) ?_ ?_ ⟨Nat.zero_le _, by simp, by simp, hol, hos, by simp [dval], hal⟩ ?_ ?_ ?_
  ·simp
  ·simp
  ·simp
  ·simp
  rintro ⟨k, c, o⟩ ⟨hk, hc, hck, hl, hs, hv, hz⟩
  simp only at hk hc hck hl hs hv hz
  simp
  have ewk : IntKind.i64.wrap ((k : Int) + 1) = ((k + 1 : Nat) : Int) := by rw [w64 (by omega) (by omega)]; omega
  have e99 : ∀ x : Nat, ((x : Int).tmod 10000 = ((x % 10000 : Nat) : Int)) ∧ ((x : Int).tdiv 10000 = ((x / 10000 : Nat) : Int)) := fun x => ⟨by rw [Int.tmod_eq_emod_of_nonneg (by omega)]; omega, by rw [Int.tdiv_eq_ediv_of_nonneg (by omega)]; omega⟩
  by_cases pb : k < b.length
  ·have hij : (k : Int) < b.length := by omega
   have g2 := hb.getD k
   have gb : b[k] = b.getD k 0 := by simp [List.getD, pb]
   have htb := o_14 b k
   obtain ⟨m, hm⟩ : ∃ m, m = i + k := ⟨_, rfl⟩
   have hmo : m < o.length := by omega
   have hmn : m < n := by omega
   have go := hs.getD m
   have gm : o[m] = o.getD m 0 := by simp [List.getD, hmo]
   have em : IntKind.i64.wrap ((i : Int) + k) = (m : Int) := by rw [w64 (by omega) (by omega)]; omega
   have hpm := Nat.mul_le_mul (show a.getD i 0 ≤ 9999 by omega) (show b.getD k 0 ≤ 9999 by omega)
   obtain ⟨p, hp⟩ : ∃ p, p = a.getD i 0 * b.getD k 0 := ⟨_, rfl⟩
   rw [← hp] at hpm
   have ep : IntKind.i64.wrap (((a.getD i 0 : Nat) : Int) * (b.getD k 0 : Nat)) = (p : Int) := by rw [hp, ← Int.natCast_mul]; exact w64 (by omega) (by rw [← hp]; omega)
   obtain ⟨x, hx⟩ : ∃ x, x = o.getD m 0 + c + p := ⟨_, rfl⟩
   have e1 : IntKind.i64.wrap ((o.getD m 0 : Nat) + (c : Int)) = (o.getD m 0 : Nat) + (c : Int) := w64 (by omega) (by omega)
   have e2 : IntKind.i64.wrap ((o.getD m 0 : Nat) + (c : Int) + p) = (x : Int) := by rw [w64 (by omega) (by omega)]; omega
   obtain ⟨e3, e4⟩ := e99 x
   have hds := o_hv o m (x % 10000) hmo
   rw [show 10000 ^ m = 10000 ^ i * 10000 ^ k by rw [hm, Nat.pow_add]] at hds
   have hst := o_hx (A := a.getD i 0) (bk := b.getD k 0) hv hds (by rw [hx, hp])
   have hset : (o.map fun x : Nat => V.d (D.int .i64 x)).set m (.d (.int .i64 (x % 10000 : Nat))) = (o.set m (x % 10000)).map fun x : Nat => V.d (D.int .i64 x) := by rw [List.map_set]
   have hs2 := hs.set m (x % 10000) (Nat.mod_lt _ (by decide))
   have hl2 : (o.set m (x % 10000)).length = n := by simpa using hl
   have hz2 : ∀ j, i + max (k + 1) b.length ≤ j → (o.set m (x % 10000)).getD j 0 = 0 := fun j hj => by rw [o_hw (by omega)]; exact hz j (by omega)
   have hxq : x / 10000 ≤ 9999 := by omega
   have e5 : IntKind.i64.wrap ((x / 10000 : Nat) : Int) = ((x / 10000 : Nat) : Int) := w64 (by omega) (by omega)
   rw [← htb] at hst
   clear hv hz hs hal hov hoz hta e99
   generalize o.set m (x % 10000) = o2 at *
   generalize x % 10000 = r at *
   generalize x / 10000 = q at *
   generalize a.getD i 0 = ai at *
   generalize b.getD k 0 = bk at *
   generalize o.getD m 0 = om at *
   refine A10 (fs pa (fs hii (fs pb (fs hij (fs ga (fs gb (fs hmo (fs hmn (fs hl (fs gm (fs em (fs ep (fs e1 (fs e2 (fs e3 (fs e4 (fs e5 (fs ewk hset)))))))))))))))))) ?_; try with_reducible exact tt
   exact ⟨k + 1, q, o2, ⟨by omega, hxq, by omega, hl2, hs2, hst, hz2⟩, by omega, ⟨Sub1.refl _, Sub1.int (by omega)⟩, Subs.refl _⟩
  ·have hij : ¬ (k : Int) < b.length := by omega
   by_cases hc0 : 0 < c
   ·have hc0' : (0 : Int) < c := by omega
    have hkb : k = b.length := by
     rcases Nat.lt_or_ge b.length k with h | h
     ·have := hck (by omega); omega
     ·omega
    obtain ⟨m, hm⟩ : ∃ m, m = i + k := ⟨_, rfl⟩
    have hmo : m < o.length := by omega
    have hmn : m < n := by omega
    have gz : o.getD m 0 = 0 := hz m (by omega)
    have gm : o[m] = 0 := by rw [← gz]; simp [List.getD, hmo]
    have em : IntKind.i64.wrap ((i : Int) + k) = (m : Int) := by rw [w64 (by omega) (by omega)]; omega
    have e2 : IntKind.i64.wrap (c : Int) = (c : Int) := w64 (by omega) (by omega)
    have e3 : (c : Int).tmod 10000 = (c : Int) := by rw [Int.tmod_eq_emod_of_nonneg (by omega)]; omega
    have e4 : (c : Int).tdiv 10000 = 0 := by rw [Int.tdiv_eq_ediv_of_nonneg (by omega)]; omega
    have hds := o_hv o m c hmo
    rw [gz, Nat.mul_zero, Nat.add_zero, show 10000 ^ m = 10000 ^ i * 10000 ^ k by rw [hm, Nat.pow_add]] at hds
    have hst : dval (o.set m c) + 10000 ^ i * 10000 ^ (k + 1) * 0 = dval out + 10000 ^ i * (a.getD i 0 * dval (b.take (k + 1))) := by
     rw [Nat.mul_zero, Nat.add_zero, hds, hv, List.take_of_length_le (by omega), List.take_of_length_le (by omega)]
    have hset : (o.map fun x : Nat => V.d (D.int .i64 x)).set m (.d (.int .i64 (c : Nat))) = (o.set m c).map fun x : Nat => V.d (D.int .i64 x) := by rw [List.map_set]
    have hs2 := hs.set m c (by omega)
    have hl2 : (o.set m c).length = n := by simpa using hl
    have hz2 : ∀ j, i + max (k + 1) b.length ≤ j → (o.set m c).getD j 0 = 0 := fun j hj => by rw [o_hw (by omega)]; exact hz j (by omega)
    clear hv hz hs hal hov hoz hta e99 hds
    generalize o.set m c = o2 at *
    generalize a.getD i 0 = ai at *
    refine A10 (fs pa (fs hii (fs pb (fs hij (fs hc0 (fs hc0' (fs hmo (fs hmn (fs hl (fs gm (fs em (fs e2 (fs e3 (fs e4 (fs ewk hset))))))))))))))) ?_; try with_reducible exact tt
    exact ⟨k + 1, 0, o2, ⟨by omega, by omega, fun _ => rfl, hl2, hs2, by rw [ga]; exact hst, hz2⟩, by omega, ⟨Sub1.int (by omega), Sub1.int (by omega)⟩, Subs.refl _⟩
   ·have hc0' : ¬ (0 : Int) < c := by omega
    have hcz : c = 0 := by omega
    rw [hcz, Nat.mul_zero, Nat.add_zero, List.take_of_length_le (by omega)] at hv
    have hnv : dval o = dval (a.take (i + 1)) * dval b := by
     rw [hv, hta, hov, Nat.add_mul, Nat.mul_assoc]
    have hnz : ∀ j, i + 1 + b.length ≤ j → o.getD j 0 = 0 := fun j hj => hz j (by omega)
    clear hv hz hal hov hoz hta e99
    refine A10 (fs pa (fs hii (fs pb (fs hij (fs hc0 (fs hc0' ewi)))))) ?_; try with_reducible exact tt
    exact ⟨i + 1, o, ⟨by omega, hl, hs, hnv, hnz⟩, by omega, Sub1.int (by omega), Subs.refl _⟩
 ·have hii : ¬ (i : Int) < a.length := by omega
  have hi2 : i = a.length := by omega
  rw [hi2, List.take_length] at hov
  have ht := o_f1 out hos (by omega)
  rw [hov, hol] at ht
  have htk : (dsD out).take n = dsD out := List.take_of_length_le (by rw [o_ey]; omega)
  have hob : (out.map fun x : Nat => V.d (D.int .i64 x)) = (dsD out).map V.d := by simp [dsD]
  rw [hob]
  refine AW.freeze 0 1 ⟨3, (dsD out).map .d⟩ (dsD out) (by simp) rfl ?_
  simp [frzH, htk]
  refine A11 (fs pa hii) ht ?_; try with_reducible exact tt
end
end Go.Proofs.YtlelpbaeplcfiaaDoor.Am
namespace Go.Proofs.YtlelpbaeplcfiaaDoor.Am
section
open Go.RowKit
end
end Go.Proofs.YtlelpbaeplcfiaaDoor.Am
namespace Go.Proofs.YtlelpbaeplcfiaaDoor.Am
section
open Go.RowKit
theorem o_hz {x m : Nat} (h : x < 10000 ^ m) : sizeD x ≤ m := o_12 (o_1d x) (by rwa [o_1b])
end
end Go.Proofs.YtlelpbaeplcfiaaDoor.Am
namespace Go.Proofs.YtlelpbaeplcfiaaDoor.Am
section
open Go.RowKit
def plR (p : Pl) : List V := [.d (.int .i64 p.x), .d (.int .i64 p.shift), .d (.sl (sizeD p.value) (dsD (decs p.value))), .d (.sl (sizeD p.reply) (dsD (decs p.reply)))]
theorem o_i0 {x n m : Nat} (h : x < 2 ^ n) (hm : n ≤ m) : sizeD x ≤ m := o_hz (Nat.lt_of_lt_of_le h (Nat.le_trans (Nat.pow_le_pow_left (by decide : 2 ≤ 10000) n) (Nat.pow_le_pow_right (by decide) hm)))
end
end Go.Proofs.YtlelpbaeplcfiaaDoor.Am
namespace Go.Proofs.YtlelpbaeplcfiaaDoor.Am
section
open Go.RowKit
def lowJ (k n : Nat) : Nat := if n = 0 then k else k + 1 - n
def iI (j n : Nat) : Int := (j : Int) - n
end
end Go.Proofs.YtlelpbaeplcfiaaDoor.Am
namespace Go.Proofs.YtlelpbaeplcfiaaDoor.Am
section
open Go.RowKit
theorem text10 : smallS 10 = ⟨#[49, 48]⟩ := by kernel_rfl
theorem text14 : smallS 1 ++ ⟨#[47]⟩ ++ smallS (3 + 1) = ⟨#[49, 47, 52]⟩ := by kernel_rfl

theorem o_i1 : Eqn Tryd.prog o_6y [] [] (.d (.bool true)) [] := by
 refine Eqn.pure o_70 (o_5f _) ?_
 simp only [o_6z]
 have h1 := o_e5 1 5 1 (by omega) (by omega) (by kernel_rfl) (by omega)
 have h2 := o_e6 1 4 (by omega) (by omega) (by omega)
 rw [show (2 ^ 1 + 1) * 2 ^ (5 / 2 ^ 1) - 2 ^ 1 = 10 by rfl] at h1
 rw [show 2 ^ (4 / 2 ^ 1) - 1 = 3 by rfl] at h2
 refine G0 ?_; try with_reducible exact tt
 refine CallS.pu (h1) (R0 ?_); try with_reducible exact tt
 refine CallS.pu (h2) (R0 ?_); try with_reducible exact tt
 have h3 := o_dg 10 (by omega)
 rw [text10] at h3
 refine CallS.pu (h3) (R0 ?_); try with_reducible exact tt
 have h4 := o_di 1 3 (by omega) (by omega) (by omega)
 rw [text14] at h4
 refine CallS.pu (h4) (R0 ?_); try with_reducible exact tt
 refine CallS.pu (o_dj 8) (R0 ?_); try with_reducible exact tt
end
end Go.Proofs.YtlelpbaeplcfiaaDoor.Am
namespace Go.Proofs.YtlelpbaeplcfiaaDoor.Am
section
open Go.RowKit
theorem o_i2 (a b : Nat) (ha : size a ≤ 1000000) (hb : size b ≤ 1000000) : Eqn Tryd.prog o_9a [.d (.agg [natW a, .bool false]), .d (.agg [natW b, .bool false])] [] (.d (.agg [natW (a * b), .bool false])) [] := by
 refine Eqn.pure o_9c (o_5f _) ?_
 simp only [o_9b]
 refine G0 ?_; try with_reducible exact tt
 refine CallS.pu (o_gq a b ha hb) (R0 ?_); try with_reducible exact tt
 refine CallS.pu (o_cz (a * b)) (R0 ?_); try with_reducible exact tt

theorem o_i3 (a b : Nat) (ha : size a ≤ 1000000) (hb : size b ≤ 1000000) : Eqn Tryd.prog o_97 [.d (.agg [natW a, .bool false]), .d (.agg [natW b, .bool false])] [] (.d (.int .i64 (cmpZ a b))) [] := by
 refine Eqn.pure o_99 (o_5f _) ?_
 simp only [o_98]
 refine G0 ?_; try with_reducible exact tt
 refine AW.cond rfl (fun h => ?_) (fun h => ?_)
 ·simp at h
 refine G0 ?_; try with_reducible exact tt
 refine AW.cond rfl (fun h => ?_) (fun h => ?_)
 ·simp at h
 refine G0 ?_; try with_reducible exact tt
 refine AW.cond rfl (fun h => ?_) (fun h => ?_)
 ·simp at h
 refine G0 ?_; try with_reducible exact tt
 refine CallS.pu (o_bz a b ha hb) (R0 ?_); try with_reducible exact tt

theorem o_i4 (a d : Nat) (h : size d ≤ 1000000) : Eqn Tryd.prog o_9d [.d (.agg [natW a, .bool false, natW d])] [] (.d (.agg [natW (d + 1), .bool false])) [] := by
 refine Eqn.pure o_9f (o_5f _) ?_
 simp only [o_9e]
 refine G0 ?_; try with_reducible exact tt
 refine CallS.pu (o_d3 a d false h) (R0 ?_); try with_reducible exact tt
 refine CallS.pu (o_cz (d + 1)) (R0 ?_); try with_reducible exact tt

theorem o_i5 (a b : Nat) (ha : size a ≤ 1000) (hb : size b ≤ 1000) (ha' : size (a + 1) ≤ 1000) (hb' : size (b + 1) ≤ 1000) :
  Eqn Tryd.prog o_7p [.d (.agg [natW 1, .bool false, natW a]), .d (.agg [natW 1, .bool false, natW b])] [] (.d (.int .i64 (cmpZ (b + 1) (a + 1)))) [] := by
 refine Eqn.pure o_7r (o_5f _) ?_
 simp only [o_7q]
 have s1 : size 1 ≤ 1 := o_cy (by omega)
 have h1 := o_i2 1 (b + 1) (by omega) (by omega)
 have h2 := o_i2 1 (a + 1) (by omega) (by omega)
 rw [Nat.one_mul] at h1 h2
 refine G0 ?_; try with_reducible exact tt
 refine CallS.pu (o_i4 1 b (by omega)) (R0 ?_); try with_reducible exact tt
 refine CallS.pu (h1) (R0 ?_); try with_reducible exact tt
 refine CallS.pu (o_i4 1 a (by omega)) (R0 ?_); try with_reducible exact tt
 refine CallS.pu (h2) (R0 ?_); try with_reducible exact tt
 refine CallS.pu (o_i3 (b + 1) (a + 1) (by omega) (by omega)) (R0 ?_); try with_reducible exact tt

theorem o_i6 (d k : Nat) (hd : d ≤ 8) (hk : k ≤ 1023) :
  Eqn Tryd.prog o_71 [.d (.int .i64 d), .d (.int .i64 k)] [] (.tup [.d (.agg [natW 1, .bool false, natW (2 ^ (k / 2 ^ d) - 1)]), .d (.int .i64 0)]) [] := by
 refine Eqn.pure o_73 (o_cb _ _) ?_
 simp only [o_72]
 refine G0 ?_; try with_reducible exact tt
 refine CallS.pf 1 1 ⟨3, _⟩ [.int .i64 k] (o_dm d k) (by first | rfl | (simp; done)) (R0 ?_); try with_reducible exact tt
 have hw := o_e4 hd hk
 refine AW.cond rfl (fun h => ?_) (fun h => ?_)
 ·simp [hw] at h
 have hp := o_dl d k (by omega) (by omega)
 have hu : k / 2 ^ d ≤ k := Nat.div_le_self _ _
 generalize k / 2 ^ d = u at hp hu ⊢
 refine G0 ?_; try with_reducible exact tt
 refine CallS.pu (hp) (R0 ?_); try with_reducible exact tt
 refine CallS.pu (o_h0 u (by omega)) (R0 ?_); try with_reducible exact tt

theorem o_i7 (d k : Nat) (hd : d ≤ 8) (hk : k ≤ 1023) : partV d k = ((k % 2 ^ d : Nat) : Int) := by
 have h2 : 2 ^ d ≤ 256 := Nat.pow_le_pow_right (n := 2) (by omega) hd
 have h2' : 0 < 2 ^ d := Nat.two_pow_pos d
 have hm := Nat.mod_lt k h2'
 have e0 : (2 : Int) ^ d = (2 ^ d : Nat) := by rw [Int.natCast_pow]; rfl
 have e1 : IntKind.i64.wrap (2 ^ d : Nat) = (2 ^ d : Nat) := by rw [w64 (by omega) (by omega)]
 have e2 : IntKind.i64.wrap (((2 ^ d : Nat) : Int) - 1) = ((2 ^ d - 1 : Nat) : Int) := by rw [w64 (by omega) (by omega)]; omega
 rw [partV, e0, e1, e2]
 show IntKind.i64.wrap (((BitVec.ofInt 64 (k : Int)) &&& (BitVec.ofInt 64 ((2 ^ d - 1 : Nat) : Int))).toNat : Int) = _
 rw [BitVec.toNat_and, BitVec.ofInt_natCast, BitVec.ofInt_natCast, BitVec.toNat_ofNat, BitVec.toNat_ofNat, Nat.mod_eq_of_lt (show k < 2 ^ 64 by omega), Nat.mod_eq_of_lt (show 2 ^ d - 1 < 2 ^ 64 by omega), Nat.and_two_pow_sub_one_eq_mod]
 exact w64 (by omega) (by omega)

theorem o_i8 (d k : Nat) (hd : d ≤ 8) (hk : k ≤ 1023) :
  Eqn Tryd.prog o_74 [.d (.int .i64 d), .d (.int .i64 k)] [] (.tup [.d (.agg [natW ((2 ^ d + k % 2 ^ d) * 2 ^ (k / 2 ^ d) - 2 ^ d)]), .d (.int .i64 0)]) [] := by
 have h2 : 2 ^ d ≤ 256 := Nat.pow_le_pow_right (n := 2) (by omega) hd
 have hm := Nat.mod_lt k (Nat.two_pow_pos d)
 exact o_e5 d k (k % 2 ^ d) hd hk (o_i7 d k hd hk) (by omega)
end
end Go.Proofs.YtlelpbaeplcfiaaDoor.Am
namespace Go.Proofs.YtlelpbaeplcfiaaDoor.Am
section
open Go.RowKit

theorem o_i9 {P : Program} {f : FuncId} {c : C} {rs : List RV} {nt : Nat} (hf : fnOf P f = some (c, rs, nt, false)) (vs : Array Value) (w : World) : (callFunc f vs).run P w = .ok (.enter f vs) w := by
 unfold fnOf at hf
 split at hf
 ·rename_i fn hfn
  split at hf
  ·rename_i b hb
   simp only [Option.some.injEq, Prod.mk.injEq] at hf
   obtain ⟨h1, h2, h3, h4⟩ := hf
   have h1 : ¬ fn.name = "runtime.NumGoroutine" := by simpa using h4
   simp [callFunc, hfn, h1, hb]
  ·cases hf
 ·cases hf

abbrev memW (W : World) : Mem := ⟨fun _ => none, fun b => b < W.heap.size, W⟩

theorem o_ia {P : Program} {f : FuncId} {args : List V} {c : C} {rs : List RV} {nt : Nat} (hf : fnOf P f = some (c, rs, nt, false)) (E : Eqn P f args [] (.d (.bool true)) []) {W : World} {vs : List Value} (h : V.reps (memW W) args vs) (ht : Tabs (memW W)) :
  Calls P f vs.toArray W (fun e W' => e = .returned (.bool true) ∧ Same W W') := by
 rcases E.run (memW W) vs ⟨fun b h => h, fun n b h => (by cases h), ht⟩ h (by simp) (fun n i b h => by simp at h) (fun _ _ => rfl) with ⟨v, h1, _⟩ | ⟨_, h2⟩
 ·rw [o_i9 hf] at h1; cases h1
 ·refine h2.mono ?_
  rintro e w' ⟨v, m', rfl, rfl, hE⟩
  have hv := hE.rep
  rw [V.rep_d] at hv
  unfold D.rep at hv
  subst hv
  exact ⟨rfl, hE.le.os, hE.le.tape, hE.le.output, hE.le.size, fun k hk _ => hE.le.imm k hk⟩

theorem reps_of {I : Nat → Prop} {w : World} {α : Type} (f : α → D) (g : α → Value) (h : ∀ a, D.rep I w (f a) (g a)) : ∀ l : List α, D.reps I w (l.map f) (l.map g)
 | [] => by simp
 | a :: l => by
  rw [List.map_cons, List.map_cons, D.reps_cons]
  exact ⟨h a, reps_of f g h l⟩
end
end Go.Proofs.YtlelpbaeplcfiaaDoor.Am
namespace Go.Proofs.YtlelpbaeplcfiaaDoor.Am
section
open Go.RowKit
theorem o_ib {W : World} {g0 : Nat} {zs : List Int} (ht : ∀ g l, tab g = some l → g = g0 ∧ l = zs.map fun z : Int => D.int .u64 z) (hlt : g0 < W.heap.size) (hc : ∀ (i : Nat) u, (zs.map (Value.int .u64))[i]? = some u → W.cell? ⟨g0, i, none⟩ = some u) : Tabs (memW W) := by
 intro g l hg
 obtain ⟨rfl, rfl⟩ := ht g l hg
 unfold D.rep
 refine ⟨g, 0, rfl, hlt, zs.map (Value.int .u64), fun u hu => ?_, reps_of (fun z : Int => D.int .u64 z) (Value.int .u64) (fun _ => by unfold D.rep; rfl) zs, fun i u hu => ?_⟩
 ·obtain ⟨z, -, rfl⟩ := List.mem_map.1 hu
  rfl
 ·rw [Nat.zero_add]; exact hc i u hu
end
end Go.Proofs.YtlelpbaeplcfiaaDoor.Am
namespace Go.Proofs.YtlelpbaeplcfiaaDoor.Am
section
open Go.RowKit
theorem o_ic (n : Nat) (hn : size n ≤ 1000) (hd : sizeD n ≤ 10000) : Eqn Tryd.prog o_7s [.d (.agg [natW n]), .d (nD n)] [] (.d (.bool true)) [] := by
 refine Eqn.pure o_7u Plain.ok ?_
 simp only [o_7t]
 have h1 := o_hj n hn
 have h2 := o_hu n hd
 refine A02 h1 h2 ?_; try with_reducible exact tt
theorem o_id (n : Nat) (h : size n ≤ 1000) : Eqn Tryd.prog o_8s [.d (.agg [natW n, .bool false])] [] (.d (.str (txt n))) [] := by
 refine Eqn.pure o_8u (o_5f _) ?_
 simp only [o_8t]
 have h1 := o_hj n h
 refine A01 h1 ?_; try with_reducible exact tt
theorem o_ie (n : Nat) (h : size n ≤ 1000) : Eqn Tryd.prog o_7d [.d (.agg [natW n, .bool false, natW 0])] [] (.d (.str (txt n))) [] := by
 refine Eqn.pure o_7f (o_5f _) ?_
 simp only [o_7e]
 have h1 := o_d4 n 0 false
 have h2 := o_id n h
 refine A02 h1 h2 ?_; try with_reducible exact tt
def chD (s k : Int) : D := if atE s k = 0 then .agg [natW 1, .bool false, natW (2 ^ (atP s k).shift - 1)] else .agg [natW 0, .bool false, natW 0]
end
end Go.Proofs.YtlelpbaeplcfiaaDoor.Am
namespace Go.Proofs.YtlelpbaeplcfiaaDoor.Am
section
open Go.RowKit
def fV (d k : Nat) : Nat := (2 ^ d + k % 2 ^ d) * 2 ^ (k / 2 ^ d) - 2 ^ d
theorem o_if (d : Nat) : fV d 0 = 0 := by simp [fV]
theorem o_ig (k m : Nat) (hm : 0 < m) : ((k + 1) / m = k / m ∧ (k + 1) % m = k % m + 1) ∨ ((k + 1) / m = k / m + 1 ∧ (k + 1) % m = 0 ∧ k % m + 1 = m) := by
 have h1 := Nat.div_add_mod k m
 have h2 := Nat.mod_lt k hm
 generalize k / m = q at *
 generalize k % m = r at *
 by_cases h : r + 1 < m
 ·left
  have e : k + 1 = r + 1 + m * q := by omega
  rw [e, Nat.add_mul_div_left _ _ hm, Nat.add_mul_mod_self_left, Nat.div_eq_of_lt h, Nat.mod_eq_of_lt h]
  omega
 ·right
  have e : k + 1 = 0 + m * (q + 1) := by rw [Nat.mul_succ]; omega
  rw [e, Nat.add_mul_div_left _ _ hm, Nat.add_mul_mod_self_left]
  simp; omega
theorem o_ih (d k : Nat) : fV d (k + 1) = fV d k + 2 ^ (k / 2 ^ d) := by
 have hm := Nat.two_pow_pos d
 unfold fV
 generalize 2 ^ d = m at *
 have hle : m ≤ (m + k % m) * 2 ^ (k / m) := Nat.le_trans (Nat.le_add_right _ _) (Nat.le_mul_of_pos_right _ (Nat.two_pow_pos _))
 rcases o_ig k m hm with ⟨h1, h2⟩ | ⟨h1, h2, h3⟩
 ·rw [h1, h2, ← Nat.add_assoc, Nat.add_mul, Nat.one_mul]
  exact Nat.sub_add_comm hle
 ·rw [h1, h2, Nat.add_zero, Nat.pow_succ]
  have e : k % m = m - 1 := by omega
  rw [e] at hle ⊢
  generalize 2 ^ (k / m) = u at *
  have e2 : (m + (m - 1)) * u + u = m * (u * 2) := by
   rw [← Nat.succ_mul, show (m + (m - 1)).succ = m * 2 by omega, Nat.mul_assoc, Nat.mul_comm 2 u]
  rw [← e2]
  exact Nat.sub_add_comm hle
theorem o_ii (d k : Nat) (hd : d ≤ 8) (hk : k ≤ 1023) : fV d k < 2 ^ 1100 := by
 have h1 : k / 2 ^ d ≤ 1023 := Nat.le_trans (Nat.div_le_self _ _) hk
 have h2 : 2 ^ d ≤ 256 := Nat.pow_le_pow_right (n := 2) (by omega) hd
 have h3 := Nat.mod_lt k (Nat.two_pow_pos d)
 obtain ⟨E, hE⟩ : ∃ E, E = 1100 := ⟨_, rfl⟩
 rw [← hE]
 refine Nat.lt_of_le_of_lt (Nat.sub_le _ _) ?_
 have h4 : (2 ^ d + k % 2 ^ d) * 2 ^ (k / 2 ^ d) < 2 ^ 10 * 2 ^ (k / 2 ^ d) := Nat.mul_lt_mul_of_pos_right (by omega) (Nat.two_pow_pos _)
 rw [← Nat.pow_add] at h4
 exact Nat.lt_of_lt_of_le h4 (Nat.pow_le_pow_right (by decide) (by omega))
def pS (d i : Nat) : Nat := 2 ^ ((i - 1) / 2 ^ d)
theorem o_ij (d i : Nat) : 2 ^ (i / 2 ^ d) = if 0 < i ∧ i % 2 ^ d = 0 then 2 * pS d i else pS d i := by
 unfold pS
 rcases Nat.eq_zero_or_pos i with rfl | hi
 ·simp
 obtain ⟨j, rfl⟩ : ∃ j, i = j + 1 := ⟨i - 1, by omega⟩
 rw [Nat.add_sub_cancel]
 rcases o_ig j (2 ^ d) (Nat.two_pow_pos d) with ⟨h1, h2⟩ | ⟨h1, h2, -⟩
 ·rw [if_neg (by omega), h1]
 ·rw [if_pos ⟨by omega, h2⟩, h1, Nat.pow_succ, Nat.mul_comm]
theorem o_ik (d k : Nat) (hd : d ≤ 8) (hk : k ≤ 1023) : Eqn Tryd.prog o_7v [.d (.int .i64 d), .d (.int .i64 k)] [] (.d (nD (fV d k))) [] := by
 refine Eqn.pure o_7x Plain.ok ?_
 simp only [o_7w]
 have h1 := o_f4 1 (by decide)
 refine A01 h1 ?_; try with_reducible exact tt
 refine AW.loopT (α := Nat) 0 (fun i => [(5, .d (nD (fV d i))), (6, .d (nD (pS d i))), (7, .d (.int .i64 (i : Nat)))]) (fun i => []) (fun i => i ≤ k) (fun i => k - i) 0 ?_ ?_ (Nat.zero_le _) ?_ ?_ ?_
 ·simp
 ·simp
 ·simp [o_if, pS]
  exact Sub1.nil
 ·simp
 intro i hi
 simp
 by_cases hin : i < k
 ·have hin' : (i : Int) < k := by omega
  have hsz := o_ec d (by omega)
  have hpn := o_ij d i
  have hfs := o_ih d i
  have b1 := o_ii d i hd (by omega)
  have z1 := o_i0 b1 (m := 2000) (by omega)
  have z3 := o_i0 (x := pS d i) (n := (i - 1) / 2 ^ d + 1) (m := 2000) (Nat.pow_lt_pow_right (by decide) (Nat.lt_succ_self _)) (by have := Nat.div_le_self (i - 1) (2 ^ d); omega)
  have z4 := o_i0 (x := 2 ^ (i / 2 ^ d)) (n := i / 2 ^ d + 1) (m := 2000) (Nat.pow_lt_pow_right (by decide) (Nat.lt_succ_self _)) (by have := Nat.div_le_self i (2 ^ d); omega)
  have hdb := o_f7 (pS d i) (pS d i) (by omega) (by omega)
  rw [← Nat.two_mul] at hdb
  have had := o_f7 (fV d i) (2 ^ (i / 2 ^ d)) (by omega) (by omega)
  rw [← hfs] at had
  have hps : pS d (i + 1) = 2 ^ (i / 2 ^ d) := by unfold pS; rw [Nat.add_sub_cancel]
  have xei : IntKind.i64.wrap ((i : Int) + 1) = ((i + 1 : Nat) : Int) := by rw [w64 (by omega) (by omega)]; omega
  have hmd : (i : Int).tmod (p2 d : Nat) = ((i % p2 d : Nat) : Int) := modN i (p2 d)
  have hp0 : p2 d ≠ 0 := by have := o_ea d; omega
  have hp2 : p2 d = 2 ^ d := rfl
  rw [← hp2] at hpn hps had
  rw [← hps] at had hpn
  obtain ⟨F1, hF1⟩ : ∃ F, F = fV d (i + 1) := ⟨_, rfl⟩
  obtain ⟨P1, hP1⟩ : ∃ F, F = pS d (i + 1) := ⟨_, rfl⟩
  rw [← hF1, ← hP1] at had
  rw [← hP1] at hpn
  clear b1 z1 z3 z4 hfs hps hp2
  generalize fV d i = F0 at *
  generalize pS d i = P0 at *
  generalize p2 d = M at *
  obtain ⟨r, hr⟩ : ∃ r, r = i % M := ⟨_, rfl⟩
  rw [← hr] at hmd hpn
  by_cases hi0 : 0 < i
  ·have hi0' : (0 : Int) < i := by omega
   by_cases hr0 : r = 0
   ·rw [if_pos ⟨hi0, hr0⟩] at hpn
    rw [← hpn] at hdb
    have hr0' : (r : Int) = 0 := by omega
    refine A13 (fs hin (fs hin' (fs hi0 (fs hi0' (fs hmd (fs hr0 (fs hr0' (fs hp0 xei)))))))) hsz hdb had ?_; try with_reducible exact tt
    exact ⟨i + 1, by omega, by omega, Sub1.of (by rw [hF1]), Sub1.of (by rw [hP1]), Sub1.int (by omega)⟩
   ·rw [if_neg (fun h => hr0 h.2)] at hpn
    rw [hpn] at had
    have hr0' : ¬ (r : Int) = 0 := by omega
    refine A12 (fs hin (fs hin' (fs hi0 (fs hi0' (fs hmd (fs hr0 (fs hr0' (fs hp0 xei)))))))) hsz had ?_; try with_reducible exact tt
    exact ⟨i + 1, by omega, by omega, Sub1.of (by rw [hF1]), Sub1.of (by rw [← hP1, hpn]), Sub1.int (by omega)⟩
  ·rw [if_neg (fun h => hi0 h.1)] at hpn
   rw [hpn] at had
   have hi0' : ¬ (0 : Int) < i := by omega
   refine A11 (fs hin (fs hin' (fs hi0 (fs hi0' xei)))) had ?_; try with_reducible exact tt
   exact ⟨i + 1, by omega, by omega, Sub1.of (by rw [hF1]), Sub1.of (by rw [← hP1, hpn]), Sub1.int (by omega)⟩
 ·have : i = k := by omega
  subst this
  refine A00 ?_; try with_reducible exact tt
theorem o_il (d k : Int) (h : wrongZ d [k] ≠ 0) : Eqn Tryd.prog o_71 [.d (.int .i64 d), .d (.int .i64 k)] [] (.tup [.d (.agg [natW 0, .bool false, natW 0]), .d (.int .i64 (wrongZ d [k]))]) [] := by
 refine Eqn.pure o_73 (o_cb _ _) ?_
 simp only [o_72]
 have hw := o_dm d k
 generalize wrongZ d [k] = w at *
 refine A00 ?_; try with_reducible exact tt
 refine CallS.pf 1 1 ⟨3, _⟩ [.int .i64 k] (hw) (by first | rfl | (simp [h]; done)) (R1 h ?_); try with_reducible exact tt
 refine A10 h ?_; try with_reducible exact tt
 exact Sub1.tup (Subs.cons (Sub1.aggd (Subs.cons Sub1.nil (Subs.cons (Sub1.refl _) (Subs.cons Sub1.nil (Subs.refl _))))) (Subs.refl _))
theorem o_im (d k : Int) (h : wrongZ d [k] ≠ 0) : Eqn Tryd.prog o_74 [.d (.int .i64 d), .d (.int .i64 k)] [] (.tup [.d (.agg [natW 0]), .d (.int .i64 (wrongZ d [k]))]) [] := by
 refine Eqn.pure o_76 (o_cb _ _) ?_
 simp only [o_75]
 have hw := o_dm d k
 generalize wrongZ d [k] = w at *
 refine A00 ?_; try with_reducible exact tt
 refine CallS.pf 1 1 ⟨3, _⟩ [.int .i64 k] (hw) (by first | rfl | (simp [h]; done)) (R1 h ?_); try with_reducible exact tt
 refine A10 h ?_; try with_reducible exact tt
 exact Sub1.tup (Subs.cons Sub1.nat0 (Subs.refl _))
theorem o_in (d : Int) : (wrongZ d [0] == 0) = decide (0 ≤ d ∧ d ≤ 8) := by
 unfold wrongZ
 by_cases h : 0 ≤ d ∧ d ≤ 8
 ·simp [h, okK]
 ·rw [if_neg h]; simp [h]
set_option maxHeartbeats 8000000 in
theorem o_io (d k : Int) : Eqn Tryd.prog o_6g [.d (.int .i64 d), .d (.int .i64 k)] [] (.d (.bool true)) [] := by
 refine Eqn.pure o_6i (o_5f _) ?_
 simp only [o_6h]
 have hlaw := o_i1
 have hg := o_dj d
 have hw0 := o_e7 d 0
 have hw := o_e7 d k
 have hgw := o_in d
 generalize decide (0 ≤ d ∧ d ≤ 8) = gd at *
 generalize wrongZ d [0] = E0 at *
 by_cases hE : wrongZ d [k] = 0
 ·obtain ⟨g1, g2, g3, g4⟩ := o_dn hE
  rw [hE] at hw
  obtain ⟨D, hD⟩ : ∃ D : Nat, d = D := ⟨d.toNat, by omega⟩
  obtain ⟨K, hK⟩ : ∃ K : Nat, k = K := ⟨k.toNat, by omega⟩
  subst hD
  subst hK
  have hD8 : D ≤ 8 := by omega
  have hK3 : K ≤ 1023 := by omega
  have hc := o_i6 D K hD8 hK3
  have hv := o_i8 D K hD8 hK3
  have hx := o_ed D K (by omega) (by omega)
  have hu : K / 2 ^ D ≤ K := Nat.div_le_self _ _
  have hh := o_h0 (K / 2 ^ D) (by omega)
  have y1 := o_gz (K / 2 ^ D) (by omega)
  have y0 : size (2 ^ (K / 2 ^ D) - 1) ≤ 129 := Nat.le_trans (o_cg (Nat.sub_le _ _)) y1
  have hcr := o_i5 (2 ^ (K / 2 ^ D) - 1) (2 ^ (K / 2 ^ D) - 1) (by omega) (by omega) (by rw [Nat.sub_add_cancel (Nat.one_le_two_pow)]; omega) (by rw [Nat.sub_add_cancel (Nat.one_le_two_pow)]; omega)
  rw [show cmpZ (2 ^ (K / 2 ^ D) - 1 + 1) (2 ^ (K / 2 ^ D) - 1 + 1) = 0 by unfold cmpZ; simp] at hcr
  have hfl := o_ii D K hD8 hK3
  have hfv : (2 ^ D + K % 2 ^ D) * 2 ^ (K / 2 ^ D) - 2 ^ D = fV D K := rfl
  rw [hfv] at hv
  have hsz : size (fV D K) ≤ 20 := o_e1 (n := 1100) hfl (by omega)
  rw [show K / p2 D = K / 2 ^ D from rfl] at hx
  by_cases h400 : 400 < K
  ·have h400' : (400 : Int) < K := by omega
   obtain ⟨J, hJ⟩ : ∃ J, K = J + 1 := ⟨K - 1, by omega⟩
   have xk : IntKind.i64.wrap ((K : Int) - 1) = J := by rw [w64 (by omega) (by omega)]; omega
   have hv2 := o_i8 D J hD8 (by omega)
   have hx2 := o_ed D J (by omega) (by omega)
   rw [show (2 ^ D + J % 2 ^ D) * 2 ^ (J / 2 ^ D) - 2 ^ D = fV D J from rfl] at hv2
   rw [show J / p2 D = J / 2 ^ D from rfl] at hx2
   have hof := o_bw [1] (o_cs (by omega)) (by simp)
   rw [show wval [1] = 1 by simp [wval]] at hof
   simp only [W, List.length_cons, List.length_nil, List.map_cons, List.map_nil] at hof
   have hju : J / 2 ^ D ≤ J := Nat.div_le_self _ _
   have hsl := o_cq 1 (J / 2 ^ D) (by rw [show size 1 = 1 from rfl]; omega) (by omega)
   rw [Nat.one_mul] at hsl
   have y3 := o_gz (J / 2 ^ D) (by omega)
   have hsj : size (fV D J) ≤ 20 := o_e1 (n := 1100) (o_ii D J hD8 (by omega)) (by omega)
   have had := o_cd (fV D J) (2 ^ (J / 2 ^ D)) (by omega) (by omega)
   rw [← o_ih, ← hJ] at had
   have hc0 := o_bz (fV D K) (fV D K) (by omega) (by omega)
   rw [show cmpZ (fV D K) (fV D K) = 0 by unfold cmpZ; simp] at hc0
   clear hfv hfl
   generalize 2 ^ (J / 2 ^ D) = u2 at *
   generalize J / 2 ^ D = ju at *
   generalize 2 ^ (K / 2 ^ D) - 1 = u at *
   generalize K / 2 ^ D = ku at *
   generalize fV D J = fj at *
   generalize fV D K = fk at *
   refine A110 (fs hgw (fs h400 (fs h400' xk))) hlaw hc hv hg hw0 hw hx hh hcr hcr ?_; try with_reducible exact tt
   refine A11 xk hv2 ?_; try with_reducible exact tt
   refine CallS.gf 4 1 ⟨34, [.d (.int .u64 1)]⟩ [.int .u64 1] [] (hof) (R1 xk ?_); try with_reducible exact tt
   refine A12 xk hx2 hsl ?_; try with_reducible exact tt
   refine A02 had hc0 ?_; try with_reducible exact tt
  ·have h400' : ¬ (400 : Int) < K := by omega
   have hrv := o_ik D K hD8 hK3
   have hi1 := o_ic (fV D K) (by omega) (Nat.le_trans (o_i0 hfl (m := 2000) (by omega)) (by omega))
   clear hfv hfl
   generalize 2 ^ (K / 2 ^ D) - 1 = u at *
   generalize K / 2 ^ D = ku at *
   generalize fV D K = fk at *
   refine A110 (fs hgw (fs h400 h400')) hlaw hc hv hg hw0 hw hx hh hcr hcr ?_; try with_reducible exact tt
   refine A02 hrv hi1 ?_; try with_reducible exact tt
 ·have hr := o_ie 0 (by decide)
  rw [o_he] at hr
  have hz0 := o_bx 0
  have hc := o_il d k hE
  have hv := o_im d k hE
  generalize wrongZ d [k] = e at *
  refine A18 (fs hgw hE) hlaw hc hv hg hw0 hw hr hz0 ?_; try with_reducible exact tt
end
end Go.Proofs.YtlelpbaeplcfiaaDoor.Am
namespace Go.Proofs.YtlelpbaeplcfiaaDoor.Am
section
open Go.RowKit

theorem tabsIn {W : World} {g0 : Nat} {zs : List Int} (ht : ∀ g l, tab g = some l → g = g0 ∧ l = zs.map fun z : Int => D.int .u64 z) (hlt : g0 < W.heap.size) (hc : ∀ (i : Nat) u, (zs.map (Value.int .u64))[i]? = some u → W.cell? ⟨g0, i, none⟩ = some u) : Tabs (memW W) := o_ib ht hlt hc
theorem tabAll : ∀ g l, tab g = some l → g = 2 ∧ l = ([1, 10, 100, 1000, 10000, 100000, 1000000, 10000000, 100000000, 1000000000, 10000000000, 100000000000, 1000000000000, 10000000000000, 100000000000000, 1000000000000000, 10000000000000000, 100000000000000000, 1000000000000000000, 10000000000000000000] : List Int).map fun z : Int => D.int .u64 z := by
 intro g l h
 unfold tab at h
 split at h
 ·cases h
  exact ⟨‹_›, rfl⟩
 ·cases h
theorem ft_walk {W : World} (ht : Tabs (memW W)) {s k : Int} : Calls Tryd.prog o_6g #[.int .i64 s, .int .i64 k] W (fun e W' => e = .returned (.bool true) ∧ Same W W') :=
 o_ia o_6i (o_io s k) (V.reps_cons.2 ⟨V.rep_int.2 rfl, V.reps_cons.2 ⟨V.rep_int.2 rfl, V.reps_nil.2 rfl⟩⟩) ht
end
end Go.Proofs.YtlelpbaeplcfiaaDoor.Am
