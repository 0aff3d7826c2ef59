/- Parts of the proof: Txt2, Txt3, Mul1, Div1, Mul2, Rat2, Txt4, Txt5, YuB, AmLaw, AmTT, YuBL. -/
import Derived.Test.YtlelpbaeplcfiaaDoorPc
set_option linter.unusedVariables false
set_option linter.unusedSimpArgs false
set_option maxRecDepth 100000
namespace Go.Proofs.YtlelpbaeplcfiaaDoor.Am
section
open Go.RowKit
def yV (ws : List Nat) : List V := ws.map fun x : Nat => V.d (.int .u8 x)
theorem o_cq (ws : List Nat) (j v : Nat) : (yV ws).set j (.d (.int .u8 v)) = yV (ws.set j v) := by simp [yV, List.map_set]
@[simp] theorem o_cr (ws : List Nat) : (yV ws).length = ws.length := by simp [yV]
@[simp] theorem o_cs (n : Nat) (ws : List Nat) : V.lowl n (yV ws) = true := by induction ws <;> simp_all [yV]
@[simp] theorem o_ct (θ : Nat → Nat) (ws : List Nat) : V.rens θ (yV ws) = yV ws := by induction ws <;> simp_all [yV]
def lit2G (i : Nat) : Nat := (lit2.data.toList.getD i 0).toNat
theorem o_cu : (List.range 100).all (fun x => lit2G (x * 2) == 48 + x / 10 && lit2G (x * 2 + 1) == 48 + x % 10) = true := by kernel_rfl
theorem o_cv (x : Nat) (h : x < 100) : lit2G (x * 2) = 48 + x / 10 ∧ lit2G (x * 2 + 1) = 48 + x % 10 := by
 have := List.all_eq_true.1 o_cu x (by simpa using h)
 simpa using this
theorem o_cw (A R : List Nat) (m x : Nat) : (yV (A ++ (List.replicate (m + 1) 0 ++ R))).set (A.length + m) (.d (.int .u8 x)) = yV (A ++ (List.replicate m 0 ++ x :: R)) := by rw [o_cq, o_cg]

theorem fillF {A : List Nat} {p m : Nat} (h : p = m + 1) : ∀ (R : List Nat) (x : Nat), (yV (A ++ (List.replicate p 0 ++ R))).set (A.length + m) (.d (.int .u8 x)) = yV (A ++ (List.replicate m 0 ++ x :: R)) := by
 subst h; exact fun R x => o_cw A R m x
def qN (n j : Nat) : Nat := n / 10 ^ (8 * j)
def rN (nd j : Nat) : Nat := nd - 8 * j
set_option maxHeartbeats 8000000 in
theorem o_cx (T : Nat) (n nd : Nat) (hn : n < 18446744073709551616) (hnd : nd ≤ 20) (hlt : n < 10 ^ nd) (A B : List Nat) (hA : A.length ≤ 1000) :
  Eqn Tryd.prog o_79 [.row 0 A.length nd, .d (.int .u64 n)] [⟨T, yV (A ++ (List.replicate nd 0 ++ B))⟩] (.tup []) [⟨T, yV (A ++ (padN nd n ++ B))⟩] := by
 refine Eqn.obj1 o_7b (by exact Plain.ok) ⟨by simp, by simp⟩ ?_
 have e2 := o_aq
 simp only [o_7a]
 rw [show (⟨#[48, 48, 48, 49, 48, 50, 48, 51, 48, 52, 48, 53, 48, 54, 48, 55, 48, 56, 48, 57, 49, 48, 49, 49, 49, 50, 49, 51, 49, 52, 49, 53, 49, 54, 49, 55, 49, 56, 49, 57, 50, 48, 50, 49, 50, 50, 50, 51, 50, 52, 50, 53, 50, 54, 50, 55, 50, 56, 50, 57, 51, 48, 51, 49, 51, 50, 51, 51, 51, 52, 51, 53, 51, 54, 51, 55, 51, 56, 51, 57, 52, 48, 52, 49, 52, 50, 52, 51, 52, 52, 52, 53, 52, 54, 52, 55, 52, 56, 52, 57, 53, 48, 53, 49, 53, 50, 53, 51, 53, 52, 53, 53, 53, 54, 53, 55, 53, 56, 53, 57, 54, 48, 54, 49, 54, 50, 54, 51, 54, 52, 54, 53, 54, 54, 54, 55, 54, 56, 54, 57, 55, 48, 55, 49, 55, 50, 55, 51, 55, 52, 55, 53, 55, 54, 55, 55, 55, 56, 55, 57, 56, 48, 56, 49, 56, 50, 56, 51, 56, 52, 56, 53, 56, 54, 56, 55, 56, 56, 56, 57, 57, 48, 57, 49, 57, 50, 57, 51, 57, 52, 57, 53, 57, 54, 57, 55, 57, 56, 57, 57]⟩ : ByteArray) = lit2 from rfl]
 have hl2g := o_cv
 unfold lit2G at hl2g
 generalize hl2 : lit2 = l2 at *
 refine A00 ?_; try with_reducible exact tt
 refine AW.loopT (α := Nat) 1 (fun j => [(4, .d (.int .i64 (rN nd j : Nat))), (1, .d (.int .u64 (qN n j : Nat)))]) (fun j => [(0, ⟨T, yV (A ++ (List.replicate (rN nd j) 0 ++ (padN (8 * j) n ++ B)))⟩)]) (fun j => 8 * j ≤ nd) (fun j => nd - 8 * j) 0 ?_ ?_ (by simp) ?_ ?_ ?_
 ·simp
 ·simp
 ·simp [rN, qN]
 ·simp [padN, rN, qN]
 intro j hj
 simp
 have hr0 : rN nd j = nd - 8 * j := rfl
 have hr1 : rN nd (j + 1) = nd - 8 * (j + 1) := rfl
 have hle : qN n j ≤ n := Nat.div_le_self _ _
 have hdd : qN n (j + 1) = qN n j / 100000000 := by rw [qN, qN, Nat.div_div_eq_div_mul, Nat.mul_succ, Nat.pow_add]
 have hpad : ∀ w, padN (w + 8 * j) n = padN w (qN n j) ++ padN (8 * j) n := fun w => by rw [o_by]; rfl
 by_cases h8 : 8 ≤ rN nd j
 ·have h8' : (8 : Int) ≤ (rN nd j : Nat) := by omega
  replace hpad := hpad 8
  rw [show 8 + 8 * j = 8 * (j + 1) by omega] at hpad
  generalize padN (8 * j) n = X at *
  generalize qN n j = u at *
  generalize rN nd j = p at *
  have hu32 : ∀ x : Nat, x < 4294967296 → IntKind.u32.wrap (x : Int) = x := fun x hx => by rw [IntKind.wrap_u32]; omega
  have hp : p ≤ 1000 := by omega
  have hs1 : 8 * (j + 1) ≤ nd := by omega
  have hs2 : nd - 8 * (j + 1) < nd - 8 * j := by omega
  have du : IntKind.u64.wrap ((u : Int) / 100000000) = (qN n (j + 1) : Nat) := by rw [hdd]; exact o_cp u 100000000 (by omega)
  generalize hu1 : qN n (j + 1) = u1 at du hdd ⊢
  have hpn : p ≤ nd := by omega
  have hrp : rN nd (j + 1) + 8 = p := by omega
  clear hr0 hr1 hle
  clear hn hlt
  obtain ⟨p1, hp1⟩ : ∃ m, p = m + 1 := ⟨p - 1, by omega⟩
  have w1 : IntKind.i64.wrap ((p : Int) - 1) = p1 := w64s p 1 p1 hp1 hp
  obtain ⟨p2, hp2⟩ : ∃ m, p = m + 2 := ⟨p - 2, by omega⟩
  have w2 : IntKind.i64.wrap ((p : Int) - 2) = p2 := w64s p 2 p2 hp2 hp
  obtain ⟨p3, hp3⟩ : ∃ m, p = m + 3 := ⟨p - 3, by omega⟩
  have w3 : IntKind.i64.wrap ((p : Int) - 3) = p3 := w64s p 3 p3 hp3 hp
  obtain ⟨p4, hp4⟩ : ∃ m, p = m + 4 := ⟨p - 4, by omega⟩
  have w4 : IntKind.i64.wrap ((p : Int) - 4) = p4 := w64s p 4 p4 hp4 hp
  obtain ⟨p5, hp5⟩ : ∃ m, p = m + 5 := ⟨p - 5, by omega⟩
  have w5 : IntKind.i64.wrap ((p : Int) - 5) = p5 := w64s p 5 p5 hp5 hp
  obtain ⟨p6, hp6⟩ : ∃ m, p = m + 6 := ⟨p - 6, by omega⟩
  have w6 : IntKind.i64.wrap ((p : Int) - 6) = p6 := w64s p 6 p6 hp6 hp
  obtain ⟨p7, hp7⟩ : ∃ m, p = m + 7 := ⟨p - 7, by omega⟩
  have w7 : IntKind.i64.wrap ((p : Int) - 7) = p7 := w64s p 7 p7 hp7 hp
  obtain ⟨p8, hp8⟩ : ∃ m, p = m + 8 := ⟨p - 8, by omega⟩
  have w8 : IntKind.i64.wrap ((p : Int) - 8) = p8 := w64s p 8 p8 hp8 hp
  have f1 := fillF (A := A) (p := p) (m := p1) (by omega)
  have f2 := fillF (A := A) (p := p1) (m := p2) (by omega)
  have f3 := fillF (A := A) (p := p2) (m := p3) (by omega)
  have f4 := fillF (A := A) (p := p3) (m := p4) (by omega)
  have f5 := fillF (A := A) (p := p4) (m := p5) (by omega)
  have f6 := fillF (A := A) (p := p5) (m := p6) (by omega)
  have f7 := fillF (A := A) (p := p6) (m := p7) (by omega)
  have f8 := fillF (A := A) (p := p7) (m := p8) (by omega)
  obtain ⟨x5, x6, x7, ⟨m5, d6, m7, l6, l7, dig8⟩⟩ := d8 u
  obtain ⟨a7, b7, ⟨da7, mb7, la7, lb7, dig7⟩⟩ := d4 x7 l7
  obtain ⟨a6, b6, ⟨da6, mb6, la6, lb6, dig6⟩⟩ := d4 x6 l6
  have hlk := lk l2 e2 hl2g
  obtain ⟨yA, zA, cA, eA, ⟨wyA, wzA, gyA, gzA, nyA, nzA, hcA, heA⟩⟩ := hlk b7 lb7
  obtain ⟨yB, zB, cB, eB, ⟨wyB, wzB, gyB, gzB, nyB, nzB, hcB, heB⟩⟩ := hlk a7 la7
  obtain ⟨yC, zC, cC, eC, ⟨wyC, wzC, gyC, gzC, nyC, nzC, hcC, heC⟩⟩ := hlk b6 lb6
  obtain ⟨yD, zD, cD, eD, ⟨wyD, wzD, gyD, gzD, nyD, nzD, hcD, heD⟩⟩ := hlk a6 la6
  rw [dig8, dig6, dig7] at hpad
  rw [← hcA, ← heA, ← hcB, ← heB, ← hcC, ← heC, ← hcD, ← heD] at hpad
  clear hcA heA hcB heB hcC heC hcD heD dig8 dig6 dig7 hlk
  repeat (first | refine AW.seq ?_ | refine AW.block ?_)
  refine AW.reg mix ?_
  (simp -implicitDefEqProofs [h8, h8']; try simp (disch := omega) only [w64, wu64])
  try refine need.of (by first | omega | kernel_rfl) ?_
  refine AW.cond rfl (fun _ => ?_) (fun h => ?_)
  rotate_left
  ·simp at h
  refine AW.skip ?_
  simp
  repeat (first | refine AW.seq ?_ | refine AW.block ?_)
  refine AW.reg mix ?_
  (simp -implicitDefEqProofs [m5]; try simp (disch := omega) only [w64, wu64])
  try refine need.of (by first | omega | kernel_rfl) ?_
  repeat (first | refine AW.seq ?_ | refine AW.block ?_)
  refine AW.reg mix ?_
  (simp -implicitDefEqProofs [du]; try simp (disch := omega) only [w64, wu64])
  try refine need.of (by first | omega | kernel_rfl) ?_
  repeat (first | refine AW.seq ?_ | refine AW.block ?_)
  refine AW.reg mix ?_
  (simp -implicitDefEqProofs [d6, m7]; try simp (disch := omega) only [w64, wu64])
  try refine need.of (by first | omega | kernel_rfl) ?_
  repeat (first | refine AW.seq ?_ | refine AW.block ?_)
  refine AW.reg mix ?_
  (simp -implicitDefEqProofs [da7, mb7, wyA, wyB]; try simp (disch := omega) only [w64, wu64])
  try refine need.of (by first | omega | kernel_rfl) ?_
  repeat (first | refine AW.seq ?_ | refine AW.block ?_)
  refine AW.reg mix ?_
  (simp -implicitDefEqProofs [da6, mb6, wyC, wyD]; try simp (disch := omega) only [w64, wu64])
  try refine need.of (by first | omega | kernel_rfl) ?_
  refine G1 (fs w1 (fs w2 (fs w3 (fs w4 (fs w5 (fs w6 (fs w7 (fs w8 (fs wzA (fs wzB (fs wzC (fs wzD (fs gyA (fs gyB (fs gyC (fs gyD (fs gzA (fs gzB (fs gzC (fs gzD (fs nyA (fs nyB (fs nyC (fs nyD (fs nzA (fs nzB (fs nzC (fs nzD (fs f1 (fs f2 (fs f3 (fs f4 (fs f5 (fs f6 (fs f7 f8))))))))))))))))))))))))))))))))))) ?_; try with_reducible exact tt
  refine ⟨j + 1, hs1, hs2, ⟨Sub1.int (by rw [hu1]), Sub1.int (by omega)⟩, Subs.of ?_⟩
  rw [hpad, show rN nd (j + 1) = p8 by omega]
  simp
 ·have h8' : ¬ (8 : Int) ≤ (rN nd j : Nat) := by omega
  have hul : qN n j < 10 ^ rN nd j := by
   rw [qN, hr0, Nat.div_lt_iff_lt_mul (Nat.pow_pos (by decide)), ← Nat.pow_add, show nd - 8 * j + 8 * j = nd by omega]
   exact hlt
  replace hpad := hpad (rN nd j)
  rw [show rN nd j + 8 * j = nd by omega] at hpad
  have hfin : padN nd n ++ B = padN (rN nd j) (qN n j) ++ (padN (8 * j) n ++ B) := by rw [hpad, List.append_assoc]
  rw [hfin]
  have hp : rN nd j < 8 := by omega
  have hpn : rN nd j ≤ nd := by omega
  generalize padN (8 * j) n ++ B = X at *
  generalize qN n j = u at *
  generalize rN nd j = p at *
  have hu7 : u < 10000000 := Nat.lt_of_lt_of_le hul (Nat.pow_le_pow_right (by decide) (show p ≤ 7 by omega))
  clear hfin hpad hdd hr0 hr1 hle hn hlt hj
  have hlk := lk l2 e2 hl2g
  have du : IntKind.u32.wrap (u : Int) = u := u32N u (by omega)
  refine A10 (fs h8 (fs h8' du)) ?_; try with_reducible exact tt
  by_cases h4 : 4 ≤ p
  ·have h4' : (4 : Int) ≤ p := by omega
   obtain ⟨p4, hp4⟩ : ∃ m, p = m + 4 := ⟨p - 4, by omega⟩
   obtain ⟨p1, hp1⟩ : ∃ m, p = m + 1 := ⟨p - 1, by omega⟩
   obtain ⟨p2, hp2⟩ : ∃ m, p = m + 2 := ⟨p - 2, by omega⟩
   obtain ⟨p3, hp3⟩ : ∃ m, p = m + 3 := ⟨p - 3, by omega⟩
   have w1 : IntKind.i64.wrap ((p : Int) - 1) = p1 := w64s p 1 p1 hp1 (by omega)
   have w2 : IntKind.i64.wrap ((p : Int) - 2) = p2 := w64s p 2 p2 hp2 (by omega)
   have w3 : IntKind.i64.wrap ((p : Int) - 3) = p3 := w64s p 3 p3 hp3 (by omega)
   have w4 : IntKind.i64.wrap ((p : Int) - 4) = p4 := w64s p 4 p4 hp4 (by omega)
   have f1 := fillF (A := A) (p := p) (m := p1) (by omega)
   have f2 := fillF (A := A) (p := p1) (m := p2) (by omega)
   have f3 := fillF (A := A) (p := p2) (m := p3) (by omega)
   have f4 := fillF (A := A) (p := p3) (m := p4) (by omega)
   have hbU4 : u / 10000 < 10 ^ p4 := by rw [Nat.div_lt_iff_lt_mul (by decide), show (10000 : Nat) = 10 ^ 4 from rfl, ← Nat.pow_add, ← hp4]; exact hul
   have hpd4 : padN p u = padN p4 (u / 10000) ++ padN 4 (u / 10000 * 10000 + u % 10000) := by rw [show u / 10000 * 10000 + u % 10000 = u by omega, hp4, o_by]
   obtain ⟨x4, hx4⟩ : ∃ b, b = u % 10000 := ⟨_, rfl⟩
   have m4 : (u : Int).tmod 10000 = x4 := by rw [hx4]; exact modN u 10000
   have l4 : x4 < 10000 := by rw [hx4]; exact Nat.mod_lt _ (by decide)
   rw [← hx4] at hpd4
   obtain ⟨a7, b7, ⟨da7, mb7, la7, lb7, dig7⟩⟩ := d4 x4 l4
   obtain ⟨yA, zA, cA, eA, ⟨wyA, wzA, gyA, gzA, nyA, nzA, hcA, heA⟩⟩ := hlk b7 lb7
   obtain ⟨yB, zB, cB, eB, ⟨wyB, wzB, gyB, gzB, nyB, nzB, hcB, heB⟩⟩ := hlk a7 la7
   rw [dig7, ← hcA, ← heA, ← hcB, ← heB] at hpd4
   have dU4 : IntKind.u32.wrap ((u : Int) / 10000) = (u / 10000 : Nat) := o_co u 10000 (by omega)
   have hU74 : u / 10000 < 10000000 := Nat.lt_of_le_of_lt (Nat.div_le_self _ _) hu7
   rw [hpd4]
   clear hx4 hcA heA hcB heB hpd4 dig7
   generalize u / 10000 = u4 at *
   clear hul hu7 du
   refine A10 (fs h4 (fs h4' (fs m4 (fs dU4 (fs da7 (fs mb7 (fs wyA (fs wyB (fs w1 (fs w2 (fs w3 (fs w4 (fs wzA (fs wzB (fs gyA (fs gyB (fs gzA (fs gzB (fs nyA (fs nyB (fs nzA (fs nzB (fs f1 (fs f2 (fs f3 f4))))))))))))))))))))))))) ?_; try with_reducible exact tt
   by_cases h2 : 2 ≤ p4
   ·have h2' : (2 : Int) ≤ p4 := by omega
    obtain ⟨q1, hq1⟩ : ∃ m, p4 = m + 1 := ⟨p4 - 1, by omega⟩
    have v1 : IntKind.i64.wrap ((p4 : Int) - 1) = q1 := w64s p4 1 q1 hq1 (by omega)
    obtain ⟨q2, hq2⟩ : ∃ m, p4 = m + 2 := ⟨p4 - 2, by omega⟩
    have v2 : IntKind.i64.wrap ((p4 : Int) - 2) = q2 := w64s p4 2 q2 hq2 (by omega)
    have t1 := fillF (A := A) (p := p4) (m := q1) (by omega)
    have t2 := fillF (A := A) (p := q1) (m := q2) (by omega)
    have hbW2 : u4 / 100 < 10 ^ q2 := by rw [Nat.div_lt_iff_lt_mul (by decide), show (100 : Nat) = 10 ^ 2 from rfl, ← Nat.pow_add, ← hq2]; exact hbU4
    have hpd2 : padN p4 u4 = padN q2 (u4 / 100) ++ padN 2 u4 := by rw [hq2, o_by]
    rw [o_c0] at hpd2
    obtain ⟨b2, hb2⟩ : ∃ b, b = u4 % 100 := ⟨_, rfl⟩
    have mb2 : (u4 : Int).tmod 100 = b2 := by rw [hb2]; exact modN u4 100
    have lb2 : b2 < 100 := by rw [hb2]; exact Nat.mod_lt _ (by decide)
    obtain ⟨yE, zE, cE, eE, ⟨wyE, wzE, gyE, gzE, nyE, nzE, hcE, heE⟩⟩ := hlk b2 lb2
    rw [show u4 / 10 % 10 = b2 / 10 by omega, show u4 % 10 = b2 % 10 by omega, ← hcE, ← heE] at hpd2
    have dU2 : IntKind.u32.wrap ((u4 : Int) / 100) = (u4 / 100 : Nat) := o_co u4 100 (by omega)
    have hU72 : u4 / 100 < 10000000 := Nat.lt_of_le_of_lt (Nat.div_le_self _ _) hU74
    rw [hpd2]
    clear hb2 hcE heE hpd2
    generalize u4 / 100 = W2 at *
    clear hbU4 hU74
    refine A10 (fs h2 (fs h2' (fs mb2 (fs wyE (fs dU2 (fs v1 (fs v2 (fs wzE (fs gyE (fs gzE (fs nyE (fs nzE (fs t1 t2))))))))))))) ?_; try with_reducible exact tt
    by_cases h1 : 0 < q2
    ·have h1' : (0 : Int) < q2 := by omega
     have hP1 : q2 = 0 + 1 := by omega
     have hU : W2 < 10 := by rw [hP1] at hbW2; simpa using hbW2
     obtain ⟨c, hc⟩ : ∃ c, c = 48 + W2 := ⟨_, rfl⟩
     have o1 : IntKind.u32.wrap (48 + (W2 : Int)) = c := by rw [IntKind.wrap_u32]; omega
     have o2 : IntKind.u8.wrap (c : Int) = c := by rw [IntKind.wrap_u8]; omega
     have f := fillF (A := A) (p := q2) (m := 0) hP1
     rw [Nat.add_zero] at f
     have hnd0 : (0 : Int) < nd := by omega
     have hnd1 : 0 < nd := by omega
     refine A10 (fs h1 (fs h1' (fs o1 (fs o2 (fs f (fs hnd0 hnd1)))))) ?_; try with_reducible exact tt
     refine Subs.of ?_
     rw [hP1, hc]
     simp [padN, Nat.mod_eq_of_lt hU]
    ·have h1' : ¬ (0 : Int) < q2 := by omega
     have hP0 : q2 = 0 := by omega
     subst hP0
     refine A10 (fs h1 h1') ?_; try with_reducible exact tt
     exact Subs.of (by simp [padN])
   ·have h2' : ¬ (2 : Int) ≤ p4 := by omega
    refine A10 (fs h2 h2') ?_; try with_reducible exact tt
    by_cases h1 : 0 < p4
    ·have h1' : (0 : Int) < p4 := by omega
     have hP1 : p4 = 0 + 1 := by omega
     have hU : u4 < 10 := by rw [hP1] at hbU4; simpa using hbU4
     obtain ⟨c, hc⟩ : ∃ c, c = 48 + u4 := ⟨_, rfl⟩
     have o1 : IntKind.u32.wrap (48 + (u4 : Int)) = c := by rw [IntKind.wrap_u32]; omega
     have o2 : IntKind.u8.wrap (c : Int) = c := by rw [IntKind.wrap_u8]; omega
     have f := fillF (A := A) (p := p4) (m := 0) hP1
     rw [Nat.add_zero] at f
     have hnd0 : (0 : Int) < nd := by omega
     have hnd1 : 0 < nd := by omega
     refine A10 (fs h1 (fs h1' (fs o1 (fs o2 (fs f (fs hnd0 hnd1)))))) ?_; try with_reducible exact tt
     refine Subs.of ?_
     rw [hP1, hc]
     simp [padN, Nat.mod_eq_of_lt hU]
    ·have h1' : ¬ (0 : Int) < p4 := by omega
     have hP0 : p4 = 0 := by omega
     subst hP0
     refine A10 (fs h1 h1') ?_; try with_reducible exact tt
     exact Subs.of (by simp [padN])
  ·have h4' : ¬ (4 : Int) ≤ p := by omega
   refine A10 (fs h4 h4') ?_; try with_reducible exact tt
   by_cases h2 : 2 ≤ p
   ·have h2' : (2 : Int) ≤ p := by omega
    obtain ⟨q1, hq1⟩ : ∃ m, p = m + 1 := ⟨p - 1, by omega⟩
    have v1 : IntKind.i64.wrap ((p : Int) - 1) = q1 := w64s p 1 q1 hq1 (by omega)
    obtain ⟨q2, hq2⟩ : ∃ m, p = m + 2 := ⟨p - 2, by omega⟩
    have v2 : IntKind.i64.wrap ((p : Int) - 2) = q2 := w64s p 2 q2 hq2 (by omega)
    have t1 := fillF (A := A) (p := p) (m := q1) (by omega)
    have t2 := fillF (A := A) (p := q1) (m := q2) (by omega)
    have hbW2 : u / 100 < 10 ^ q2 := by rw [Nat.div_lt_iff_lt_mul (by decide), show (100 : Nat) = 10 ^ 2 from rfl, ← Nat.pow_add, ← hq2]; exact hul
    have hpd2 : padN p u = padN q2 (u / 100) ++ padN 2 u := by rw [hq2, o_by]
    rw [o_c0] at hpd2
    obtain ⟨b2, hb2⟩ : ∃ b, b = u % 100 := ⟨_, rfl⟩
    have mb2 : (u : Int).tmod 100 = b2 := by rw [hb2]; exact modN u 100
    have lb2 : b2 < 100 := by rw [hb2]; exact Nat.mod_lt _ (by decide)
    obtain ⟨yE, zE, cE, eE, ⟨wyE, wzE, gyE, gzE, nyE, nzE, hcE, heE⟩⟩ := hlk b2 lb2
    rw [show u / 10 % 10 = b2 / 10 by omega, show u % 10 = b2 % 10 by omega, ← hcE, ← heE] at hpd2
    have dU2 : IntKind.u32.wrap ((u : Int) / 100) = (u / 100 : Nat) := o_co u 100 (by omega)
    have hU72 : u / 100 < 10000000 := Nat.lt_of_le_of_lt (Nat.div_le_self _ _) hu7
    rw [hpd2]
    clear hb2 hcE heE hpd2
    generalize u / 100 = W2 at *
    clear hul hu7
    refine A10 (fs h2 (fs h2' (fs mb2 (fs wyE (fs dU2 (fs v1 (fs v2 (fs wzE (fs gyE (fs gzE (fs nyE (fs nzE (fs t1 t2))))))))))))) ?_; try with_reducible exact tt
    by_cases h1 : 0 < q2
    ·have h1' : (0 : Int) < q2 := by omega
     have hP1 : q2 = 0 + 1 := by omega
     have hU : W2 < 10 := by rw [hP1] at hbW2; simpa using hbW2
     obtain ⟨c, hc⟩ : ∃ c, c = 48 + W2 := ⟨_, rfl⟩
     have o1 : IntKind.u32.wrap (48 + (W2 : Int)) = c := by rw [IntKind.wrap_u32]; omega
     have o2 : IntKind.u8.wrap (c : Int) = c := by rw [IntKind.wrap_u8]; omega
     have f := fillF (A := A) (p := q2) (m := 0) hP1
     rw [Nat.add_zero] at f
     have hnd0 : (0 : Int) < nd := by omega
     have hnd1 : 0 < nd := by omega
     refine A10 (fs h1 (fs h1' (fs o1 (fs o2 (fs f (fs hnd0 hnd1)))))) ?_; try with_reducible exact tt
     refine Subs.of ?_
     rw [hP1, hc]
     simp [padN, Nat.mod_eq_of_lt hU]
    ·have h1' : ¬ (0 : Int) < q2 := by omega
     have hP0 : q2 = 0 := by omega
     subst hP0
     refine A10 (fs h1 h1') ?_; try with_reducible exact tt
     exact Subs.of (by simp [padN])
   ·have h2' : ¬ (2 : Int) ≤ p := by omega
    refine A10 (fs h2 h2') ?_; try with_reducible exact tt
    by_cases h1 : 0 < p
    ·have h1' : (0 : Int) < p := by omega
     have hP1 : p = 0 + 1 := by omega
     have hU : u < 10 := by rw [hP1] at hul; simpa using hul
     obtain ⟨c, hc⟩ : ∃ c, c = 48 + u := ⟨_, rfl⟩
     have o1 : IntKind.u32.wrap (48 + (u : Int)) = c := by rw [IntKind.wrap_u32]; omega
     have o2 : IntKind.u8.wrap (c : Int) = c := by rw [IntKind.wrap_u8]; omega
     have f := fillF (A := A) (p := p) (m := 0) hP1
     rw [Nat.add_zero] at f
     have hnd0 : (0 : Int) < nd := by omega
     have hnd1 : 0 < nd := by omega
     refine A10 (fs h1 (fs h1' (fs o1 (fs o2 (fs f (fs hnd0 hnd1)))))) ?_; try with_reducible exact tt
     refine Subs.of ?_
     rw [hP1, hc]
     simp [padN, Nat.mod_eq_of_lt hU]
    ·have h1' : ¬ (0 : Int) < p := by omega
     have hP0 : p = 0 := by omega
     subst hP0
     refine A10 (fs h1 h1') ?_; try with_reducible exact tt
     exact Subs.of (by simp [padN])
end
end Go.Proofs.YtlelpbaeplcfiaaDoor.Am
namespace Go.Proofs.YtlelpbaeplcfiaaDoor.Am
section
open Go.RowKit
@[simp] theorem o_cy : ∀ l : List Nat, intsV (yV l) = some (l.map fun n : Nat => (n : Int))
 | [] => rfl
 | x :: l => by
  have := o_cy l
  unfold yV at this ⊢
  rw [List.map_cons, intsV, this]
  rfl
theorem o_cz (l : List Nat) : strOf (l.map fun n : Nat => (n : Int)) = bst l := by
 unfold strOf bst
 rw [List.map_map]
 congr 1
theorem o_d0 : ((List.range 10).all fun n => (lit1.extract n (n + 1)).data.toList == [UInt8.ofNat (48 + n)]) = true ∧ ((List.range 100).all fun n => n < 10 || (lit2.extract (n * 2) (n * 2 + 2)).data.toList == [UInt8.ofNat (48 + n / 10), UInt8.ofNat (48 + n % 10)]) = true := ⟨by kernel_rfl, by kernel_rfl⟩
theorem o_d1 (n : Nat) (h : n < 100) : smallS n = txt n := by
 have key : ∀ (s : ByteArray) (l : List UInt8), s.data.toList = l → s = ⟨l.toArray⟩ := by
  rintro ⟨a⟩ l rfl
  rfl
 unfold smallS
 split
 ·rename_i h10
  have := List.all_eq_true.1 o_d0.1 n (by simpa using h10)
  simp only [beq_iff_eq] at this
  rw [key _ _ this, txt, decN, ndig, if_pos h10]
  simp [padN, bst, Nat.mod_eq_of_lt h10]
 ·rename_i h10
  have := List.all_eq_true.1 o_d0.2 n (by simpa using h)
  simp only [h10, decide_false, Bool.false_or, beq_iff_eq] at this
  have h1 : n / 10 < 10 := by omega
  rw [key _ _ this, txt, decN, ndig, if_neg h10, ndig, if_pos h1]
  simp [padN, bst, Nat.mod_eq_of_lt h1]
theorem o_d2 (n : Nat) (hn : n < 18446744073709551616) : Eqn Tryd.prog o_6l [.d (.int .u64 n), .d (.int .i64 10)] [] (.d (.str (txt n))) [] := by
 by_cases h100 : n < 100
 ·rw [← o_d1 n h100]; exact o_aw n h100
 refine Eqn.pure o_6n (o_3y _) ?_
 simp only [o_6m]
 have h1 : ¬ (n : Int) < 100 := by omega
 have hnd := o_cm n (by omega) hn
 have hlt := o_c6 n
 have hle := o_c7 n 20 (Nat.lt_trans hn (by decide)) (by decide)
 have htx : txt n = bst (padN (ndig n) n) := rfl
 rw [htx]
 generalize ndig n = nd at *
 have hf := o_cx 112 n nd hn hle hlt [] (List.replicate (24 - nd) 0) (by simp)
 have hz : yV ([] ++ (List.replicate nd 0 ++ List.replicate (24 - nd) 0)) = List.replicate 24 (V.d (.int .u8 0)) := by
  rw [List.nil_append, List.replicate_append_replicate, show nd + (24 - nd) = 24 by omega]; rfl
 rw [hz] at hf
 rw [List.nil_append, List.length_nil] at hf
 have htk : (yV (padN nd n ++ List.replicate (24 - nd) 0)).take nd = yV (padN nd n) := by
  unfold yV
  rw [List.map_append, List.take_append_of_le_length (by rw [List.length_map, o_bx]; exact Nat.le_refl _), List.take_of_length_le (by rw [List.length_map, o_bx]; exact Nat.le_refl _)]
 have hln : (padN nd n).length = nd := o_bx _ _
 have hst := o_cz (padN nd n)
 have hni : (nd : Int) ≤ 24 := by omega
 refine A10 (fs h100 h1) ?_; try with_reducible exact tt
 refine CallS.pu (hnd) (R1 hni ?_); try with_reducible exact tt
 refine CallS.g [0] (hf) (R1 (fs hni (fs htk (fs hln hst))) ?_); try with_reducible exact tt
 done
end
end Go.Proofs.YtlelpbaeplcfiaaDoor.Am
namespace Go.Proofs.YtlelpbaeplcfiaaDoor.Am
section
open Go.RowKit
theorem and32 (x : Nat) (h : x < 18446744073709551616) : bits BinOp.and IntKind.u64 (x : Int) 4294967295 = ((x % 4294967296 : Nat) : Int) := by
 have := bits_and_u64_nat x 4294967295 h (by omega)
 rw [show ((4294967295 : Nat) : Int) = 4294967295 by rfl] at this
 rw [this, show (4294967295 : Nat) = 2 ^ 32 - 1 by rfl, Nat.and_two_pow_sub_one_eq_mod]

theorem o_d3 (x y : Nat) (hx : x < 18446744073709551616) (hy : y < 18446744073709551616) :
  let x0 := x % 4294967296; let x1 := x / 4294967296; let y0 := y % 4294967296; let y1 := y / 4294967296
  let w0 := x0 * y0; let t := x1 * y0 + w0 / 4294967296; let w1 := t % 4294967296 + x0 * y1
  w0 < 18446744073709551616 ∧ x1 * y0 < 18446744073709551616 ∧ t < 18446744073709551616 ∧ x0 * y1 < 18446744073709551616 ∧ w1 < 18446744073709551616 ∧ x1 * y1 < 18446744073709551616 ∧
  x1 * y1 + t / 4294967296 < 18446744073709551616 ∧ x1 * y1 + t / 4294967296 + w1 / 4294967296 < 18446744073709551616 ∧
  x * y = (x1 * y1 + t / 4294967296 + w1 / 4294967296) * 18446744073709551616 + x * y % 18446744073709551616 := by
 intro x0 x1 y0 y1 w0 t w1
 have hx0 : x0 < 4294967296 := Nat.mod_lt _ (by decide)
 have hy0 : y0 < 4294967296 := Nat.mod_lt _ (by decide)
 have hx1 : x1 < 4294967296 := by simp only [x1]; omega
 have hy1 : y1 < 4294967296 := by simp only [y1]; omega
 have ex : x = x1 * 4294967296 + x0 := by simp only [x1, x0]; omega
 have ey : y = y1 * 4294967296 + y0 := by simp only [y1, y0]; omega
 have b : ∀ {a c : Nat}, a < 4294967296 → c < 4294967296 → a * c ≤ 18446744065119617025 := fun {a c} ha hc => by
  have := Nat.mul_le_mul (show a ≤ 4294967295 by omega) (show c ≤ 4294967295 by omega)
  omega
 have b00 := b hx0 hy0
 have b10 := b hx1 hy0
 have b01 := b hx0 hy1
 have b11 := b hx1 hy1
 have exy : x * y = x1 * y1 * 18446744073709551616 + (x1 * y0 + x0 * y1) * 4294967296 + x0 * y0 := by
  rw [ex, ey]
  simp only [Nat.add_mul, Nat.mul_add]
  have e1 : x1 * 4294967296 * (y1 * 4294967296) = x1 * y1 * 18446744073709551616 := by
   rw [Nat.mul_mul_mul_comm]
  have e2 : x1 * 4294967296 * y0 = x1 * y0 * 4294967296 := by rw [Nat.mul_right_comm]
  have e3 : x0 * (y1 * 4294967296) = x0 * y1 * 4294967296 := by rw [Nat.mul_assoc]
  rw [e1, e2, e3]; omega
 have hw0 : w0 = x0 * y0 := rfl
 generalize x * y = xy at exy ⊢
 generalize x0 * y0 = a00 at *
 have ht : t = x1 * y0 + w0 / 4294967296 := rfl
 generalize x1 * y0 = a10 at *
 have hw1 : w1 = t % 4294967296 + x0 * y1 := rfl
 generalize x0 * y1 = a01 at *
 generalize x1 * y1 = a11 at *
 clear_value w0 t w1
 omega

theorem o_d4 (x y : Nat) (hx : x < 18446744073709551616) (hy : y < 18446744073709551616) : Eqn Tryd.prog o_7c [.d (.int .u64 x), .d (.int .u64 y)] [] (.tup [.d (.int .u64 (x * y / 18446744073709551616 : Nat)), .d (.int .u64 (x * y % 18446744073709551616 : Nat))]) [] := by
 refine Eqn.pure o_7e (o_9f _ _) ?_
 simp only [o_7d]
 have hp := o_d3 x y hx hy
 simp only at hp
 have a1 := and32 x hx
 have a2 := and32 y hy
 have d1 : (x : Int) / 4294967296 = (x / 4294967296 : Nat) := rfl
 have d2 : (y : Int) / 4294967296 = (y / 4294967296 : Nat) := rfl
 have l1 : x % 4294967296 < 4294967296 := Nat.mod_lt _ (by decide)
 generalize x % 4294967296 = x0 at hp a1 l1
 generalize x / 4294967296 = x1 at hp d1
 generalize y % 4294967296 = y0 at hp a2
 generalize y / 4294967296 = y1 at hp d2
 obtain ⟨p1, p2, p3, p4, p5, p6, p7, p8, p9⟩ := hp
 have m1 : IntKind.u64.wrap ((x0 : Int) * y0) = (x0 * y0 : Nat) := by rw [← Int.natCast_mul]; exact wu64 (by omega) (by omega)
 have m2 : IntKind.u64.wrap ((x1 : Int) * y0) = (x1 * y0 : Nat) := by rw [← Int.natCast_mul]; exact wu64 (by omega) (by omega)
 have m3 : IntKind.u64.wrap ((x0 : Int) * y1) = (x0 * y1 : Nat) := by rw [← Int.natCast_mul]; exact wu64 (by omega) (by omega)
 have m4 : IntKind.u64.wrap ((x1 : Int) * y1) = (x1 * y1 : Nat) := by rw [← Int.natCast_mul]; exact wu64 (by omega) (by omega)
 have m5 : IntKind.u64.wrap ((x : Int) * y) = (x * y % 18446744073709551616 : Nat) := by rw [IntKind.wrap_u64, Int.natCast_emod, Int.natCast_mul]; rfl
 have lo : x * y % 18446744073709551616 < 18446744073709551616 := Nat.mod_lt _ (by decide)
 generalize x * y % 18446744073709551616 = low at *
 generalize x * y = xy at *
 generalize x0 * y0 = a00 at *
 generalize x1 * y0 = a10 at *
 generalize x0 * y1 = a01 at *
 generalize x1 * y1 = a11 at *
 have q1 : (a00 : Int) / 4294967296 = (a00 / 4294967296 : Nat) := rfl
 generalize a00 / 4294967296 = b0 at *
 have s1 : IntKind.u64.wrap ((a10 : Int) + b0) = (a10 + b0 : Nat) := wu64 (by omega) (by omega)
 have a3 := and32 (a10 + b0) p3
 have q2 : ((a10 + b0 : Nat) : Int) / 4294967296 = ((a10 + b0) / 4294967296 : Nat) := rfl
 generalize (a10 + b0) / 4294967296 = t1 at *
 generalize (a10 + b0) % 4294967296 = t0 at *
 generalize a10 + b0 = t at *
 have s2 : IntKind.u64.wrap ((t0 : Int) + a01) = (t0 + a01 : Nat) := wu64 (by omega) (by omega)
 have q3 : ((t0 + a01 : Nat) : Int) / 4294967296 = ((t0 + a01) / 4294967296 : Nat) := rfl
 generalize (t0 + a01) / 4294967296 = v1 at *
 generalize t0 + a01 = v at *
 have s3 : IntKind.u64.wrap ((a11 : Int) + t1) = (a11 + t1 : Nat) := wu64 (by omega) (by omega)
 have s4 : IntKind.u64.wrap (((a11 + t1 : Nat) : Int) + v1) = (a11 + t1 + v1 : Nat) := wu64 (by omega) (by omega)
 have fin : xy / 18446744073709551616 = a11 + t1 + v1 := by omega
 rw [fin]
 generalize a11 + t1 + v1 = hi at *
 generalize a11 + t1 = r at *
 refine G1 (fs a1 (fs a2 (fs d1 (fs d2 (fs m1 (fs m2 (fs m3 (fs m4 (fs m5 (fs q1 (fs s1 (fs a3 (fs q2 (fs s2 (fs q3 (fs s3 s4)))))))))))))))) ?_; try with_reducible exact tt
end
end Go.Proofs.YtlelpbaeplcfiaaDoor.Am
namespace Go.Proofs.YtlelpbaeplcfiaaDoor.Am
section
open Go.RowKit
theorem o_d5 (hi lo y : Nat) (h0 : hi < y) (hl : lo < 18446744073709551616) (hy : y < 18446744073709551616) :
  ∃ s Y u v : Nat, s = 64 - bitsN y ∧ s ≤ 63 ∧ y * 2 ^ s = Y ∧ Y < 18446744073709551616 ∧ 9223372036854775808 ≤ Y ∧ hi * 2 ^ s < 18446744073709551616 ∧ hi * 2 ^ s ||| lo / 2 ^ (64 - s) = u ∧ lo * 2 ^ s % 18446744073709551616 = v ∧ u < Y ∧ v < 18446744073709551616 ∧
   (hi * 18446744073709551616 + lo) * 2 ^ s = u * 18446744073709551616 + v := by
 obtain ⟨b1, b2⟩ := o_9z (n := y) (by omega)
 have b3 := o_9w y
 have b4 : bitsN y ≤ 64 := o_9x (by omega)
 have hs : 64 - bitsN y ≤ 63 := by omega
 have hY1 : y * 2 ^ (64 - bitsN y) < 18446744073709551616 := by
  have : 2 ^ bitsN y * 2 ^ (64 - bitsN y) = 18446744073709551616 := by rw [← Nat.pow_add, show bitsN y + (64 - bitsN y) = 64 by omega]
  rw [← this]
  exact Nat.mul_lt_mul_of_pos_right b3 (Nat.two_pow_pos _)
 have hY2 : 9223372036854775808 ≤ y * 2 ^ (64 - bitsN y) := by
  have : 2 ^ (bitsN y - 1) * 2 ^ (64 - bitsN y) = 9223372036854775808 := by rw [← Nat.pow_add, show bitsN y - 1 + (64 - bitsN y) = 63 by omega]
  rw [← this]
  exact Nat.mul_le_mul_right _ b1
 generalize 64 - bitsN y = s at *
 have hB : (18446744073709551616 : Nat) = 2 ^ s * 2 ^ (64 - s) := by rw [← Nat.pow_add, show s + (64 - s) = 64 by omega]
 have hp := Nat.two_pow_pos s
 have hp' := Nat.two_pow_pos (64 - s)
 have hh : hi * 2 ^ s < y * 2 ^ s := Nat.mul_lt_mul_of_pos_right h0 hp
 have hlq : lo / 2 ^ (64 - s) < 2 ^ s := by rw [Nat.div_lt_iff_lt_mul hp', ← hB]; exact hl
 have hor : hi * 2 ^ s ||| lo / 2 ^ (64 - s) = hi * 2 ^ s + lo / 2 ^ (64 - s) := by
  rw [Nat.mul_comm, ← Nat.two_pow_add_eq_or_of_lt hlq]
 have hlo : lo * 2 ^ s = lo / 2 ^ (64 - s) * 18446744073709551616 + lo * 2 ^ s % 18446744073709551616 := by
  have h1 : lo * 2 ^ s / 18446744073709551616 = lo / 2 ^ (64 - s) := by
   conv => lhs; rw [hB]
   rw [Nat.mul_comm lo, Nat.mul_div_mul_left _ _ hp]
  have h2 := Nat.div_add_mod (lo * 2 ^ s) 18446744073709551616
  rw [h1] at h2
  omega
 have hlm : lo * 2 ^ s % 18446744073709551616 < 18446744073709551616 := Nat.mod_lt _ (by decide)
 have hN : (hi * 18446744073709551616 + lo) * 2 ^ s = (hi * 2 ^ s) * 18446744073709551616 + lo * 2 ^ s := by
  rw [Nat.add_mul, Nat.mul_right_comm]
 refine ⟨s, y * 2 ^ s, hi * 2 ^ s + lo / 2 ^ (64 - s), lo * 2 ^ s % 18446744073709551616, rfl, hs, rfl, hY1, hY2, by omega, hor, rfl, ?_, hlm, ?_⟩
 ·have h1 : (hi + 1) * 2 ^ s ≤ y * 2 ^ s := Nat.mul_le_mul_right _ h0
  rw [Nat.add_mul, Nat.one_mul] at h1
  omega
 ·rw [hN, hlo, Nat.add_mul]
  generalize lo * 2 ^ s % 18446744073709551616 = a at *
  generalize lo / 2 ^ (64 - s) = b at *
  generalize hi * 2 ^ s = c at *
  omega

def hInv (Y1 Y0 u v : Nat) (q r : Nat) : Prop := q * Y1 + r = u ∧ u * 4294967296 + v < (q + 1) * (Y1 * 4294967296 + Y0) ∧ r < 4294967296

theorem o_d6 {Y1 Y0 u v : Nat} (h1 : 0 < Y1) (h2 : Y1 < 4294967296) (hv : v < 4294967296) : hInv Y1 Y0 u v (u / Y1) (u % Y1) := by
 refine ⟨?_, o_a5 h1 hv, ?_⟩
 ·rw [Nat.mul_comm]; exact Nat.div_add_mod u Y1
 ·have := Nat.mod_lt u h1; omega

set_option maxHeartbeats 8000000 in
theorem o_d7 (hi lo y : Nat) (h0 : hi < y) (hl : lo < 18446744073709551616) (hy : y < 18446744073709551616) : Eqn Tryd.prog o_6i [.d (.int .u64 hi), .d (.int .u64 lo), .d (.int .u64 y)] [] (.tup [.d (.int .u64 ((hi * 18446744073709551616 + lo) / y : Nat)), .d (.int .u64 ((hi * 18446744073709551616 + lo) % y : Nat))]) [] := by
 rcases Nat.eq_zero_or_pos hi with rfl | hpos
 ·rw [Nat.zero_mul, Nat.zero_add]
  exact o_9u lo y hl (by omega)
 refine Eqn.pure o_6k (o_9f _ _) ?_
 simp only [o_6j]
 obtain ⟨s, Y, u, v, hs, hs63, hY, hYl, hYg, hhs, hor, hv, hu, hvl, hN⟩ := o_d5 hi lo y h0 hl hy
 have hq : (hi * 18446744073709551616 + lo) / y = (u * 18446744073709551616 + v) / Y := by rw [← hN, ← hY]; exact o_a6.1.symm
 have hr : (hi * 18446744073709551616 + lo) % y = (u * 18446744073709551616 + v) % Y / 2 ^ s := by rw [← hN, ← hY]; exact o_a6.2.symm
 rw [hq, hr]
 clear hq hr hN
 obtain ⟨Qf, hQf⟩ : ∃ Qf, Qf = (u * 18446744073709551616 + v) / Y := ⟨_, rfl⟩
 obtain ⟨Rf, hRf⟩ : ∃ Rf, Rf = (u * 18446744073709551616 + v) % Y / 2 ^ s := ⟨_, rfl⟩
 rw [← hQf, ← hRf]
 have h1 : ¬ y = 0 := by omega
 have h2 : ¬ (y : Int) ≤ hi := by omega
 have h3 : ¬ hi = 0 := by omega
 have h1' : ¬ (y : Int) = 0 := by omega
 have h3' : ¬ (hi : Int) = 0 := by omega
 refine G1 (fs h1 h1') ?_; try with_reducible exact tt
 refine AW.cond rfl (fun h => ?_) (fun h => ?_)
 ·simp [h1] at h
 refine G1 h2 ?_; try with_reducible exact tt
 refine AW.cond rfl (fun h => ?_) (fun h => ?_)
 ·simp [h2] at h
 refine G1 (fs h3 h3') ?_; try with_reducible exact tt
 refine AW.cond rfl (fun h => ?_) (fun h => ?_)
 ·simp [h3] at h
 refine G0 ?_; try with_reducible exact tt
 have hlead := o_ad y hy
 rw [← hs] at hlead
 have hq1' := Nat.div_add_mod Y 4294967296
 have hY0' : Y % 4294967296 < 4294967296 := Nat.mod_lt _ (by decide)
 have hv' := Nat.div_add_mod v 4294967296
 have hv0' : v % 4294967296 < 4294967296 := Nat.mod_lt _ (by decide)
 have f1 : IntKind.u64.wrap (s : Int) = s := wu64 (by omega) (by omega)
 have f2 : IntKind.u64.wrap ((y : Int) * 2 ^ s) = Y := by
  rw [show (y : Int) * 2 ^ s = ((y * 2 ^ s : Nat) : Int) by rw [Int.natCast_mul, Int.natCast_pow]; rfl, hY]; exact wu64 (by omega) (by omega)
 have f3 : (Y : Int) / 4294967296 = (Y / 4294967296 : Nat) := rfl
 have f4 := and32 Y hYl
 have f5 : IntKind.u64.wrap ((hi : Int) * 2 ^ s) = (hi * 2 ^ s : Nat) := by
  rw [show (hi : Int) * 2 ^ s = ((hi * 2 ^ s : Nat) : Int) by rw [Int.natCast_mul, Int.natCast_pow]; rfl]; exact wu64 (by omega) (by omega)
 have f6 : IntKind.u64.wrap ((64 : Int) - s) = (64 : Int) - s := wu64 (by omega) (by omega)
 have f7 : ((64 : Int) - s).toNat = 64 - s := by omega
 have f8 : (lo : Int) / 2 ^ (64 - s) = (lo / 2 ^ (64 - s) : Nat) := by rw [Int.natCast_ediv, Int.natCast_pow]; rfl
 have hll : lo / 2 ^ (64 - s) ≤ lo := Nat.div_le_self _ _
 have f9 := bits_or_u64_nat (hi * 2 ^ s) (lo / 2 ^ (64 - s)) hhs (by omega)
 rw [hor] at f9
 have f10 : IntKind.u64.wrap ((lo : Int) * 2 ^ s) = v := by
  rw [IntKind.wrap_u64, show (lo : Int) * 2 ^ s = ((lo * 2 ^ s : Nat) : Int) by rw [Int.natCast_mul, Int.natCast_pow]; rfl, ← hv]; rfl
 have f11 : (v : Int) / 4294967296 = (v / 4294967296 : Nat) := rfl
 have f12 := and32 v hvl
 have f13 : (s : Int) ≤ 64 := by omega
 have f14 : (0 : Int) ≤ 64 - s := by omega
 have f15 : (64 : Int) - s ≤ 64 := by omega
 generalize Y / 4294967296 = Y1 at *
 generalize Y % 4294967296 = Y0 at *
 generalize v / 4294967296 = v1 at *
 generalize v % 4294967296 = v0 at *
 generalize hi * 2 ^ s = h' at *
 generalize lo / 2 ^ (64 - s) = l' at *
 have hYY : Y = Y1 * 4294967296 + Y0 := by omega
 have hvv : v = v1 * 4294967296 + v0 := by omega
 have hY1 : 2147483648 ≤ Y1 := by omega
 have hY1l : Y1 < 4294967296 := by omega
 have hY0 : Y0 < 4294967296 := by omega
 have hv1 : v1 < 4294967296 := by omega
 have hv0 : v0 < 4294967296 := by omega
 have hYn : ¬ (Y1 : Int) = 0 := by omega
 have hYn' : ¬ Y1 = 0 := by omega
 have huq := Nat.div_add_mod u Y1
 have hqle : u / Y1 ≤ u := Nat.div_le_self _ _
 have g1 : IntKind.u64.wrap ((u : Int) / Y1) = (u / Y1 : Nat) := by rw [← Int.natCast_ediv]; generalize u / Y1 = q at *; exact wu64 (by omega) (by omega)
 have g2 : IntKind.u64.wrap (((u / Y1 : Nat) : Int) * Y1) = (u / Y1 * Y1 : Nat) := by
  rw [Nat.mul_comm] at huq
  rw [← Int.natCast_mul]; generalize u / Y1 * Y1 = q at *; exact wu64 (by omega) (by omega)
 have g3 : IntKind.u64.wrap ((u : Int) - (u / Y1 * Y1 : Nat)) = (u % Y1 : Nat) := by
  rw [Nat.mul_comm] at huq
  generalize u / Y1 * Y1 = q at *
  generalize u % Y1 = r at *
  rw [wu64 (by omega) (by omega)]; omega
 obtain ⟨q1, hq1⟩ : ∃ q1, q1 = (u * 4294967296 + v1) / Y := ⟨_, rfl⟩
 have gA : IntKind.u64.wrap ((u : Int) - IntKind.u64.wrap ((u : Int) / Y1 * Y1)) = (u : Int) % Y1 := by
  have h1 : ((u : Int) / Y1 * Y1) = ((u / Y1 : Nat) : Int) * Y1 := by rw [Int.natCast_ediv]
  rw [h1, g2, g3, Int.natCast_emod]
 refine G0 ?_; try with_reducible exact tt
 refine CallS.pu (hlead) (R1 (fs f1 (fs f2 (fs f3 (fs f4 (fs f5 (fs f6 (fs f7 (fs f8 (fs f9 (fs f10 (fs f11 (fs f12 (fs f13 (fs f14 (fs f15 (fs hYn (fs hYn' g1))))))))))))))))) ?_); try with_reducible exact tt
 refine AW.blockCut 0 [(15, .d (.int .u64 q1))] [] (by simp) (by simp) ?_ ?_
 ·-- the half digit 15
  refine AW.loopT (α := Nat × Nat) 0 (fun a => [(15, .d (.int .u64 (a.1 : Int))), (16, .d (.int .u64 (a.2 : Int)))]) (fun _ => []) (fun a => hInv Y1 Y0 u v1 a.1 a.2) (fun a => a.1) (u / Y1, u % Y1) (by simp) (by simp) (o_d6 (by omega) (by omega) (by omega)) (by simp [gA]) (by simp) ?_
  rintro ⟨q, r⟩ ⟨i1, i2, i3⟩
  simp only at i1 i2 i3
  have hqY : q * 2147483648 ≤ q * Y1 := Nat.mul_le_mul_left _ hY1
  have hend : q * Y0 ≤ r * 4294967296 + v1 → q1 = q := fun h => by rw [hq1, hYY]; exact o_a2 i1 h i2
  have hnext : (4294967296 ≤ q ∨ r * 4294967296 + v1 < q * Y0) → 0 < q ∧ (q - 1) * Y1 + (r + Y1) = u ∧ u * 4294967296 + v1 < (q - 1 + 1) * (Y1 * 4294967296 + Y0) := fun h => o_a3 i1 (by omega) (by omega) h
  have hstep : ∀ (T : List V) , (4294967296 ≤ q ∨ r * 4294967296 + v1 < q * Y0) → 0 < q ∧ hInv Y1 Y0 u v1 (q - 1) (r + Y1) ∨ (0 < q ∧ 4294967296 ≤ r + Y1 ∧ q1 = q - 1) := fun _ h => by
   obtain ⟨n1, n2, n3⟩ := hnext h
   rcases Nat.lt_or_ge (r + Y1) 4294967296 with h1 | h1
   ·exact .inl ⟨n1, n2, n3, h1⟩
   ·refine .inr ⟨n1, h1, ?_⟩
    rw [hq1, hYY]
    exact o_a2 n2 (o_a4 n2 (by omega) hY0 h1 _) n3
  have b1 : IntKind.u64.wrap ((r : Int) + Y1) = ((r + Y1 : Nat) : Int) := wu64 (by omega) (by omega)
  have body : (4294967296 ≤ q ∨ r * 4294967296 + v1 < q * Y0) → IntKind.u64.wrap ((q : Int) - 1) = ((q - 1 : Nat) : Int) := fun h => by
   have := (hnext h).1
   rw [wu64 (by omega) (by omega)]; omega
  by_cases c1 : 4294967296 ≤ q
  ·have c1' : (4294967296 : Int) ≤ q := by omega
   refine G1 c1' ?_; try with_reducible exact tt
   refine AW.cond rfl (fun h => ?_) (fun h => ?_)
   ·have e1 := body (.inl c1)
    rcases hstep [] (.inl c1) with ⟨n1, n2⟩ | ⟨n1, n2, n3⟩
    ·have n4 : ¬ (4294967296 : Int) ≤ ((r + Y1 : Nat) : Int) := by have := n2.2.2; omega
     generalize hr' : r + Y1 = r' at *
     generalize hq' : q - 1 = q' at *
     refine G1 (fs e1 (fs b1 n4)) ?_; try with_reducible exact tt
     refine AW.cond rfl (fun h => ?_) (fun h => ?_)
     ·first | (simp [n4] at h; done) | (simp [n4] at h; omega)
     refine G0 ?_; try with_reducible exact tt
     exact ⟨q', r', n2, by omega, by simp, by simp⟩
    ·have n4 : (4294967296 : Int) ≤ ((r + Y1 : Nat) : Int) := by omega
     generalize hr' : r + Y1 = r' at *
     generalize hq' : q - 1 = q' at *
     refine G1 (fs e1 (fs b1 n4)) ?_; try with_reducible exact tt
     refine AW.cond rfl (fun h => ?_) (fun h => ?_)
     ·refine AW.exit ?_
      (try (simp -implicitDefEqProofs; try simp (disch := omega) only [w64, wu64]))
      rw [n3]
      exact Sub1.refl _
     ·first | (simp at h; done) | (simp at h; omega)
   ·simp [c1'] at h
  ·have c1' : ¬ (4294967296 : Int) ≤ q := by omega
   have hqy : q * Y0 ≤ 4294967295 * 4294967295 := Nat.mul_le_mul (by omega) (by omega)
   have e1 : IntKind.u64.wrap ((q : Int) * Y0) = ((q * Y0 : Nat) : Int) := by rw [← Int.natCast_mul]; exact wu64 (by omega) (by omega)
   have e2 : IntKind.u64.wrap (4294967296 * (r : Int)) = ((4294967296 * r : Nat) : Int) := wu64 (by omega) (by omega)
   have e3 : IntKind.u64.wrap (((4294967296 * r : Nat) : Int) + v1) = ((4294967296 * r + v1 : Nat) : Int) := wu64 (by omega) (by omega)
   by_cases c2 : r * 4294967296 + v1 < q * Y0
   ·have c2' : ((4294967296 * r + v1 : Nat) : Int) < ((q * Y0 : Nat) : Int) := by omega
    have e4 := body (.inr c2)
    have hs := hstep [] (.inr c2)
    clear hend hnext hstep body
    generalize q * Y0 = m at *
    generalize 4294967296 * r = m2 at *
    generalize m2 + v1 = m3 at *
    refine G1 (fs c1' (fs e1 (fs e2 (fs e3 c2')))) ?_; try with_reducible exact tt
    refine AW.cond rfl (fun h => ?_) (fun h => ?_)
    ·rcases hs with ⟨n1, n2⟩ | ⟨n1, n2, n3⟩
     ·have n4 : ¬ (4294967296 : Int) ≤ ((r + Y1 : Nat) : Int) := by have := n2.2.2; omega
      generalize hr' : r + Y1 = r' at *
      generalize hq' : q - 1 = q' at *
      refine G1 (fs e4 (fs b1 n4)) ?_; try with_reducible exact tt
      refine AW.cond rfl (fun h => ?_) (fun h => ?_)
      ·first | (simp at h; done) | (simp at h; omega)
      refine G0 ?_; try with_reducible exact tt
      exact ⟨q', r', n2, by omega, by simp, by simp⟩
     ·have n4 : (4294967296 : Int) ≤ ((r + Y1 : Nat) : Int) := by omega
      generalize hr' : r + Y1 = r' at *
      generalize hq' : q - 1 = q' at *
      refine G1 (fs e4 (fs b1 n4)) ?_; try with_reducible exact tt
      refine AW.cond rfl (fun h => ?_) (fun h => ?_)
      ·refine AW.exit ?_
       (try (simp -implicitDefEqProofs; try simp (disch := omega) only [w64, wu64]))
       rw [n3]
       exact Sub1.refl _
      ·first | (simp at h; done) | (simp at h; omega)
    ·first | (simp at h; done) | (simp at h; omega)
   ·have c2' : ¬ ((4294967296 * r + v1 : Nat) : Int) < ((q * Y0 : Nat) : Int) := by omega
    have e4 := hend (by omega)
    clear hend hnext hstep body
    generalize q * Y0 = m at *
    generalize 4294967296 * r = m2 at *
    generalize m2 + v1 = m3 at *
    refine G1 (fs c1' (fs e1 (fs e2 (fs e3 c2')))) ?_; try with_reducible exact tt
    refine AW.cond rfl (fun h => ?_) (fun h => ?_)
    ·first | (simp at h; done) | (simp at h; omega)
    ·refine AW.exit ?_
     (try (simp -implicitDefEqProofs; try simp (disch := omega) only [w64, wu64]))
     rw [e4]
     exact Sub1.refl _
 obtain ⟨r1, hr1⟩ : ∃ r1, r1 = u * 4294967296 + v1 - q1 * Y := ⟨_, rfl⟩
 have hd := Nat.div_add_mod (u * 4294967296 + v1) Y
 have hm := Nat.mod_lt (u * 4294967296 + v1) (show Y > 0 by omega)
 rw [← hq1, Nat.mul_comm] at hd
 have hr1l : r1 < Y := by omega
 have hq1l : q1 < 4294967296 := by
  rw [hq1, Nat.div_lt_iff_lt_mul (by omega)]
  omega
 have p1 : IntKind.u64.wrap ((u : Int) * 4294967296) = (u * 4294967296 % 18446744073709551616 : Nat) := by rw [IntKind.wrap_u64]; rfl
 have p2 : IntKind.u64.wrap (((u * 4294967296 % 18446744073709551616 : Nat) : Int) + v1) = ((u * 4294967296 + v1) % 18446744073709551616 : Nat) := by rw [IntKind.wrap_u64]; omega
 have p3 : IntKind.u64.wrap ((q1 : Int) * Y) = (q1 * Y % 18446744073709551616 : Nat) := by rw [IntKind.wrap_u64, ← Int.natCast_mul]; rfl
 have p4 : IntKind.u64.wrap (((((u * 4294967296 + v1) % 18446744073709551616 : Nat)) : Int) - (q1 * Y % 18446744073709551616 : Nat)) = (r1 : Int) := by
  rw [IntKind.wrap_u64]
  generalize q1 * Y = m at *
  omega
 have hrq := Nat.div_add_mod r1 Y1
 have hrle : r1 / Y1 ≤ r1 := Nat.div_le_self _ _
 have g1' : IntKind.u64.wrap ((r1 : Int) / Y1) = (r1 / Y1 : Nat) := by rw [← Int.natCast_ediv]; generalize r1 / Y1 = q at *; exact wu64 (by omega) (by omega)
 have g2' : IntKind.u64.wrap (((r1 / Y1 : Nat) : Int) * Y1) = (r1 / Y1 * Y1 : Nat) := by
  rw [Nat.mul_comm] at hrq
  rw [← Int.natCast_mul]; generalize r1 / Y1 * Y1 = q at *; exact wu64 (by omega) (by omega)
 have g3' : IntKind.u64.wrap ((r1 : Int) - (r1 / Y1 * Y1 : Nat)) = (r1 % Y1 : Nat) := by
  rw [Nat.mul_comm] at hrq
  generalize r1 / Y1 * Y1 = q at *
  generalize r1 % Y1 = r at *
  rw [wu64 (by omega) (by omega)]; omega
 have gA' : IntKind.u64.wrap ((r1 : Int) - IntKind.u64.wrap ((r1 : Int) / Y1 * Y1)) = (r1 : Int) % Y1 := by
  have h1 : ((r1 : Int) / Y1 * Y1) = ((r1 / Y1 : Nat) : Int) * Y1 := by rw [Int.natCast_ediv]
  rw [h1, g2', g3', Int.natCast_emod]
 have hp := halves' (y := Y) (a := u * 4294967296 + v1) (b := 4294967296) (v0 := v0) (q1 := q1) (q0 := (r1 * 4294967296 + v0) / Y) (by omega) hq1.symm (by rw [← hr1])
 rw [← hr1] at hp
 obtain ⟨q0, hq0⟩ : ∃ q0, q0 = (r1 * 4294967296 + v0) / Y := ⟨_, rfl⟩
 rw [← hq0] at hp
 rw [show u * 18446744073709551616 + v = (u * 4294967296 + v1) * 4294967296 + v0 by omega] at hQf hRf
 rw [hp.1] at hQf
 rw [hp.2] at hRf
 have hd0 := Nat.div_add_mod (r1 * 4294967296 + v0) Y
 have hm0 := Nat.mod_lt (r1 * 4294967296 + v0) (show Y > 0 by omega)
 rw [← hq0, Nat.mul_comm] at hd0
 obtain ⟨r0, hr0⟩ : ∃ r0, r0 = r1 * 4294967296 + v0 - q0 * Y := ⟨_, rfl⟩
 rw [← hr0] at hRf
 have hq0l : q0 < 4294967296 := by
  rw [hq0, Nat.div_lt_iff_lt_mul (by omega)]
  omega
 have s1 : IntKind.u64.wrap ((r1 : Int) * 4294967296) = (r1 * 4294967296 % 18446744073709551616 : Nat) := by rw [IntKind.wrap_u64]; rfl
 have s2 : IntKind.u64.wrap (((r1 * 4294967296 % 18446744073709551616 : Nat) : Int) + v0) = ((r1 * 4294967296 + v0) % 18446744073709551616 : Nat) := by rw [IntKind.wrap_u64]; omega
 have s3 : IntKind.u64.wrap ((q0 : Int) * Y) = (q0 * Y % 18446744073709551616 : Nat) := by rw [IntKind.wrap_u64, ← Int.natCast_mul]; rfl
 have s4 : IntKind.u64.wrap (((((r1 * 4294967296 + v0) % 18446744073709551616 : Nat)) : Int) - (q0 * Y % 18446744073709551616 : Nat)) = (r0 : Int) := by
  rw [IntKind.wrap_u64]
  generalize q0 * Y = m at *
  omega
 have s5 : IntKind.u64.wrap ((q1 : Int) * 4294967296) = (q1 * 4294967296 : Nat) := wu64 (by omega) (by omega)
 have s6 : IntKind.u64.wrap (((q1 * 4294967296 : Nat) : Int) + q0) = (q1 * 4294967296 + q0 : Nat) := wu64 (by omega) (by omega)
 have s7 : (r0 : Int) / 2 ^ s = (r0 / 2 ^ s : Nat) := by rw [Int.natCast_ediv, Int.natCast_pow]; rfl
 rw [← hRf] at s7
 rw [← hQf] at s6
 clear hp hd hm hr1 hq1 hr0 hd0 hm0 hRf hQf
 obtain ⟨t3, ht3⟩ : ∃ t, t = q1 * Y % 18446744073709551616 := ⟨_, rfl⟩
 rw [← ht3] at p3 p4
 obtain ⟨t2, ht2⟩ : ∃ t, t = (u * 4294967296 + v1) % 18446744073709551616 := ⟨_, rfl⟩
 rw [← ht2] at p2 p4
 obtain ⟨t1, ht1⟩ : ∃ t, t = u * 4294967296 % 18446744073709551616 := ⟨_, rfl⟩
 rw [← ht1] at p1 p2
 clear ht1 ht2 ht3
 simp
 repeat (first | refine AW.seq ?_ | refine AW.block ?_ | (refine AW.reg mix ?_; simp -implicitDefEqProofs [p1, p2, p3, p4, hYn, hYn', g1']; try simp (disch := omega) only [w64, wu64]) | (refine need.of (by first | omega | kernel_rfl) ?_) | (refine AW.fin ?_; try simp -implicitDefEqProofs [p1, p2, p3, p4, hYn, hYn', g1']))
 refine AW.blockCut 0 [(18, .d (.int .u64 q0))] [] (by simp) (by simp) ?_ ?_
 ·-- the other half digit
  refine AW.loopT (α := Nat × Nat) 0 (fun a => [(18, .d (.int .u64 (a.1 : Int))), (16, .d (.int .u64 (a.2 : Int)))]) (fun _ => []) (fun a => hInv Y1 Y0 r1 v0 a.1 a.2) (fun a => a.1) (r1 / Y1, r1 % Y1) (by simp) (by simp) (o_d6 (by omega) (by omega) (by omega)) (by simp [gA']) (by simp) ?_
  rintro ⟨q, r⟩ ⟨i1, i2, i3⟩
  simp only at i1 i2 i3
  have hqY : q * 2147483648 ≤ q * Y1 := Nat.mul_le_mul_left _ hY1
  have hend : q * Y0 ≤ r * 4294967296 + v0 → q0 = q := fun h => by rw [hq0, hYY]; exact o_a2 i1 h i2
  have hnext : (4294967296 ≤ q ∨ r * 4294967296 + v0 < q * Y0) → 0 < q ∧ (q - 1) * Y1 + (r + Y1) = r1 ∧ r1 * 4294967296 + v0 < (q - 1 + 1) * (Y1 * 4294967296 + Y0) := fun h => o_a3 i1 (by omega) (by omega) h
  have hstep : ∀ (T : List V) , (4294967296 ≤ q ∨ r * 4294967296 + v0 < q * Y0) → 0 < q ∧ hInv Y1 Y0 r1 v0 (q - 1) (r + Y1) ∨ (0 < q ∧ 4294967296 ≤ r + Y1 ∧ q0 = q - 1) := fun _ h => by
   obtain ⟨n1, n2, n3⟩ := hnext h
   rcases Nat.lt_or_ge (r + Y1) 4294967296 with h1 | h1
   ·exact .inl ⟨n1, n2, n3, h1⟩
   ·refine .inr ⟨n1, h1, ?_⟩
    rw [hq0, hYY]
    exact o_a2 n2 (o_a4 n2 (by omega) hY0 h1 _) n3
  have b1 : IntKind.u64.wrap ((r : Int) + Y1) = ((r + Y1 : Nat) : Int) := wu64 (by omega) (by omega)
  have body : (4294967296 ≤ q ∨ r * 4294967296 + v0 < q * Y0) → IntKind.u64.wrap ((q : Int) - 1) = ((q - 1 : Nat) : Int) := fun h => by
   have := (hnext h).1
   rw [wu64 (by omega) (by omega)]; omega
  by_cases c1 : 4294967296 ≤ q
  ·have c1' : (4294967296 : Int) ≤ q := by omega
   refine G1 c1' ?_; try with_reducible exact tt
   refine AW.cond rfl (fun h => ?_) (fun h => ?_)
   ·have e1 := body (.inl c1)
    rcases hstep [] (.inl c1) with ⟨n1, n2⟩ | ⟨n1, n2, n3⟩
    ·have n4 : ¬ (4294967296 : Int) ≤ ((r + Y1 : Nat) : Int) := by have := n2.2.2; omega
     generalize hr' : r + Y1 = r' at *
     generalize hq' : q - 1 = q' at *
     refine G1 (fs e1 (fs b1 n4)) ?_; try with_reducible exact tt
     refine AW.cond rfl (fun h => ?_) (fun h => ?_)
     ·first | (simp [n4] at h; done) | (simp [n4] at h; omega)
     refine G0 ?_; try with_reducible exact tt
     exact ⟨q', r', n2, by omega, by simp, by simp⟩
    ·have n4 : (4294967296 : Int) ≤ ((r + Y1 : Nat) : Int) := by omega
     generalize hr' : r + Y1 = r' at *
     generalize hq' : q - 1 = q' at *
     refine G1 (fs e1 (fs b1 n4)) ?_; try with_reducible exact tt
     refine AW.cond rfl (fun h => ?_) (fun h => ?_)
     ·refine AW.exit ?_
      (try (simp -implicitDefEqProofs; try simp (disch := omega) only [w64, wu64]))
      rw [n3]
      exact Sub1.refl _
     ·first | (simp at h; done) | (simp at h; omega)
   ·simp [c1'] at h
  ·have c1' : ¬ (4294967296 : Int) ≤ q := by omega
   have hqy : q * Y0 ≤ 4294967295 * 4294967295 := Nat.mul_le_mul (by omega) (by omega)
   have e1 : IntKind.u64.wrap ((q : Int) * Y0) = ((q * Y0 : Nat) : Int) := by rw [← Int.natCast_mul]; exact wu64 (by omega) (by omega)
   have e2 : IntKind.u64.wrap (4294967296 * (r : Int)) = ((4294967296 * r : Nat) : Int) := wu64 (by omega) (by omega)
   have e3 : IntKind.u64.wrap (((4294967296 * r : Nat) : Int) + v0) = ((4294967296 * r + v0 : Nat) : Int) := wu64 (by omega) (by omega)
   by_cases c2 : r * 4294967296 + v0 < q * Y0
   ·have c2' : ((4294967296 * r + v0 : Nat) : Int) < ((q * Y0 : Nat) : Int) := by omega
    have e4 := body (.inr c2)
    have hs := hstep [] (.inr c2)
    clear hend hnext hstep body
    generalize q * Y0 = m at *
    generalize 4294967296 * r = m2 at *
    generalize m2 + v0 = m3 at *
    refine G1 (fs c1' (fs e1 (fs e2 (fs e3 c2')))) ?_; try with_reducible exact tt
    refine AW.cond rfl (fun h => ?_) (fun h => ?_)
    ·rcases hs with ⟨n1, n2⟩ | ⟨n1, n2, n3⟩
     ·have n4 : ¬ (4294967296 : Int) ≤ ((r + Y1 : Nat) : Int) := by have := n2.2.2; omega
      generalize hr' : r + Y1 = r' at *
      generalize hq' : q - 1 = q' at *
      refine G1 (fs e4 (fs b1 n4)) ?_; try with_reducible exact tt
      refine AW.cond rfl (fun h => ?_) (fun h => ?_)
      ·first | (simp at h; done) | (simp at h; omega)
      refine G0 ?_; try with_reducible exact tt
      exact ⟨q', r', n2, by omega, by simp, by simp⟩
     ·have n4 : (4294967296 : Int) ≤ ((r + Y1 : Nat) : Int) := by omega
      generalize hr' : r + Y1 = r' at *
      generalize hq' : q - 1 = q' at *
      refine G1 (fs e4 (fs b1 n4)) ?_; try with_reducible exact tt
      refine AW.cond rfl (fun h => ?_) (fun h => ?_)
      ·refine AW.exit ?_
       (try (simp -implicitDefEqProofs; try simp (disch := omega) only [w64, wu64]))
       rw [n3]
       exact Sub1.refl _
      ·first | (simp at h; done) | (simp at h; omega)
    ·first | (simp at h; done) | (simp at h; omega)
   ·have c2' : ¬ ((4294967296 * r + v0 : Nat) : Int) < ((q * Y0 : Nat) : Int) := by omega
    have e4 := hend (by omega)
    clear hend hnext hstep body
    generalize q * Y0 = m at *
    generalize 4294967296 * r = m2 at *
    generalize m2 + v0 = m3 at *
    refine G1 (fs c1' (fs e1 (fs e2 (fs e3 c2')))) ?_; try with_reducible exact tt
    refine AW.cond rfl (fun h => ?_) (fun h => ?_)
    ·first | (simp at h; done) | (simp at h; omega)
    ·refine AW.exit ?_
     (try (simp -implicitDefEqProofs; try simp (disch := omega) only [w64, wu64]))
     rw [e4]
     exact Sub1.refl _
 clear hq0
 obtain ⟨t6, ht6⟩ : ∃ t, t = q0 * Y % 18446744073709551616 := ⟨_, rfl⟩
 rw [← ht6] at s3 s4
 obtain ⟨t5, ht5⟩ : ∃ t, t = (r1 * 4294967296 + v0) % 18446744073709551616 := ⟨_, rfl⟩
 rw [← ht5] at s2 s4
 obtain ⟨t4, ht4⟩ : ∃ t, t = r1 * 4294967296 % 18446744073709551616 := ⟨_, rfl⟩
 rw [← ht4] at s1 s2
 obtain ⟨t7, ht7⟩ : ∃ t, t = q1 * 4294967296 := ⟨_, rfl⟩
 rw [← ht7] at s5 s6
 clear ht4 ht5 ht6 ht7
 simp
 refine G1 (fs s1 (fs s2 (fs s3 (fs s4 (fs s5 (fs s6 (fs s7 f13))))))) ?_; try with_reducible exact tt
end
end Go.Proofs.YtlelpbaeplcfiaaDoor.Am
namespace Go.Proofs.YtlelpbaeplcfiaaDoor.Am
section
open Go.RowKit
def uW (ws : List Nat) : List V := U ws
end
end Go.Proofs.YtlelpbaeplcfiaaDoor.Am
namespace Go.Proofs.YtlelpbaeplcfiaaDoor.Am
section
open Go.RowKit
def splitW (y : Nat) : List Nat → List Nat × Nat
 | [] => ([], 0)
 | x :: l => (((splitW y l).2 * 18446744073709551616 + x) / y :: (splitW y l).1, ((splitW y l).2 * 18446744073709551616 + x) % y)
theorem o_d8 {y : Nat} (h0 : 0 < y) : ∀ {l : List Nat}, small l → wval l = wval (splitW y l).1 * y + (splitW y l).2 ∧ (splitW y l).2 < y ∧ small (splitW y l).1 ∧ (splitW y l).1.length = l.length
 | [], _ => ⟨by simp [splitW, wval], h0, by simp [small, splitW], rfl⟩
 | x :: l, h => by
  have hx := h x (by simp)
  obtain ⟨h1, h2, h3, h4⟩ := o_d8 h0 (l := l) (fun z hz => h z (by simp [hz]))
  simp only [splitW, wval, List.length_cons, h4]
  generalize splitW y l = s at *
  obtain ⟨Q, r⟩ := s
  simp only at *
  have hd := Nat.div_add_mod (r * 18446744073709551616 + x) y
  have hm := Nat.mod_lt (r * 18446744073709551616 + x) h0
  have hq : (r * 18446744073709551616 + x) / y < 18446744073709551616 := by
   rw [Nat.div_lt_iff_lt_mul h0]
   have : (r + 1) * 18446744073709551616 ≤ y * 18446744073709551616 := Nat.mul_le_mul_right _ h2
   omega
  refine ⟨?_, hm, ?_, trivial⟩
  ·rw [Nat.mul_comm y] at hd
   have e : 18446744073709551616 * (wval Q * y + r) = 18446744073709551616 * wval Q * y + r * 18446744073709551616 := by rw [Nat.mul_add, Nat.mul_assoc, Nat.mul_comm r]
   rw [h1, e, Nat.add_mul]
   obtain ⟨z, hz⟩ : ∃ z, z = (r * 18446744073709551616 + x) % y := ⟨_, rfl⟩
   obtain ⟨z2, hz2⟩ : ∃ z, z = (r * 18446744073709551616 + x) / y * y := ⟨_, rfl⟩
   obtain ⟨z3, hz3⟩ : ∃ z, z = 18446744073709551616 * wval Q * y := ⟨_, rfl⟩
   rw [← hz, ← hz2] at hd
   rw [← hz, ← hz2, ← hz3]
   omega
  ·intro z hz
   rcases List.mem_cons.1 hz with rfl | hz
   ·exact hq
   ·exact h3 z hz

def splitC (y : Nat) (ws : List Nat) (k : Nat) : List V := U (List.replicate k 0 ++ (splitW y (ws.drop k)).1)
theorem o_d9 {y : Nat} (h0 : 0 < y) {ws : List Nat} (hs : small ws) {k : Nat} (hk : k ≤ ws.length) : (splitC y ws k).length = ws.length := by
 have := (o_d8 h0 (l := ws.drop k) (fun x hx => hs x (List.mem_of_mem_drop hx))).2.2.2
 simp [splitC, U, this]; omega

set_option maxHeartbeats 2000000 in
theorem o_da (ws : List Nat) (y : Nat) (hs : small ws) (hn : ws.length ≤ 1000000) (h0 : 0 < y) (hy : y < 18446744073709551616) : Eqn Tryd.prog o_5v [.d (W ws), .d (.int .u64 y)] [] (.tup [.d (W (splitW y ws).1), .d (.int .u64 (splitW y ws).2)]) [] := by
 refine Eqn.pure o_5x (o_9f _ _) ?_
 simp only [o_5w, W]
 have hlen := (o_d8 h0 hs).2.2.2
 rw [hlen]
 have hlowC : ∀ k, V.lowl 1 (splitC y ws k) = true := fun k => o_9n 1 _
 refine G0 ?_; try with_reducible exact tt
 rw [show List.replicate ws.length (V.d (.int .u64 0)) = splitC y ws ws.length by simp [splitC, U, splitW]]
 refine AW.loopT (α := Nat) 1 (fun k => [(8, .d (.int .i64 ((k : Int) - 1))), (7, .d (.int .u64 ((splitW y (ws.drop k)).2 : Nat)))]) (fun k => [(0, ⟨34, splitC y ws k⟩)]) (fun k => k ≤ ws.length) (fun k => k) ws.length ?_ ?_ (Nat.le_refl _) ?_ ?_ ?_
 ·simp
 ·simp
 ·simp [splitW]
 ·simp [hlowC]
 rintro k hk
 simp
 cases k with
 | zero =>
  refine G0 ?_; try with_reducible exact tt
  refine AW.cond rfl (fun h => ?_) (fun h => ?_)
  ·simp at h
  refine AW.exit ?_
  (try (simp -implicitDefEqProofs; try simp (disch := omega) only [w64, wu64]))
  rw [show splitC y ws 0 = ((splitW y ws).1.map fun x : Nat => D.int .u64 x).map V.d by simp [splitC, U]]
  refine AW.freeze 0 1 ⟨34, _⟩ ((splitW y ws).1.map fun x : Nat => .int .u64 x) (by rfl) (by rfl) ?_
  simp [← hlen, List.take_of_length_le]
  refine G0 ?_; try with_reducible exact tt
 | succ k =>
  have hk' : k < ws.length := hk
  have hdrop : ws.drop k = ws[k] :: ws.drop (k + 1) := List.drop_eq_getElem_cons hk'
  obtain ⟨i1, i2, i3, i4⟩ := o_d8 h0 (l := ws.drop (k + 1)) (fun x hx => hs x (List.mem_of_mem_drop hx))
  have hl := o_d9 h0 hs hk
  have hset : (splitC y ws (k + 1)).set k (.d (.int .u64 (((splitW y (ws.drop (k + 1))).2 * 18446744073709551616 + ws[k]) / y : Nat))) = splitC y ws k := by
   rw [splitC, splitC, hdrop, splitW, U, U, List.replicate_succ', List.append_assoc, List.map_append, List.map_append, List.set_append_right _ _ (by simp)]
   simp
  have hrest : (splitW y (ws.drop k)).2 = ((splitW y (ws.drop (k + 1))).2 * 18446744073709551616 + ws[k]) % y := by rw [hdrop, splitW]
  have hx : ws[k] < 18446744073709551616 := hs _ (List.getElem_mem _)
  have hdv := o_d7 (splitW y (ws.drop (k + 1))).2 ws[k] y i2 hx hy
  rw [← hrest] at hdv
  generalize (splitW y (ws.drop (k + 1))).2 = r at *
  have e0 : (0 : Int) ≤ (k : Int) + 1 - 1 := by omega
  have e1 : (k : Int) + 1 - 1 = k := by omega
  have e2 : (((k : Int) + 1 - 1)).toNat = k := by omega
  have e3 : IntKind.i64.wrap ((k : Int) - 1) = (k : Int) - 1 := w64 (by omega) (by omega)
  generalize hxk : ws[k] = x at *
  generalize hqd : (r * 18446744073709551616 + x) / y = q at *
  generalize hr'' : (splitW y (ws.drop k)).2 = r' at *
  refine G1 (fs e0 (fs e1 (fs e2 hk'))) ?_; try with_reducible exact tt
  refine AW.cond rfl (fun h => ?_) (fun h => ?_)
  ·refine G1 (fs e0 (fs e1 (fs e2 (fs hk' hxk)))) ?_; try with_reducible exact tt
   refine CallS.pu (hdv) (R1 (fs e1 (fs hl (fs hk' (fs hset e3)))) ?_); try with_reducible exact tt
   refine ⟨k, by omega, by omega, ?_⟩
   rw [hr'']
   simp [hlowC]
  ·simp at h
end
end Go.Proofs.YtlelpbaeplcfiaaDoor.Am
namespace Go.Proofs.YtlelpbaeplcfiaaDoor.Am
section
open Go.RowKit
def spcL : ByteArray := ⟨#[32, 32, 32, 32, 32, 32, 32, 32, 32, 32, 32, 32, 32, 32, 32, 32, 32, 32, 32, 32, 32, 32, 32, 32, 32, 32, 32, 32, 32, 32, 32, 32, 32, 32, 32, 32, 32, 32, 32, 32, 32, 32, 32, 32, 32, 32, 32, 32, 32, 32, 32, 32, 32, 32, 32, 32, 32, 32, 32, 32, 32, 32, 32, 32, 32, 32, 32, 32, 32, 32, 32, 32, 32, 32, 32, 32, 32, 32, 32, 32, 32, 32, 32, 32, 32, 32, 32, 32, 32, 32, 32, 32, 32, 32, 32, 32, 32, 32, 32, 32, 32, 32, 32, 32, 32, 32, 32, 32, 32, 32, 32, 32, 32, 32, 32, 32, 32, 32, 32, 32, 32, 32, 32, 32, 32, 32, 32, 32]⟩
def dshL : ByteArray := ⟨#[45, 45, 45, 45, 45, 45, 45, 45, 45, 45, 45, 45, 45, 45, 45, 45, 45, 45, 45, 45, 45, 45, 45, 45, 45, 45, 45, 45, 45, 45, 45, 45, 45, 45, 45, 45, 45, 45, 45, 45, 45, 45, 45, 45, 45, 45, 45, 45, 45, 45, 45, 45, 45, 45, 45, 45, 45, 45, 45, 45, 45, 45, 45, 45, 45, 45, 45, 45, 45, 45, 45, 45, 45, 45, 45, 45, 45, 45, 45, 45, 45, 45, 45, 45, 45, 45, 45, 45, 45, 45, 45, 45, 45, 45, 45, 45, 45, 45, 45, 45, 45, 45, 45, 45, 45, 45, 45, 45, 45, 45, 45, 45, 45, 45, 45, 45, 45, 45, 45, 45, 45, 45, 45, 45, 45, 45, 45, 45]⟩
def zerL : ByteArray := ⟨#[48, 48, 48, 48, 48, 48, 48, 48, 48, 48, 48, 48, 48, 48, 48, 48, 48, 48, 48, 48, 48, 48, 48, 48, 48, 48, 48, 48, 48, 48, 48, 48, 48, 48, 48, 48, 48, 48, 48, 48, 48, 48, 48, 48, 48, 48, 48, 48, 48, 48, 48, 48, 48, 48, 48, 48, 48, 48, 48, 48, 48, 48, 48, 48]⟩
theorem o_db : spcL.size = 128 := by kernel_rfl
theorem o_dc : dshL.size = 128 := by kernel_rfl
theorem o_dd : zerL.size = 64 := by kernel_rfl
theorem o_de : ((spcL.extract 0 1).toList == (⟨#[48]⟩ : ByteArray).toList) = false := by kernel_rfl
theorem o_df : ((dshL.extract 0 1).toList == (⟨#[48]⟩ : ByteArray).toList) = false := by kernel_rfl
theorem o_dg : ((zerL.extract 0 1).toList == (⟨#[48]⟩ : ByteArray).toList) = true := by kernel_rfl
theorem o_dh : ((List.range 65).all fun k => (zerL.extract 0 k).data.toList == (List.replicate k 48).map UInt8.ofNat) = true := by kernel_rfl
theorem o_di (k : Nat) (h : k ≤ 64) : zerL.extract 0 k = bst (List.replicate k 48) := by
 have := List.all_eq_true.1 o_dh k (by simp; omega)
 simp only [beq_iff_eq] at this
 unfold bst
 rw [← this]
theorem o_dj (s p : ByteArray) (h : p.size ≤ s.size) (hs : s.size ≤ 1000) : Eqn Tryd.prog o_7f [.d (.str s), .d (.str p)] [] (.d (.bool ((s.extract 0 p.size).toList == p.toList))) [] := by
 refine Eqn.pure o_7h Plain.ok ?_
 simp only [o_7g]
 have h' : (p.size : Int) ≤ s.size := by omega
 refine A10 (fs h h') ?_; try with_reducible exact tt
theorem o_dk (s p : ByteArray) (h : p.size ≤ s.size) (hs : s.size ≤ 1000) : Eqn Tryd.prog o_6r [.d (.str s), .d (.str p)] [] (.d (.bool ((s.extract 0 p.size).toList == p.toList))) [] := by
 refine Eqn.pure o_6t Plain.ok ?_
 simp only [o_6s]
 have hh := o_dj s p h hs
 refine A01 hh ?_; try with_reducible exact tt
theorem o_dl (k : Nat) (h : k < 18446744073709551616) : Eqn Tryd.prog o_6o [.d (.int .u64 1), .d (.int .u64 k)] [] (.tup [.d (.int .u64 0), .d (.int .u64 k)]) [] := by
 refine Eqn.pure o_6q Plain.ok ?_
 simp only [o_6p]
 have hm := o_d4 1 k (by omega) h
 rw [Nat.one_mul, Nat.div_eq_of_lt h, Nat.mod_eq_of_lt h] at hm
 refine A01 hm ?_; try with_reducible exact tt
@[simp] theorem o_dm : ByteArray.size ⟨#[48]⟩ = 1 := rfl
theorem o_dn (k : Nat) (hk : k ≤ 18) : Eqn Tryd.prog o_64 [.d (.str ⟨#[48]⟩), .d (.int .i64 k)] [] (.d (.str (bst (List.replicate k 48)))) [] := by
 refine Eqn.pure o_66 Plain.ok ?_
 simp only [o_65]
 rw [show (⟨#[32, 32, 32, 32, 32, 32, 32, 32, 32, 32, 32, 32, 32, 32, 32, 32, 32, 32, 32, 32, 32, 32, 32, 32, 32, 32, 32, 32, 32, 32, 32, 32, 32, 32, 32, 32, 32, 32, 32, 32, 32, 32, 32, 32, 32, 32, 32, 32, 32, 32, 32, 32, 32, 32, 32, 32, 32, 32, 32, 32, 32, 32, 32, 32, 32, 32, 32, 32, 32, 32, 32, 32, 32, 32, 32, 32, 32, 32, 32, 32, 32, 32, 32, 32, 32, 32, 32, 32, 32, 32, 32, 32, 32, 32, 32, 32, 32, 32, 32, 32, 32, 32, 32, 32, 32, 32, 32, 32, 32, 32, 32, 32, 32, 32, 32, 32, 32, 32, 32, 32, 32, 32, 32, 32, 32, 32, 32, 32]⟩ : ByteArray) = spcL from rfl]
 rw [show (⟨#[45, 45, 45, 45, 45, 45, 45, 45, 45, 45, 45, 45, 45, 45, 45, 45, 45, 45, 45, 45, 45, 45, 45, 45, 45, 45, 45, 45, 45, 45, 45, 45, 45, 45, 45, 45, 45, 45, 45, 45, 45, 45, 45, 45, 45, 45, 45, 45, 45, 45, 45, 45, 45, 45, 45, 45, 45, 45, 45, 45, 45, 45, 45, 45, 45, 45, 45, 45, 45, 45, 45, 45, 45, 45, 45, 45, 45, 45, 45, 45, 45, 45, 45, 45, 45, 45, 45, 45, 45, 45, 45, 45, 45, 45, 45, 45, 45, 45, 45, 45, 45, 45, 45, 45, 45, 45, 45, 45, 45, 45, 45, 45, 45, 45, 45, 45, 45, 45, 45, 45, 45, 45, 45, 45, 45, 45, 45, 45]⟩ : ByteArray) = dshL from rfl]
 rw [show (⟨#[48, 48, 48, 48, 48, 48, 48, 48, 48, 48, 48, 48, 48, 48, 48, 48, 48, 48, 48, 48, 48, 48, 48, 48, 48, 48, 48, 48, 48, 48, 48, 48, 48, 48, 48, 48, 48, 48, 48, 48, 48, 48, 48, 48, 48, 48, 48, 48, 48, 48, 48, 48, 48, 48, 48, 48, 48, 48, 48, 48, 48, 48, 48, 48]⟩ : ByteArray) = zerL from rfl]
 by_cases h0 : k = 0
 ·subst h0
  refine A00 ?_; try with_reducible exact tt
  exact Sub1.of rfl
 by_cases h1 : k = 1
 ·subst h1
  refine A00 ?_; try with_reducible exact tt
  exact Sub1.of rfl
 have e1 := o_db
 have e2 := o_dc
 have e3 := o_dd
 have p1 := o_dk spcL ⟨#[48]⟩ (by rw [e1]; decide) (by omega)
 have p2 := o_dk dshL ⟨#[48]⟩ (by rw [e2]; decide) (by omega)
 have p3 := o_dk zerL ⟨#[48]⟩ (by rw [e3]; decide) (by omega)
 rw [o_dm, o_de] at p1
 rw [o_dm, o_df] at p2
 rw [o_dm, o_dg] at p3
 have hx := o_di k (by omega)
 have hm := o_dl k (by omega)
 generalize spcL = s1 at *
 generalize dshL = s2 at *
 generalize zerL = s3 at *
 have ku : IntKind.u64.wrap (k : Int) = k := by rw [IntKind.wrap_u64]; omega
 have ki : IntKind.i64.wrap (k : Int) = k := by rw [IntKind.wrap_i64]; omega
 have g1 : ¬ (k : Int) = 0 := by omega
 have g2 : ¬ (k : Int) = 1 := by omega
 have g3 : ¬ (k : Int) < 0 := by omega
 have g4 : (k : Int) ≤ 128 := by omega
 have g5 : (k : Int) ≤ 64 := by omega
 have g6 : ¬ (9223372036854775807 : Int) < k := by omega
 have e3k : k ≤ s3.size := by omega
 refine A14 (fs h0 (fs h1 (fs g1 (fs g2 (fs g3 (fs g4 (fs g5 (fs g6 (fs ku (fs ki (fs e3 (fs hx e3k)))))))))))) hm p1 p2 p3 ?_; try with_reducible exact tt
 done
end
end Go.Proofs.YtlelpbaeplcfiaaDoor.Am
namespace Go.Proofs.YtlelpbaeplcfiaaDoor.Am
section
open Go.RowKit
theorem o_do : txt 0 = ⟨#[48]⟩ := by rw [txt, decN, ndig]; rfl
theorem o_dp (n : Nat) (hn : n < 18446744073709551616) : Eqn Tryd.prog o_61 [.d (.int .u64 n), .d (.int .i64 10)] [] (.d (.str (txt n))) [] := by
 refine Eqn.pure o_63 (o_3y _) ?_
 simp only [o_62]
 have h := o_d2 n hn
 refine A01 h ?_; try with_reducible exact tt
def wN (a i : Nat) : Nat := a / 10 ^ (18 * i)
def outN (a i : Nat) : List Nat := if wN a i = 0 then decN a else padN (18 * i) a
theorem o_dq (a i : Nat) : wN a (i + 1) = wN a i / 1000000000000000000 := by rw [wN, wN, Nat.div_div_eq_div_mul, Nat.mul_succ, Nat.pow_add]
theorem e18 : (1000000000000000000 : Nat) = 10 ^ 18 := by decide
theorem o_dr (a i : Nat) (h : 0 < wN a (i + 1)) (h0 : 0 < wN a i) : List.replicate (18 - (decN (wN a i % 1000000000000000000)).length) 48 ++ decN (wN a i % 1000000000000000000) ++ outN a i = outN a (i + 1) := by
 have h1 : outN a i = padN (18 * i) a := by rw [outN, if_neg (by omega)]
 have h2 : outN a (i + 1) = padN (18 * (i + 1)) a := by rw [outN, if_neg (by omega)]
 have h3 : padN (18 * (i + 1)) a = padN 18 (wN a i) ++ padN (18 * i) a := by rw [show 18 * (i + 1) = 18 + 18 * i by omega, o_by]; rfl
 rw [h1, h2, h3, e18, o_ca _ 18 (Nat.mod_lt _ (Nat.pow_pos (by decide))) (by decide), o_c3 18 (wN a i)]
theorem o_ds (a i : Nat) (h : wN a (i + 1) = 0) (h0 : 0 < wN a i) : decN (wN a i % 1000000000000000000) ++ outN a i = outN a (i + 1) := by
 rw [outN, outN, if_neg (by omega), if_pos h, Nat.mod_eq_of_lt (by rw [o_dq] at h; omega), o_c9 (18 * i) a h0]
 rfl
theorem splitN (w y : Nat) (h0 : 0 < y) : wval (splitW y (words w)).1 = w / y ∧ (splitW y (words w)).2 = w % y := by
 obtain ⟨h1, h2, -, -⟩ := o_d8 h0 (o_8t w)
 rw [o_8s] at h1
 generalize splitW y (words w) = s at *
 constructor
 ·rw [h1, Nat.mul_comm, Nat.mul_add_div h0, Nat.div_eq_of_lt h2, Nat.add_zero]
 ·rw [h1, Nat.mul_comm, Nat.mul_add_mod, Nat.mod_eq_of_lt h2]
theorem o_dt (a : Nat) (ha : size a ≤ 1000) : Eqn Tryd.prog o_5d [.d (.agg [natW a])] [] (.d (.str (txt a))) [] := by
 refine Eqn.pure o_5f (o_3y _) ?_
 have hz := o_93 a
 simp only [o_5e]
 by_cases h0 : a = 0
 ·subst h0
  refine A01 hz ?_; try with_reducible exact tt
  exact Sub1.of (by rw [o_do])
 have hda : ndig a ≤ 20000 := by
  have h1 := o_81 (o_8t a)
  rw [o_8s] at h1
  obtain ⟨K, hK⟩ : ∃ K, K = 20 * (words a).length := ⟨_, rfl⟩
  have h2 : a < 10 ^ K := by
   rw [hK, Nat.pow_mul]
   exact Nat.lt_of_lt_of_le h1 (Nat.pow_le_pow_left (by decide) _)
  rcases Nat.eq_zero_or_pos K with h3 | h3
  ·rw [h3] at h2; simp at h2; omega
  ·have := o_c7 a K h2 h3
   rw [o_9p] at hK
   omega
 refine A11 h0 hz ?_; try with_reducible exact tt
 refine AW.loopT (α := Nat) 1 (fun i => [(4, .d (natW (wN a i))), (3, .d (.str (bst (outN a i))))]) (fun i => []) (fun i => True) (fun i => wN a i) 0 ?_ ?_ trivial ?_ ?_ ?_
 ·simp
 ·simp
 ·have e1 : outN a 0 = [] := by rw [outN, if_neg (by rw [wN]; simpa using h0)]; rfl
  have e2 : wN a 0 = a := by simp [wN]
  rw [e1, e2]
  simp [o_cd]
 ·simp
 intro i _
 have hw : wN a i ≤ a := Nat.div_le_self _ _
 have hsw := o_9h hw
 by_cases hwz : wN a i = 0
 ·have e1 : outN a i = decN a := by rw [outN, if_pos hwz]
  rw [e1, hwz, o_8y]
  simp
  refine A00 ?_; try with_reducible exact tt
  exact Sub1.of rfl
 ·have hs := o_da (words (wN a i)) 1000000000000000000 (o_8t _) (by rw [o_9p]; omega) (by decide) (by decide)
  have ht := o_91 (splitW 1000000000000000000 (words (wN a i))).1 (o_d8 (by decide) (o_8t _)).2.2.1 (by rw [(o_d8 (y := 1000000000000000000) (by decide) (o_8t _)).2.2.2, o_9p]; omega)
  obtain ⟨k1, k2⟩ := splitN (wN a i) 1000000000000000000 (by decide)
  rw [k2] at hs
  rw [k1, ← o_dq] at ht
  have hf := o_dp (wN a i % 1000000000000000000) (Nat.lt_trans (Nat.mod_lt _ (by decide)) (by decide))
  have hlt : wN a (i + 1) < wN a i := by rw [o_dq]; exact Nat.div_lt_self (by omega) (by decide)
  have hdl := o_ce (wN a i % 1000000000000000000)
  have hd18 := o_c7 (wN a i % 1000000000000000000) 18 (Nat.mod_lt _ (by decide)) (by decide)
  have hd0 := o_c5 (wN a i % 1000000000000000000)
  obtain ⟨w, hwd⟩ : ∃ w, w = wN a i := ⟨_, rfl⟩
  obtain ⟨w1, hwd1⟩ : ∃ w, w = wN a (i + 1) := ⟨_, rfl⟩
  obtain ⟨pt, hpt⟩ : ∃ w, w = wN a i % 1000000000000000000 := ⟨_, rfl⟩
  have hW : natW w = W (words w) := rfl
  have hlw : 0 < (words w).length := by
   rcases Nat.eq_zero_or_pos (words w).length with h | h
   ·exact absurd (o_8w.1 (List.eq_nil_of_length_eq_zero h)) (by omega)
   ·exact h
  have hol : (outN a i).length ≤ 20000 := by
   rw [outN, if_neg hwz, o_bx]
   have := o_c8 (18 * i) a (Nat.pos_of_ne_zero hwz)
   omega
  have hmore := o_dr a i
  have hlast := o_ds a i
  rw [← hpt] at hs hf hmore hlast hdl hd18 hd0
  rw [← hwd] at hs ht hlt hmore hlast hwz hw hsw ⊢
  rw [← hwd1] at ht hlt hmore hlast
  simp only [W] at hs ht hW
  generalize (words w).length = nw at *
  generalize ((words w).map fun x : Nat => D.int .u64 x) = LW at *
  generalize (splitW 1000000000000000000 (words w)).1 = sw1 at *
  simp
  rw [hW]
  have hlw' : (0 : Int) < nw := by omega
  rw [txt] at hf
  obtain ⟨O, hO⟩ : ∃ O, O = outN a i := ⟨_, rfl⟩
  obtain ⟨B, hB⟩ : ∃ B, B = decN pt := ⟨_, rfl⟩
  rw [← hO] at hmore hlast hol ⊢
  rw [← hB] at hmore hlast hdl hf
  refine A13 (fs hlw hlw') hs ht hf ?_; try with_reducible exact tt
  have hap := o_cb
  by_cases h1 : w1 = 0
  ·rw [h1, o_8y]
   replace hlast := hlast (by omega) (by omega)
   refine A00 ?_; try with_reducible exact tt
   have e1 := o_cb B O
   rw [hlast] at e1
   exact ⟨i + 1, by rw [← hwd1]; exact hlt, Sub1.of (by rw [e1]), Sub1.of (by rw [← hwd1, h1, o_8y])⟩
  ·have hW1 : natW w1 = W (words w1) := rfl
   simp only [W] at hW1
   have hl1 : 0 < (words w1).length := by
    rcases Nat.eq_zero_or_pos (words w1).length with h | h
    ·exact absurd (o_8w.1 (List.eq_nil_of_length_eq_zero h)) h1
    ·exact h
   generalize (words w1).length = nw1 at *
   generalize ((words w1).map fun x : Nat => D.int .u64 x) = LW1 at *
   have hl1' : (0 : Int) < nw1 := by omega
   replace hmore := hmore (by omega) (by omega)
   obtain ⟨k, hk⟩ : ∃ k, k = 18 - B.length := ⟨_, rfl⟩
   have hr := o_dn k (by omega)
   have ek : IntKind.i64.wrap (18 - (B.length : Int)) = k := by rw [w64 (by omega) (by omega)]; omega
   rw [← hk] at hmore
   have e1 := o_cb (List.replicate k 48) B
   have e2 := o_cb (List.replicate k 48 ++ B) O
   rw [hmore] at e2
   rw [hW1]
   have hsz : (List.replicate k 48 ++ B).length ≤ 18 := by simp; omega
   generalize hRB : List.replicate k 48 ++ B = RB at *
   generalize hRR : List.replicate k 48 = RR at *
   have hrl : RR.length ≤ 18 := by rw [← hRR]; simp; omega
   refine A11 (fs hl1 (fs hl1' (fs ek e1))) hr ?_; try with_reducible exact tt
   exact ⟨i + 1, by rw [← hwd1]; exact hlt, Sub1.of (by rw [e2]), Sub1.of (by rw [← hwd1, hW1])⟩
end
end Go.Proofs.YtlelpbaeplcfiaaDoor.Am
namespace Go.Proofs.YtlelpbaeplcfiaaDoor.Am
section
open Go.RowKit
theorem o_du (s t : Nat) (h : 0 < t) : t < moreY s t := by
 unfold moreY
 split
 ·generalize t / 2 ^ s = q
  omega
 ·rename_i h1
  have : t / 2 ^ s ≠ 0 := fun h2 => by rw [h2, Nat.zero_mul] at h1; omega
  generalize t / 2 ^ s = q at *
  omega
theorem o_dv {s : Nat} (hs : 1 ≤ s) (k : Nat) : (placeY s k).value ≤ (placeY s (k + 1)).value ∧ (((placeY s (k + 1)).x = (placeY s k).x ∧ (placeY s (k + 1)).reply = (placeY s k).reply) ∨
  ((placeY s (k + 1)).x = (placeY s k).x + 1 ∧ (placeY s k).reply ≤ (placeY s (k + 1)).value ∧ (placeY s k).reply < (placeY s (k + 1)).reply)) := by
 have h4 := (o_a1 hs k).1
 rw [placeY, nextY]
 generalize 2 ^ (placeY s k).shift = u
 split
 ·refine ⟨by simp only; omega, .inr ⟨rfl, by simpa using ‹_›, ?_⟩⟩
  exact o_du s _ (by omega)
 ·exact ⟨by simp only; omega, .inl ⟨rfl, rfl⟩⟩
theorem o_dw {s : Nat} (hs : 1 ≤ s) : ∀ k, (placeY s k).x = 0 → (placeY s k).reply = 2 ^ (2 * s)
 | 0, _ => rfl
 | k + 1, h => by
  rcases (o_dv hs k).2 with ⟨h1, h2⟩ | ⟨h1, -⟩
  ·rw [h2]; exact o_dw hs k (by omega)
  ·omega
theorem o_dx {s : Nat} (hs : 1 ≤ s) (i : Nat) : ∀ n, (placeY s i).x ≤ (placeY s (i + n)).x ∧ (placeY s i).value ≤ (placeY s (i + n)).value ∧ (placeY s i).reply ≤ (placeY s (i + n)).reply ∧
  ((placeY s i).x < (placeY s (i + n)).x → (placeY s i).reply ≤ (placeY s (i + n)).value ∧ (placeY s i).reply < (placeY s (i + n)).reply)
 | 0 => ⟨Nat.le_refl _, Nat.le_refl _, Nat.le_refl _, fun h => absurd h (Nat.lt_irrefl _)⟩
 | n + 1 => by
  obtain ⟨h1, h2, h3, h4⟩ := o_dx hs i n
  obtain ⟨g1, g2⟩ := o_dv hs (i + n)
  rw [← Nat.add_assoc]
  rcases g2 with ⟨g2, g3⟩ | ⟨g2, g3, g4⟩
  ·refine ⟨by omega, by omega, by omega, fun h => ?_⟩
   obtain ⟨k1, k2⟩ := h4 (by omega)
   omega
  ·exact ⟨by omega, by omega, by omega, fun h => ⟨by omega, by omega⟩⟩
theorem o_dy {s : Nat} (hs : 1 ≤ s) (k : Nat) : (placeY s (k + 1)).x ≤ (placeY s k).x + 1 := by
 rcases (o_dv hs k).2 with ⟨h, -⟩ | ⟨h, -⟩ <;> omega
def lowI (k n : Nat) : Nat := if n = 0 then k else k + 1 - n
theorem o_dz {k n : Nat} (h : n ≤ k) : lowI k (n + 1) = k - n := by unfold lowI; rw [if_neg (by omega)]; omega
theorem o_e0 {m n : Nat} (h : m < n) : cmpZ m n = -1 := by unfold cmpZ; rw [if_pos h]
theorem o_e1 {m n : Nat} (h : m ≤ n) : cmpZ m n ≤ 0 := by unfold cmpZ; split; decide; split <;> omega
theorem o_e2 {x m : Nat} (h : x < 18446744073709551616 ^ m) : size x ≤ m := o_8i (o_8u x) (by rwa [o_8s])
theorem o_e3 (a n : Nat) (hn : n ≤ 64) : size (a * 2 ^ n) ≤ size a + 1 := by
 refine o_e2 ?_
 have h := o_81 (o_8t a)
 rw [o_8s, o_9p] at h
 rw [Nat.pow_succ]
 have h2 : 2 ^ n ≤ 18446744073709551616 := Nat.le_trans (Nat.pow_le_pow_right (by decide) hn) (by decide)
 have h3 : 0 < 2 ^ n := Nat.two_pow_pos n
 exact Nat.lt_of_lt_of_le (Nat.mul_lt_mul_of_pos_right h h3) (Nat.mul_le_mul_left _ h2)
def iI (j n : Nat) : Int := (j : Int) - n
set_option maxHeartbeats 8000000 in
theorem o_e4 (s k : Int) : Eqn Tryd.prog o_51 [.d (.int .i64 s), .d (.int .i64 k)] [] (.d (.bool true)) [] := by
 refine Eqn.pure o_53 (o_3y _) ?_
 simp only [o_52]
 have hlaw := o_bq
 obtain ⟨a, ha, hal⟩ := o_bw s 3 (by omega)
 obtain ⟨j, hj, hjl⟩ := o_bw k 1023 (by omega)
 have ha' : bits BinOp.and IntKind.i64 s 3 = a := ha
 have hj' : bits BinOp.and IntKind.i64 k 1023 = j := hj
 obtain ⟨S, hS⟩ : ∃ S, S = a + 1 := ⟨_, rfl⟩
 have eS : IntKind.i64.wrap (1 + (a : Int)) = S := by rw [w64 (by omega) (by omega)]; omega
 have hS1 : 1 ≤ S := by omega
 have hS5 : S ≤ 5 := by omega
 have hat := o_bp S j hS1 hS5 (by omega)
 obtain ⟨z1, z2, z3, z4⟩ := o_bh hS1 hS5 (k := j) (by omega)
 have hvr := (o_bv (s := S) (k := j) hS1).2.2.2.1
 simp only [plD] at hat
 clear ha hj hal
 obtain ⟨p, hp⟩ : ∃ p, p = placeY S j := ⟨_, rfl⟩
 rw [← hp] at hat z1 z2 z3 z4 hvr
 have hp' := hp
 obtain ⟨px, ps, pv, pr⟩ := p
 simp only at hat z1 z2 z3 z4 hvr
 refine A12 (fs ha' (fs hj' eS)) hlaw hat ?_; try with_reducible exact tt
 by_cases hx : px = 0
 ·subst hx
  have hpr : pr = 2 ^ (2 * S) := by
   have := o_dw hS1 j (by rw [← hp])
   rw [← hp] at this
   exact this
  have ht := o_dt pr (by omega)
  have hcm := o_95 pv pr (by omega) (by omega)
  rw [o_e0 hvr] at hcm
  clear hp hp' hat hvr
  have hof := o_92 [pr] (o_9s (by
   rw [hpr]
   exact Nat.lt_of_le_of_lt (Nat.pow_le_pow_right (by decide) (show 2 * S ≤ 10 by omega)) (by decide))) (by simp)
  rw [show wval [pr] = pr by simp [wval]] at hof
  simp only [W, List.length_cons, List.length_nil, List.map_cons, List.map_nil] at hof
  have e2S : IntKind.i64.wrap (2 * (S : Int)) = ((2 * S : Nat) : Int) := by rw [w64 (by omega) (by omega)]; omega
  obtain ⟨S2, hS2⟩ : ∃ x, x = 2 * S := ⟨_, rfl⟩
  rw [← hS2] at e2S
  have ep : (2 : Int) ^ S2 = pr := by rw [hpr, hS2, Int.natCast_pow]; rfl
  have g1 : (S2 : Int) ≤ 64 := by omega
  have epw : IntKind.u64.wrap (pr : Int) = pr := by
   rw [wu64 (by omega) ?_]
   have : pr ≤ 2 ^ 10 := by rw [hpr]; exact Nat.pow_le_pow_right (by decide) (by omega)
   omega
  clear hpr hS2
  refine A12 (fs e2S (fs ep (fs epw g1))) hcm ht ?_; try with_reducible exact tt
  refine CallS.gf 1 1 ⟨34, [.d (.int .u64 pr)]⟩ [.int .u64 pr] [] (hof) (R0 ?_); try with_reducible exact tt
  refine A01 ht ?_; try with_reducible exact tt
  done
 ·have hx' : ¬ (px : Int) = 0 := by omega
  refine A10 (fs hx hx') ?_; try with_reducible exact tt
  refine AW.loopT (α := Nat) 2 (fun n => [(8, .d (.int .i64 (iI j n)))]) (fun n => [(1, ⟨27, (plC (placeY S (lowI j n))).map V.d⟩)]) (fun n => n ≤ j + 1 ∧ ((placeY S (lowI j n)).x = px ∨ (placeY S (lowI j n + 1)).x = px)) (fun n => j + 1 - n) 0 ?_ ?_ ?_ ?_ ?_ ?_
  ·simp
  ·simp
  ·refine ⟨by omega, .inl ?_⟩
   show (placeY S j).x = px
   rw [← hp]
  ·simp [iI]
  ·simp [plC, lowI, ← hp]
  rintro n ⟨hn, hinv⟩
  simp only [plC]
  obtain ⟨q, hq⟩ : ∃ q, q = placeY S (lowI j n) := ⟨_, rfl⟩
  obtain ⟨m, hm⟩ : ∃ m, j = lowI j n + m := ⟨j - lowI j n, by unfold lowI; split <;> omega⟩
  have hbel := o_dx hS1 (lowI j n) m
  rw [← hm, ← hp, ← hq] at hbel
  rw [← hq] at hinv ⊢
  have hsq := o_bh hS1 hS5 (k := lowI j n) (by omega)
  rw [← hq] at hsq
  by_cases hxx : q.x = px
  ·have hnj : n ≤ j := by
    rcases Nat.lt_or_ge j n with h | h
    ·have h1 : lowI j n = 0 := by unfold lowI; split <;> omega
     rw [h1] at hq
     rw [hq] at hxx
     exact absurd hxx.symm hx
    ·exact h
   have hat2 := o_bp S (j - n) hS1 hS5 (by omega)
   have hl1 := o_dz hnj
   have hii : iI j n = ((j - n : Nat) : Int) := by unfold iI; omega
   have hii2 : IntKind.i64.wrap (((j - n : Nat) : Int) - 1) = iI j (n + 1) := by rw [w64 (by omega) (by omega)]; unfold iI; omega
   have hii3 : IntKind.i64.wrap ((j : Int) - ((j - n : Nat) : Int)) = n := by rw [w64 (by omega) (by omega)]; omega
   obtain ⟨r, hr⟩ : ∃ r, r = placeY S (j - n) := ⟨_, rfl⟩
   have hrx : r.x ≤ px ∧ px ≤ r.x + 1 ∧ (r.x = px ∨ (placeY S (j - n + 1)).x = px) := by
    rcases Nat.eq_zero_or_pos n with h0 | h0
    ·subst h0
     rw [hr, Nat.sub_zero, ← hp]
     simp
    ·have h2 : lowI j n = j - n + 1 := by unfold lowI; rw [if_neg (by omega)]; omega
     have h3 := o_dy hS1 (j - n)
     have h4 := (o_dx hS1 (j - n) 1).1
     rw [← h2, ← hq, ← hr] at h3 h4
     rw [← h2, ← hq]
     omega
   rw [← hr] at hat2
   rw [hii]
   have hms : j + 1 - (n + 1) < j + 1 - n := by omega
   have hn1 : n + 1 ≤ j + 1 := by omega
   have hn2 : (n : Int) ≤ 1023 := by omega
   have hgoal : (placeY S (lowI j (n + 1))).x = px ∨ (placeY S (lowI j (n + 1) + 1)).x = px := by rw [hl1, ← hr]; exact hrx.2.2
   have hcell : placeY S (lowI j (n + 1)) = r := by rw [hl1, hr]
   obtain ⟨i, hi⟩ : ∃ i, i = j - n := ⟨_, rfl⟩
   rw [← hi] at hii2 hii3 hat2 ⊢
   obtain ⟨qx, qs, qv, qr⟩ := q
   obtain ⟨rx, rs, rv, rr⟩ := r
   simp only [plD] at hat2 hrx hxx hsq
   have ed : IntKind.i64.wrap ((px : Int) - rx) = (px : Int) - rx := w64 (by omega) (by omega)
   have g1 : ¬ (1 : Int) < (px : Int) - rx := by omega
   have hxi : (qx : Int) = px := by omega
   clear hr hrx hi hq hbel hii hp hp' hm hinv
   simp
   by_cases h200 : 200 < n
   ·have h200' : (200 : Int) < n := by omega
    refine A11 (fs hxx (fs hxi (fs ed (fs g1 (fs hii3 (fs h200 h200')))))) hat2 ?_; try with_reducible exact tt
    done
   ·have h200' : ¬ (200 : Int) < n := by omega
    refine A11 (fs hxx (fs hxi (fs ed (fs g1 (fs hii3 (fs h200 (fs h200' hii2))))))) hat2 ?_; try with_reducible exact tt
    exact ⟨n + 1, ⟨hn1, hgoal⟩, hms, Sub1.refl _, by rw [hcell]; exact Subs.refl _⟩
  ·obtain ⟨k1, k2⟩ := hbel.2.2.2 (by have := hbel.1; simp only at this ⊢; omega)
   simp only at k1 k2
   have sh1 := o_9q pv S (by omega) (by omega)
   have sh2 := o_9q pr S (by omega) (by omega)
   have z5 := o_e3 pv S (by omega)
   have z6 := o_e3 pr S (by omega)
   have ad := o_9g (pr * 2 ^ S) pr (by omega) (by omega)
   have z7 := o_b1 (a := pr * 2 ^ S) (b := pr) (m := 901) (by omega) (by omega)
   have c1 := o_95 q.reply pv (by omega) (by omega)
   have c2 := o_95 q.reply pr (by omega) (by omega)
   have c3 := o_95 (pv * 2 ^ S) (pr * 2 ^ S + pr) (by omega) (by omega)
   have hAB : pv * 2 ^ S ≤ pr * 2 ^ S := Nat.mul_le_mul_right _ (by omega)
   rw [o_e0 k2] at c2
   rw [o_e0 (by omega)] at c3
   have hz := o_e1 k1
   generalize pv * 2 ^ S = A at *
   generalize pr * 2 ^ S = B at *
   generalize B + pr = C at *
   obtain ⟨qx, qs, qv, qr⟩ := q
   simp only at hxx c1 c2 hz
   generalize cmpZ qr pv = z at *
   have hxi : ¬ (qx : Int) = px := by omega
   clear hq hbel hp hp' hm hinv hat
   simp
   refine A16 (fs hxx (fs hxi hz)) sh1 sh2 ad c1 c2 c3 ?_; try with_reducible exact tt
end
end Go.Proofs.YtlelpbaeplcfiaaDoor.Am
namespace Go.Proofs.YtlelpbaeplcfiaaDoor.Am
section
open Go.RowKit

theorem o_e5 {P : Program} {f : FuncId} {c : C} {rs : List RV} {nt : Nat} (hf : fnOf P f = some (c, rs, nt, false)) (vs : Array Value) (w : World) : (callFunc f vs).run P w = .ok (.enter f vs) w := by
 unfold fnOf at hf
 split at hf
 ·rename_i fn hfn
  split at hf
  ·rename_i b hb
   simp only [Option.some.injEq, Prod.mk.injEq] at hf
   obtain ⟨h1, h2, h3, h4⟩ := hf
   have h1 : ¬ fn.name = "runtime.NumGoroutine" := by simpa using h4
   simp [callFunc, hfn, h1, hb]
  ·cases hf
 ·cases hf

abbrev memW (W : World) : Mem := ⟨fun _ => none, fun b => b < W.heap.size, W⟩

theorem o_e6 {P : Program} {f : FuncId} {args : List V} {c : C} {rs : List RV} {nt : Nat} (hf : fnOf P f = some (c, rs, nt, false)) (E : Eqn P f args [] (.d (.bool true)) []) {W : World} {vs : List Value} (h : V.reps (memW W) args vs) (ht : Tabs (memW W)) :
  Calls P f vs.toArray W (fun e W' => e = .returned (.bool true) ∧ Same W W') := by
 rcases E.run (memW W) vs ⟨fun b h => h, fun n b h => (by cases h), ht⟩ h (by simp) (fun n i b h => by simp at h) (fun _ _ => rfl) with ⟨v, h1, _⟩ | ⟨_, h2⟩
 ·rw [o_e5 hf] at h1; cases h1
 ·refine h2.mono ?_
  rintro e w' ⟨v, m', rfl, rfl, hE⟩
  have hv := hE.rep
  rw [V.rep_d] at hv
  unfold D.rep at hv
  subst hv
  exact ⟨rfl, hE.le.os, hE.le.tape, hE.le.output, hE.le.size, fun k hk _ => hE.le.imm k hk⟩

theorem reps_of {I : Nat → Prop} {w : World} {α : Type} (f : α → D) (g : α → Value) (h : ∀ a, D.rep I w (f a) (g a)) : ∀ l : List α, D.reps I w (l.map f) (l.map g)
 | [] => by simp
 | a :: l => by
  rw [List.map_cons, List.map_cons, D.reps_cons]
  exact ⟨h a, reps_of f g h l⟩
end
end Go.Proofs.YtlelpbaeplcfiaaDoor.Am
namespace Go.Proofs.YtlelpbaeplcfiaaDoor.Am
section
open Go.RowKit
theorem o_e7 {W : World} {g0 : Nat} {zs : List Int} (ht : ∀ g l, tab g = some l → g = g0 ∧ l = zs.map fun z : Int => D.int .u64 z) (hlt : g0 < W.heap.size) (hc : ∀ (i : Nat) u, (zs.map (Value.int .u64))[i]? = some u → W.cell? ⟨g0, i, none⟩ = some u) : Tabs (memW W) := by
 intro g l hg
 obtain ⟨rfl, rfl⟩ := ht g l hg
 unfold D.rep
 refine ⟨g, 0, rfl, hlt, zs.map (Value.int .u64), fun u hu => ?_, reps_of (fun z : Int => D.int .u64 z) (Value.int .u64) (fun _ => by unfold D.rep; rfl) zs, fun i u hu => ?_⟩
 ·obtain ⟨z, -, rfl⟩ := List.mem_map.1 hu
  rfl
 ·rw [Nat.zero_add]; exact hc i u hu
end
end Go.Proofs.YtlelpbaeplcfiaaDoor.Am
namespace Go.Proofs.YtlelpbaeplcfiaaDoor.Am
section
open Go.RowKit

theorem tabsIn {W : World} {g0 : Nat} {zs : List Int} (ht : ∀ g l, tab g = some l → g = g0 ∧ l = zs.map fun z : Int => D.int .u64 z) (hlt : g0 < W.heap.size) (hc : ∀ (i : Nat) u, (zs.map (Value.int .u64))[i]? = some u → W.cell? ⟨g0, i, none⟩ = some u) : Tabs (memW W) := o_e7 ht hlt hc
theorem tabAll : ∀ g l, tab g = some l → g = 2 ∧ l = ([1, 10, 100, 1000, 10000, 100000, 1000000, 10000000, 100000000, 1000000000, 10000000000, 100000000000, 1000000000000, 10000000000000, 100000000000000, 1000000000000000, 10000000000000000, 100000000000000000, 1000000000000000000, 10000000000000000000] : List Int).map fun z : Int => D.int .u64 z := by
 intro g l h
 unfold tab at h
 split at h
 ·cases h
  exact ⟨‹_›, rfl⟩
 ·cases h
theorem yb_walk {W : World} (ht : Tabs (memW W)) {s k : Int} : Calls Tryd.prog o_51 #[.int .i64 s, .int .i64 k] W (fun e W' => e = .returned (.bool true) ∧ Same W W') :=
 o_e6 o_53 (o_e4 s k) (V.reps_cons.2 ⟨V.rep_int.2 rfl, V.reps_cons.2 ⟨V.rep_int.2 rfl, V.reps_nil.2 rfl⟩⟩) ht
end
end Go.Proofs.YtlelpbaeplcfiaaDoor.Am
