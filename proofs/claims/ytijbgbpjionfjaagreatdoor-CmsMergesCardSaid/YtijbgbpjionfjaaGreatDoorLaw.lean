/- Parts of the proof: CmsC, MrgM, AmLaw2, AmLaw3, CmsD, CmsE, AwkF, CmsMg, RepL, MgL. -/
import Derived.Test.YtijbgbpjionfjaaGreatDoorPf
set_option linter.unusedVariables false
set_option linter.unusedSimpArgs false
set_option maxRecDepth 100000
namespace Go.Proofs.YtijbgbpjionfjaaGreatDoor.Am
section
open Go.RowKit
/-- what a merge comes to -/
def mrgC (r : Rw) (Z : MR) (U : UR) : UR := if Z.e = 0 then ⟨U.e, ⟨r.a, r.b, Z.l⟩ :: U.rs, U.p, U.d⟩ else ⟨Z.e, [], Z.p, Z.d⟩
def mrgM (cs : List Bool) (C k a b : Nat) : List Rw → List Rw → Nat → Bool → UR
 | r :: rs, m :: ms, p, d => mrgC r (mergeUp cs k a b r.l m.l p d C) (mrgM cs C k a b rs ms (mergeUp cs k a b r.l m.l p d C).p (mergeUp cs k a b r.l m.l p d C).d)
 | _, _, p, d => ⟨0, [], p, d⟩

set_option maxHeartbeats 4000000 in
theorem o_v8 {C k a b T T2 : Nat} (hg : GoodR k a b) (g1 : 1 ≤ C) (g2 : C ≤ 64) (A0 B0 : Nat) (l0 n0 : List ST) (h0 : GoodRow C k a b ⟨A0, B0, l0⟩) (f0 : GoodRow C k a b ⟨A0, B0, n0⟩) (cs : List Bool) (p : Nat) (d : Bool) (hT : T + T2 ≤ 1099511627776) (hp : p ≤ cs.length) (hc : cs.length ≤ 4000000) (U : UR) (hU : U = mrgM cs C k a b [⟨A0, B0, l0⟩] [⟨A0, B0, n0⟩] p d) :
  Eqn Tryz.prog o_19 [.p 0 0, .p 1 0, .p 2 0] [skO 1 C k a b [⟨A0, B0, l0⟩] T, tapeO cs p d, skO 1 C k a b [⟨A0, B0, n0⟩] T2] (.d (.int .i64 U.e)) [if U.e = 0 then skO 1 C k a b U.rs (T + T2) else skO 1 C k a b [⟨A0, B0, l0⟩] T, tapeO cs U.p U.d, skO 1 C k a b [⟨A0, B0, n0⟩] T2] := by
 have hcl := o_j0 (T := T) hg g1 g2 ⟨A0, B0, l0⟩ h0
 have hal := o_23 (R := 1) (C := C) (k := k) (a := a) (b := b) (T := T) (V := T2) [⟨A0, B0, l0⟩] [⟨A0, B0, n0⟩] (by simp) (by simp) (by simp) (by simp)
 simp only [List.map_cons, List.map_nil, decide_true] at hal
 obtain ⟨-, -, e0, w0⟩ := h0
 obtain ⟨-, -, i0, y0⟩ := f0
 simp only at e0 w0 i0 y0
 obtain ⟨Z0, z0⟩ : ∃ Z, Z = mergeUp cs k a b l0 n0 p d C := ⟨_, rfl⟩
 obtain ⟨p0, v0, s0⟩ := o_8 (cs := cs) (d := d) hg w0 y0 hp C (by omega) (by omega)
 rw [← z0] at p0 v0 s0
 have x0 := o_r cs l0 n0 p d hg w0 y0 (by omega) (by omega) (by omega) hp hc Z0 (by rw [e0]; exact z0)
 have c0 := o_s cs l0 n0 p d hg w0 y0 (by omega) (by omega) (by omega) hp hc Z0 (by rw [e0]; exact z0)
 simp only [mrgM] at hU
 rw [← z0] at hU
 clear z0 p0 v0 w0 y0
 refine Eqn.gen [0, 1, 2] o_2d (by simp) (by simp) (by rfl) (by decide) (by simp) (by intro ob hob; simp at hob; rcases hob with rfl | rfl | rfl; (split <;> simp [skO, skD]); simp [tapeO]; simp [skO, skD]) ?_
 have q6 : IntKind.i64.wrap ((T : Int) + T2) = ((T + T2 : Nat) : Int) := by rw [w64 (by omega) (by omega)]; omega
 have q7 : ¬ (1099511627776 : Int) < (T : Int) + T2 := by omega
 have q8 : ¬ 1099511627776 < T + T2 := by omega
 have es : ∀ rs : List Rw, rs.length = 1 → (skO 1 C k a b rs (T + T2)) = ⟨106, [.d (.int .i64 (1 : Nat)), .d (.int .i64 C), .d (.int .i64 k), .d (.int .i64 a), .d (.int .i64 b), .d (.sl 1 (rowsD k a b rs)), .d (.int .i64 (T + T2 : Nat))]⟩ := by intro rs h; simp [skO, skD, h]
 have eo : skO 1 C k a b [⟨A0, B0, l0⟩] T = ⟨106, [.d (.int .i64 (1 : Nat)), .d (.int .i64 C), .d (.int .i64 k), .d (.int .i64 a), .d (.int .i64 b), .d (.sl 1 [.int .u64 A0, .int .u64 B0, .ptr (arrD k a b l0) 0]), .d (.int .i64 T)]⟩ := by simp [skO, skD, rowsD, rowD]
 have en : skO 1 C k a b [⟨A0, B0, n0⟩] T2 = ⟨106, [.d (.int .i64 (1 : Nat)), .d (.int .i64 C), .d (.int .i64 k), .d (.int .i64 a), .d (.int .i64 b), .d (.sl 1 [.int .u64 A0, .int .u64 B0, .ptr (arrD k a b n0) 0]), .d (.int .i64 T2)]⟩ := by simp [skO, skD, rowsD, rowD]
 rw [eo] at hcl
 rw [eo, en] at hal ⊢
 have D0 : Z0.l.length = C → arrD k a b Z0.l = [.ptr [.sl (nwP C (wdR k a b)) ((wordsP (wdR k a b) (encs k a b Z0.l)).map fun x : Nat => D.int .u64 x), .int .i64 C, .int .i64 (wdR k a b)] 0, .int .i64 k, .int .i64 a, .int .i64 b] := by intro h; simp [arrD, vecD, h]
 have L0 : Z0.l.length = C → ((wordsP (wdR k a b) (encs k a b Z0.l)).map fun x : Nat => D.int .u64 x).length = nwP C (wdR k a b) := by intro h; simp [h]
 have u0 : u64s (wordsP (wdR k a b) (encs k a b Z0.l)) = ((wordsP (wdR k a b) (encs k a b Z0.l)).map fun x : Nat => D.int .u64 x).map V.d := by simp [u64s]
 simp only [o_1q, arrO, arrV, arrB, vecO, vecB, e0] at hcl x0 c0 ⊢
 generalize arrD k a b l0 = AD0 at *
 generalize arrD k a b n0 = BD0 at *
 obtain ⟨E0, Y0, P0, G0⟩ := Z0
 simp only at x0 c0 s0 hU D0 L0 u0
 refine A00 ?_; try with_reducible exact tt
 refine CallS.g [0, 2] (hal) (R1 (fs q6 (fs q7 q8)) ?_); try with_reducible exact tt
 refine A10 (fs q6 (fs q7 q8)) ?_; try with_reducible exact tt
 refine CallS.g [0] (hcl) (R0 ?_); try with_reducible exact tt
 refine AW.rounds 2 ?_
 refine A00 ?_; try with_reducible exact tt
 by_cases E00 : E0 = 0
 ·replace s0 := s0 E00
  replace x0 := x0 E00
  simp only [E00, s0, u0] at x0
  replace D0 := D0 s0
  replace L0 := L0 s0
  generalize ((wordsP (wdR k a b) (encs k a b Y0)).map fun x : Nat => D.int .u64 x) = WD0 at *
  refine CallS.g [5, 6, 7, 1] (x0) (R0 ?_); try with_reducible exact tt
  simp only [mrgC, if_true, E00] at hU
  subst hU
  simp only [if_true]
  rw [es _ rfl]
  simp only [rowsD, rowD, List.flatMap_cons, List.flatMap_nil, List.append_nil, List.cons_append, List.nil_append, D0]
  generalize nwP C (wdR k a b) = NW at *
  have t0 : WD0.take NW = WD0 := List.take_of_length_le (by omega)
  generalize wdR k a b = w at *
  refine AW.freeze 10 1 ⟨28, WD0.map V.d⟩ WD0 (by simp) rfl ?_
  simp [frzH, t0]
  refine AW.freeze 9 1 ⟨218, [.d (.sl NW WD0), .d (.int .i64 C), .d (.int .i64 w)]⟩ [.sl NW WD0, .int .i64 C, .int .i64 w] (by rfl) rfl ?_
  simp [frzH]
  refine AW.freeze 5 1 ⟨166, [.d (.ptr [.sl NW WD0, .int .i64 C, .int .i64 w] 0), .d (.int .i64 k), .d (.int .i64 a), .d (.int .i64 b)]⟩ [.ptr [.sl NW WD0, .int .i64 C, .int .i64 w] 0, .int .i64 k, .int .i64 a, .int .i64 b] (by rfl) rfl ?_
  simp [frzH]
  refine AW.freeze 4 3 ⟨111, [.int .u64 A0, .int .u64 B0, .ptr [.ptr [.sl NW WD0, .int .i64 C, .int .i64 w] 0, .int .i64 k, .int .i64 a, .int .i64 b] 0].map V.d⟩ [.int .u64 A0, .int .u64 B0, .ptr [.ptr [.sl NW WD0, .int .i64 C, .int .i64 w] 0, .int .i64 k, .int .i64 a, .int .i64 b] 0] (by rfl) rfl ?_
  simp [frzH]
  refine A10 q6 ?_; try with_reducible exact tt
 ·replace c0 := c0 E00
  simp only [mrgC, if_true, if_neg E00] at hU
  refine CallS.g [5, 6, 7, 1] (c0) (R1 E00 ?_); try with_reducible exact tt
  subst hU
  simp only [if_neg E00]
  refine A10 E00 ?_; try with_reducible exact tt


set_option maxHeartbeats 4000000 in
theorem o_v9 {C k a b T T2 : Nat} (hg : GoodR k a b) (g1 : 1 ≤ C) (g2 : C ≤ 64) (A0 B0 A1 B1 : Nat) (l0 n0 l1 n1 : List ST) (h0 : GoodRow C k a b ⟨A0, B0, l0⟩) (f0 : GoodRow C k a b ⟨A0, B0, n0⟩) (h1 : GoodRow C k a b ⟨A1, B1, l1⟩) (f1 : GoodRow C k a b ⟨A1, B1, n1⟩) (cs : List Bool) (p : Nat) (d : Bool) (hT : T + T2 ≤ 1099511627776) (hp : p ≤ cs.length) (hc : cs.length ≤ 4000000) (U : UR) (hU : U = mrgM cs C k a b [⟨A0, B0, l0⟩, ⟨A1, B1, l1⟩] [⟨A0, B0, n0⟩, ⟨A1, B1, n1⟩] p d) :
  Eqn Tryz.prog o_19 [.p 0 0, .p 1 0, .p 2 0] [skO 2 C k a b [⟨A0, B0, l0⟩, ⟨A1, B1, l1⟩] T, tapeO cs p d, skO 2 C k a b [⟨A0, B0, n0⟩, ⟨A1, B1, n1⟩] T2] (.d (.int .i64 U.e)) [if U.e = 0 then skO 2 C k a b U.rs (T + T2) else skO 2 C k a b [⟨A0, B0, l0⟩, ⟨A1, B1, l1⟩] T, tapeO cs U.p U.d, skO 2 C k a b [⟨A0, B0, n0⟩, ⟨A1, B1, n1⟩] T2] := by
 have hcl := o_j4 (T := T) hg g1 g2 A0 B0 A1 B1 l0 l1 h0 h1
 have hal := o_23 (R := 2) (C := C) (k := k) (a := a) (b := b) (T := T) (V := T2) [⟨A0, B0, l0⟩, ⟨A1, B1, l1⟩] [⟨A0, B0, n0⟩, ⟨A1, B1, n1⟩] (by simp) (by simp) (by simp) (by simp)
 simp only [List.map_cons, List.map_nil, decide_true] at hal
 obtain ⟨-, -, e0, w0⟩ := h0
 obtain ⟨-, -, i0, y0⟩ := f0
 simp only at e0 w0 i0 y0
 obtain ⟨Z0, z0⟩ : ∃ Z, Z = mergeUp cs k a b l0 n0 p d C := ⟨_, rfl⟩
 obtain ⟨p0, v0, s0⟩ := o_8 (cs := cs) (d := d) hg w0 y0 hp C (by omega) (by omega)
 rw [← z0] at p0 v0 s0
 have x0 := o_r cs l0 n0 p d hg w0 y0 (by omega) (by omega) (by omega) hp hc Z0 (by rw [e0]; exact z0)
 have c0 := o_s cs l0 n0 p d hg w0 y0 (by omega) (by omega) (by omega) hp hc Z0 (by rw [e0]; exact z0)
 obtain ⟨-, -, e1, w1⟩ := h1
 obtain ⟨-, -, i1, y1⟩ := f1
 simp only at e1 w1 i1 y1
 obtain ⟨Z1, z1⟩ : ∃ Z, Z = mergeUp cs k a b l1 n1 Z0.p Z0.d C := ⟨_, rfl⟩
 obtain ⟨p1, v1, s1⟩ := o_8 (cs := cs) (d := Z0.d) hg w1 y1 p0 C (by omega) (by omega)
 rw [← z1] at p1 v1 s1
 have x1 := o_r cs l1 n1 Z0.p Z0.d hg w1 y1 (by omega) (by omega) (by omega) p0 hc Z1 (by rw [e1]; exact z1)
 have c1 := o_s cs l1 n1 Z0.p Z0.d hg w1 y1 (by omega) (by omega) (by omega) p0 hc Z1 (by rw [e1]; exact z1)
 simp only [mrgM] at hU
 rw [← z0] at hU
 rw [← z1] at hU
 clear z0 p0 v0 w0 y0 z1 p1 v1 w1 y1
 refine Eqn.gen [0, 1, 2] o_2d (by simp) (by simp) (by rfl) (by decide) (by simp) (by intro ob hob; simp at hob; rcases hob with rfl | rfl | rfl; (split <;> simp [skO, skD]); simp [tapeO]; simp [skO, skD]) ?_
 have q6 : IntKind.i64.wrap ((T : Int) + T2) = ((T + T2 : Nat) : Int) := by rw [w64 (by omega) (by omega)]; omega
 have q7 : ¬ (1099511627776 : Int) < (T : Int) + T2 := by omega
 have q8 : ¬ 1099511627776 < T + T2 := by omega
 have es : ∀ rs : List Rw, rs.length = 2 → (skO 2 C k a b rs (T + T2)) = ⟨106, [.d (.int .i64 (2 : Nat)), .d (.int .i64 C), .d (.int .i64 k), .d (.int .i64 a), .d (.int .i64 b), .d (.sl 2 (rowsD k a b rs)), .d (.int .i64 (T + T2 : Nat))]⟩ := by intro rs h; simp [skO, skD, h]
 have eo : skO 2 C k a b [⟨A0, B0, l0⟩, ⟨A1, B1, l1⟩] T = ⟨106, [.d (.int .i64 (2 : Nat)), .d (.int .i64 C), .d (.int .i64 k), .d (.int .i64 a), .d (.int .i64 b), .d (.sl 2 [.int .u64 A0, .int .u64 B0, .ptr (arrD k a b l0) 0, .int .u64 A1, .int .u64 B1, .ptr (arrD k a b l1) 0]), .d (.int .i64 T)]⟩ := by simp [skO, skD, rowsD, rowD]
 have en : skO 2 C k a b [⟨A0, B0, n0⟩, ⟨A1, B1, n1⟩] T2 = ⟨106, [.d (.int .i64 (2 : Nat)), .d (.int .i64 C), .d (.int .i64 k), .d (.int .i64 a), .d (.int .i64 b), .d (.sl 2 [.int .u64 A0, .int .u64 B0, .ptr (arrD k a b n0) 0, .int .u64 A1, .int .u64 B1, .ptr (arrD k a b n1) 0]), .d (.int .i64 T2)]⟩ := by simp [skO, skD, rowsD, rowD]
 rw [eo] at hcl
 rw [eo, en] at hal ⊢
 have D0 : Z0.l.length = C → arrD k a b Z0.l = [.ptr [.sl (nwP C (wdR k a b)) ((wordsP (wdR k a b) (encs k a b Z0.l)).map fun x : Nat => D.int .u64 x), .int .i64 C, .int .i64 (wdR k a b)] 0, .int .i64 k, .int .i64 a, .int .i64 b] := by intro h; simp [arrD, vecD, h]
 have L0 : Z0.l.length = C → ((wordsP (wdR k a b) (encs k a b Z0.l)).map fun x : Nat => D.int .u64 x).length = nwP C (wdR k a b) := by intro h; simp [h]
 have u0 : u64s (wordsP (wdR k a b) (encs k a b Z0.l)) = ((wordsP (wdR k a b) (encs k a b Z0.l)).map fun x : Nat => D.int .u64 x).map V.d := by simp [u64s]
 have D1 : Z1.l.length = C → arrD k a b Z1.l = [.ptr [.sl (nwP C (wdR k a b)) ((wordsP (wdR k a b) (encs k a b Z1.l)).map fun x : Nat => D.int .u64 x), .int .i64 C, .int .i64 (wdR k a b)] 0, .int .i64 k, .int .i64 a, .int .i64 b] := by intro h; simp [arrD, vecD, h]
 have L1 : Z1.l.length = C → ((wordsP (wdR k a b) (encs k a b Z1.l)).map fun x : Nat => D.int .u64 x).length = nwP C (wdR k a b) := by intro h; simp [h]
 have u1 : u64s (wordsP (wdR k a b) (encs k a b Z1.l)) = ((wordsP (wdR k a b) (encs k a b Z1.l)).map fun x : Nat => D.int .u64 x).map V.d := by simp [u64s]
 simp only [o_1q, arrO, arrV, arrB, vecO, vecB, e0, e1] at hcl x0 x1 c0 c1 ⊢
 generalize arrD k a b l0 = AD0 at *
 generalize arrD k a b n0 = BD0 at *
 obtain ⟨E0, Y0, P0, G0⟩ := Z0
 simp only at x0 c0 s0 hU D0 L0 u0
 generalize arrD k a b l1 = AD1 at *
 generalize arrD k a b n1 = BD1 at *
 obtain ⟨E1, Y1, P1, G1⟩ := Z1
 simp only at x1 c1 s1 hU D1 L1 u1
 refine A00 ?_; try with_reducible exact tt
 refine CallS.g [0, 2] (hal) (R1 (fs q6 (fs q7 q8)) ?_); try with_reducible exact tt
 refine A10 (fs q6 (fs q7 q8)) ?_; try with_reducible exact tt
 refine CallS.g [0] (hcl) (R0 ?_); try with_reducible exact tt
 refine AW.rounds 3 ?_
 refine A00 ?_; try with_reducible exact tt
 by_cases E00 : E0 = 0
 ·replace s0 := s0 E00
  replace x0 := x0 E00
  simp only [E00, s0, u0] at x0
  replace D0 := D0 s0
  replace L0 := L0 s0
  generalize ((wordsP (wdR k a b) (encs k a b Y0)).map fun x : Nat => D.int .u64 x) = WD0 at *
  refine CallS.g [5, 6, 7, 1] (x0) (R0 ?_); try with_reducible exact tt
  refine A00 ?_; try with_reducible exact tt
  by_cases E10 : E1 = 0
  ·replace s1 := s1 E10
   replace x1 := x1 E10
   simp only [E10, s1, u1] at x1
   replace D1 := D1 s1
   replace L1 := L1 s1
   generalize ((wordsP (wdR k a b) (encs k a b Y1)).map fun x : Nat => D.int .u64 x) = WD1 at *
   refine CallS.g [8, 9, 10, 1] (x1) (R0 ?_); try with_reducible exact tt
   simp only [mrgC, if_true, E00, E10] at hU
   subst hU
   simp only [if_true]
   rw [es _ rfl]
   simp only [rowsD, rowD, List.flatMap_cons, List.flatMap_nil, List.append_nil, List.cons_append, List.nil_append, D0, D1]
   generalize nwP C (wdR k a b) = NW at *
   have t0 : WD0.take NW = WD0 := List.take_of_length_le (by omega)
   have t1 : WD1.take NW = WD1 := List.take_of_length_le (by omega)
   generalize wdR k a b = w at *
   refine AW.freeze 13 1 ⟨28, WD0.map V.d⟩ WD0 (by simp) rfl ?_
   simp [frzH, t0]
   refine AW.freeze 12 1 ⟨218, [.d (.sl NW WD0), .d (.int .i64 C), .d (.int .i64 w)]⟩ [.sl NW WD0, .int .i64 C, .int .i64 w] (by rfl) rfl ?_
   simp [frzH]
   refine AW.freeze 5 1 ⟨166, [.d (.ptr [.sl NW WD0, .int .i64 C, .int .i64 w] 0), .d (.int .i64 k), .d (.int .i64 a), .d (.int .i64 b)]⟩ [.ptr [.sl NW WD0, .int .i64 C, .int .i64 w] 0, .int .i64 k, .int .i64 a, .int .i64 b] (by rfl) rfl ?_
   simp [frzH]
   refine AW.freeze 16 1 ⟨28, WD1.map V.d⟩ WD1 (by simp) rfl ?_
   simp [frzH, t1]
   refine AW.freeze 15 1 ⟨218, [.d (.sl NW WD1), .d (.int .i64 C), .d (.int .i64 w)]⟩ [.sl NW WD1, .int .i64 C, .int .i64 w] (by rfl) rfl ?_
   simp [frzH]
   refine AW.freeze 8 1 ⟨166, [.d (.ptr [.sl NW WD1, .int .i64 C, .int .i64 w] 0), .d (.int .i64 k), .d (.int .i64 a), .d (.int .i64 b)]⟩ [.ptr [.sl NW WD1, .int .i64 C, .int .i64 w] 0, .int .i64 k, .int .i64 a, .int .i64 b] (by rfl) rfl ?_
   simp [frzH]
   refine AW.freeze 4 3 ⟨111, [.int .u64 A0, .int .u64 B0, .ptr [.ptr [.sl NW WD0, .int .i64 C, .int .i64 w] 0, .int .i64 k, .int .i64 a, .int .i64 b] 0, .int .u64 A1, .int .u64 B1, .ptr [.ptr [.sl NW WD1, .int .i64 C, .int .i64 w] 0, .int .i64 k, .int .i64 a, .int .i64 b] 0].map V.d⟩ [.int .u64 A0, .int .u64 B0, .ptr [.ptr [.sl NW WD0, .int .i64 C, .int .i64 w] 0, .int .i64 k, .int .i64 a, .int .i64 b] 0, .int .u64 A1, .int .u64 B1, .ptr [.ptr [.sl NW WD1, .int .i64 C, .int .i64 w] 0, .int .i64 k, .int .i64 a, .int .i64 b] 0] (by rfl) rfl ?_
   simp [frzH]
   refine A10 q6 ?_; try with_reducible exact tt
  ·replace c1 := c1 E10
   simp only [mrgC, if_true, if_neg E10, E00] at hU
   refine CallS.g [8, 9, 10, 1] (c1) (R1 E10 ?_); try with_reducible exact tt
   subst hU
   simp only [if_neg E10]
   refine A10 E10 ?_; try with_reducible exact tt
 ·replace c0 := c0 E00
  simp only [mrgC, if_true, if_neg E00] at hU
  refine CallS.g [5, 6, 7, 1] (c0) (R1 E00 ?_); try with_reducible exact tt
  subst hU
  simp only [if_neg E00]
  refine A10 E00 ?_; try with_reducible exact tt


set_option maxHeartbeats 4000000 in
theorem o_va {C k a b T T2 : Nat} (hg : GoodR k a b) (g1 : 1 ≤ C) (g2 : C ≤ 64) (A0 B0 A1 B1 A2 B2 : Nat) (l0 n0 l1 n1 l2 n2 : List ST) (h0 : GoodRow C k a b ⟨A0, B0, l0⟩) (f0 : GoodRow C k a b ⟨A0, B0, n0⟩) (h1 : GoodRow C k a b ⟨A1, B1, l1⟩) (f1 : GoodRow C k a b ⟨A1, B1, n1⟩) (h2 : GoodRow C k a b ⟨A2, B2, l2⟩) (f2 : GoodRow C k a b ⟨A2, B2, n2⟩) (cs : List Bool) (p : Nat) (d : Bool) (hT : T + T2 ≤ 1099511627776) (hp : p ≤ cs.length) (hc : cs.length ≤ 4000000) (U : UR) (hU : U = mrgM cs C k a b [⟨A0, B0, l0⟩, ⟨A1, B1, l1⟩, ⟨A2, B2, l2⟩] [⟨A0, B0, n0⟩, ⟨A1, B1, n1⟩, ⟨A2, B2, n2⟩] p d) :
  Eqn Tryz.prog o_19 [.p 0 0, .p 1 0, .p 2 0] [skO 3 C k a b [⟨A0, B0, l0⟩, ⟨A1, B1, l1⟩, ⟨A2, B2, l2⟩] T, tapeO cs p d, skO 3 C k a b [⟨A0, B0, n0⟩, ⟨A1, B1, n1⟩, ⟨A2, B2, n2⟩] T2] (.d (.int .i64 U.e)) [if U.e = 0 then skO 3 C k a b U.rs (T + T2) else skO 3 C k a b [⟨A0, B0, l0⟩, ⟨A1, B1, l1⟩, ⟨A2, B2, l2⟩] T, tapeO cs U.p U.d, skO 3 C k a b [⟨A0, B0, n0⟩, ⟨A1, B1, n1⟩, ⟨A2, B2, n2⟩] T2] := by
 have hcl := o_j5 (T := T) hg g1 g2 A0 B0 A1 B1 A2 B2 l0 l1 l2 h0 h1 h2
 have hal := o_23 (R := 3) (C := C) (k := k) (a := a) (b := b) (T := T) (V := T2) [⟨A0, B0, l0⟩, ⟨A1, B1, l1⟩, ⟨A2, B2, l2⟩] [⟨A0, B0, n0⟩, ⟨A1, B1, n1⟩, ⟨A2, B2, n2⟩] (by simp) (by simp) (by simp) (by simp)
 simp only [List.map_cons, List.map_nil, decide_true] at hal
 obtain ⟨-, -, e0, w0⟩ := h0
 obtain ⟨-, -, i0, y0⟩ := f0
 simp only at e0 w0 i0 y0
 obtain ⟨Z0, z0⟩ : ∃ Z, Z = mergeUp cs k a b l0 n0 p d C := ⟨_, rfl⟩
 obtain ⟨p0, v0, s0⟩ := o_8 (cs := cs) (d := d) hg w0 y0 hp C (by omega) (by omega)
 rw [← z0] at p0 v0 s0
 have x0 := o_r cs l0 n0 p d hg w0 y0 (by omega) (by omega) (by omega) hp hc Z0 (by rw [e0]; exact z0)
 have c0 := o_s cs l0 n0 p d hg w0 y0 (by omega) (by omega) (by omega) hp hc Z0 (by rw [e0]; exact z0)
 obtain ⟨-, -, e1, w1⟩ := h1
 obtain ⟨-, -, i1, y1⟩ := f1
 simp only at e1 w1 i1 y1
 obtain ⟨Z1, z1⟩ : ∃ Z, Z = mergeUp cs k a b l1 n1 Z0.p Z0.d C := ⟨_, rfl⟩
 obtain ⟨p1, v1, s1⟩ := o_8 (cs := cs) (d := Z0.d) hg w1 y1 p0 C (by omega) (by omega)
 rw [← z1] at p1 v1 s1
 have x1 := o_r cs l1 n1 Z0.p Z0.d hg w1 y1 (by omega) (by omega) (by omega) p0 hc Z1 (by rw [e1]; exact z1)
 have c1 := o_s cs l1 n1 Z0.p Z0.d hg w1 y1 (by omega) (by omega) (by omega) p0 hc Z1 (by rw [e1]; exact z1)
 obtain ⟨-, -, e2, w2⟩ := h2
 obtain ⟨-, -, i2, y2⟩ := f2
 simp only at e2 w2 i2 y2
 obtain ⟨Z2, z2⟩ : ∃ Z, Z = mergeUp cs k a b l2 n2 Z1.p Z1.d C := ⟨_, rfl⟩
 obtain ⟨p2, v2, s2⟩ := o_8 (cs := cs) (d := Z1.d) hg w2 y2 p1 C (by omega) (by omega)
 rw [← z2] at p2 v2 s2
 have x2 := o_r cs l2 n2 Z1.p Z1.d hg w2 y2 (by omega) (by omega) (by omega) p1 hc Z2 (by rw [e2]; exact z2)
 have c2 := o_s cs l2 n2 Z1.p Z1.d hg w2 y2 (by omega) (by omega) (by omega) p1 hc Z2 (by rw [e2]; exact z2)
 simp only [mrgM] at hU
 rw [← z0] at hU
 rw [← z1] at hU
 rw [← z2] at hU
 clear z0 p0 v0 w0 y0 z1 p1 v1 w1 y1 z2 p2 v2 w2 y2
 refine Eqn.gen [0, 1, 2] o_2d (by simp) (by simp) (by rfl) (by decide) (by simp) (by intro ob hob; simp at hob; rcases hob with rfl | rfl | rfl; (split <;> simp [skO, skD]); simp [tapeO]; simp [skO, skD]) ?_
 have q6 : IntKind.i64.wrap ((T : Int) + T2) = ((T + T2 : Nat) : Int) := by rw [w64 (by omega) (by omega)]; omega
 have q7 : ¬ (1099511627776 : Int) < (T : Int) + T2 := by omega
 have q8 : ¬ 1099511627776 < T + T2 := by omega
 have es : ∀ rs : List Rw, rs.length = 3 → (skO 3 C k a b rs (T + T2)) = ⟨106, [.d (.int .i64 (3 : Nat)), .d (.int .i64 C), .d (.int .i64 k), .d (.int .i64 a), .d (.int .i64 b), .d (.sl 3 (rowsD k a b rs)), .d (.int .i64 (T + T2 : Nat))]⟩ := by intro rs h; simp [skO, skD, h]
 have eo : skO 3 C k a b [⟨A0, B0, l0⟩, ⟨A1, B1, l1⟩, ⟨A2, B2, l2⟩] T = ⟨106, [.d (.int .i64 (3 : Nat)), .d (.int .i64 C), .d (.int .i64 k), .d (.int .i64 a), .d (.int .i64 b), .d (.sl 3 [.int .u64 A0, .int .u64 B0, .ptr (arrD k a b l0) 0, .int .u64 A1, .int .u64 B1, .ptr (arrD k a b l1) 0, .int .u64 A2, .int .u64 B2, .ptr (arrD k a b l2) 0]), .d (.int .i64 T)]⟩ := by simp [skO, skD, rowsD, rowD]
 have en : skO 3 C k a b [⟨A0, B0, n0⟩, ⟨A1, B1, n1⟩, ⟨A2, B2, n2⟩] T2 = ⟨106, [.d (.int .i64 (3 : Nat)), .d (.int .i64 C), .d (.int .i64 k), .d (.int .i64 a), .d (.int .i64 b), .d (.sl 3 [.int .u64 A0, .int .u64 B0, .ptr (arrD k a b n0) 0, .int .u64 A1, .int .u64 B1, .ptr (arrD k a b n1) 0, .int .u64 A2, .int .u64 B2, .ptr (arrD k a b n2) 0]), .d (.int .i64 T2)]⟩ := by simp [skO, skD, rowsD, rowD]
 rw [eo] at hcl
 rw [eo, en] at hal ⊢
 have D0 : Z0.l.length = C → arrD k a b Z0.l = [.ptr [.sl (nwP C (wdR k a b)) ((wordsP (wdR k a b) (encs k a b Z0.l)).map fun x : Nat => D.int .u64 x), .int .i64 C, .int .i64 (wdR k a b)] 0, .int .i64 k, .int .i64 a, .int .i64 b] := by intro h; simp [arrD, vecD, h]
 have L0 : Z0.l.length = C → ((wordsP (wdR k a b) (encs k a b Z0.l)).map fun x : Nat => D.int .u64 x).length = nwP C (wdR k a b) := by intro h; simp [h]
 have u0 : u64s (wordsP (wdR k a b) (encs k a b Z0.l)) = ((wordsP (wdR k a b) (encs k a b Z0.l)).map fun x : Nat => D.int .u64 x).map V.d := by simp [u64s]
 have D1 : Z1.l.length = C → arrD k a b Z1.l = [.ptr [.sl (nwP C (wdR k a b)) ((wordsP (wdR k a b) (encs k a b Z1.l)).map fun x : Nat => D.int .u64 x), .int .i64 C, .int .i64 (wdR k a b)] 0, .int .i64 k, .int .i64 a, .int .i64 b] := by intro h; simp [arrD, vecD, h]
 have L1 : Z1.l.length = C → ((wordsP (wdR k a b) (encs k a b Z1.l)).map fun x : Nat => D.int .u64 x).length = nwP C (wdR k a b) := by intro h; simp [h]
 have u1 : u64s (wordsP (wdR k a b) (encs k a b Z1.l)) = ((wordsP (wdR k a b) (encs k a b Z1.l)).map fun x : Nat => D.int .u64 x).map V.d := by simp [u64s]
 have D2 : Z2.l.length = C → arrD k a b Z2.l = [.ptr [.sl (nwP C (wdR k a b)) ((wordsP (wdR k a b) (encs k a b Z2.l)).map fun x : Nat => D.int .u64 x), .int .i64 C, .int .i64 (wdR k a b)] 0, .int .i64 k, .int .i64 a, .int .i64 b] := by intro h; simp [arrD, vecD, h]
 have L2 : Z2.l.length = C → ((wordsP (wdR k a b) (encs k a b Z2.l)).map fun x : Nat => D.int .u64 x).length = nwP C (wdR k a b) := by intro h; simp [h]
 have u2 : u64s (wordsP (wdR k a b) (encs k a b Z2.l)) = ((wordsP (wdR k a b) (encs k a b Z2.l)).map fun x : Nat => D.int .u64 x).map V.d := by simp [u64s]
 simp only [o_1q, arrO, arrV, arrB, vecO, vecB, e0, e1, e2] at hcl x0 x1 x2 c0 c1 c2 ⊢
 generalize arrD k a b l0 = AD0 at *
 generalize arrD k a b n0 = BD0 at *
 obtain ⟨E0, Y0, P0, G0⟩ := Z0
 simp only at x0 c0 s0 hU D0 L0 u0
 generalize arrD k a b l1 = AD1 at *
 generalize arrD k a b n1 = BD1 at *
 obtain ⟨E1, Y1, P1, G1⟩ := Z1
 simp only at x1 c1 s1 hU D1 L1 u1
 generalize arrD k a b l2 = AD2 at *
 generalize arrD k a b n2 = BD2 at *
 obtain ⟨E2, Y2, P2, G2⟩ := Z2
 simp only at x2 c2 s2 hU D2 L2 u2
 refine A00 ?_; try with_reducible exact tt
 refine CallS.g [0, 2] (hal) (R1 (fs q6 (fs q7 q8)) ?_); try with_reducible exact tt
 refine A10 (fs q6 (fs q7 q8)) ?_; try with_reducible exact tt
 refine CallS.g [0] (hcl) (R0 ?_); try with_reducible exact tt
 refine AW.rounds 4 ?_
 refine A00 ?_; try with_reducible exact tt
 by_cases E00 : E0 = 0
 ·replace s0 := s0 E00
  replace x0 := x0 E00
  simp only [E00, s0, u0] at x0
  replace D0 := D0 s0
  replace L0 := L0 s0
  generalize ((wordsP (wdR k a b) (encs k a b Y0)).map fun x : Nat => D.int .u64 x) = WD0 at *
  refine CallS.g [5, 6, 7, 1] (x0) (R0 ?_); try with_reducible exact tt
  refine A00 ?_; try with_reducible exact tt
  by_cases E10 : E1 = 0
  ·replace s1 := s1 E10
   replace x1 := x1 E10
   simp only [E10, s1, u1] at x1
   replace D1 := D1 s1
   replace L1 := L1 s1
   generalize ((wordsP (wdR k a b) (encs k a b Y1)).map fun x : Nat => D.int .u64 x) = WD1 at *
   refine CallS.g [8, 9, 10, 1] (x1) (R0 ?_); try with_reducible exact tt
   refine A00 ?_; try with_reducible exact tt
   by_cases E20 : E2 = 0
   ·replace s2 := s2 E20
    replace x2 := x2 E20
    simp only [E20, s2, u2] at x2
    replace D2 := D2 s2
    replace L2 := L2 s2
    generalize ((wordsP (wdR k a b) (encs k a b Y2)).map fun x : Nat => D.int .u64 x) = WD2 at *
    refine CallS.g [11, 12, 13, 1] (x2) (R0 ?_); try with_reducible exact tt
    simp only [mrgC, if_true, E00, E10, E20] at hU
    subst hU
    simp only [if_true]
    rw [es _ rfl]
    simp only [rowsD, rowD, List.flatMap_cons, List.flatMap_nil, List.append_nil, List.cons_append, List.nil_append, D0, D1, D2]
    generalize nwP C (wdR k a b) = NW at *
    have t0 : WD0.take NW = WD0 := List.take_of_length_le (by omega)
    have t1 : WD1.take NW = WD1 := List.take_of_length_le (by omega)
    have t2 : WD2.take NW = WD2 := List.take_of_length_le (by omega)
    generalize wdR k a b = w at *
    refine AW.freeze 16 1 ⟨28, WD0.map V.d⟩ WD0 (by simp) rfl ?_
    simp [frzH, t0]
    refine AW.freeze 15 1 ⟨218, [.d (.sl NW WD0), .d (.int .i64 C), .d (.int .i64 w)]⟩ [.sl NW WD0, .int .i64 C, .int .i64 w] (by rfl) rfl ?_
    simp [frzH]
    refine AW.freeze 5 1 ⟨166, [.d (.ptr [.sl NW WD0, .int .i64 C, .int .i64 w] 0), .d (.int .i64 k), .d (.int .i64 a), .d (.int .i64 b)]⟩ [.ptr [.sl NW WD0, .int .i64 C, .int .i64 w] 0, .int .i64 k, .int .i64 a, .int .i64 b] (by rfl) rfl ?_
    simp [frzH]
    refine AW.freeze 19 1 ⟨28, WD1.map V.d⟩ WD1 (by simp) rfl ?_
    simp [frzH, t1]
    refine AW.freeze 18 1 ⟨218, [.d (.sl NW WD1), .d (.int .i64 C), .d (.int .i64 w)]⟩ [.sl NW WD1, .int .i64 C, .int .i64 w] (by rfl) rfl ?_
    simp [frzH]
    refine AW.freeze 8 1 ⟨166, [.d (.ptr [.sl NW WD1, .int .i64 C, .int .i64 w] 0), .d (.int .i64 k), .d (.int .i64 a), .d (.int .i64 b)]⟩ [.ptr [.sl NW WD1, .int .i64 C, .int .i64 w] 0, .int .i64 k, .int .i64 a, .int .i64 b] (by rfl) rfl ?_
    simp [frzH]
    refine AW.freeze 22 1 ⟨28, WD2.map V.d⟩ WD2 (by simp) rfl ?_
    simp [frzH, t2]
    refine AW.freeze 21 1 ⟨218, [.d (.sl NW WD2), .d (.int .i64 C), .d (.int .i64 w)]⟩ [.sl NW WD2, .int .i64 C, .int .i64 w] (by rfl) rfl ?_
    simp [frzH]
    refine AW.freeze 11 1 ⟨166, [.d (.ptr [.sl NW WD2, .int .i64 C, .int .i64 w] 0), .d (.int .i64 k), .d (.int .i64 a), .d (.int .i64 b)]⟩ [.ptr [.sl NW WD2, .int .i64 C, .int .i64 w] 0, .int .i64 k, .int .i64 a, .int .i64 b] (by rfl) rfl ?_
    simp [frzH]
    refine AW.freeze 4 3 ⟨111, [.int .u64 A0, .int .u64 B0, .ptr [.ptr [.sl NW WD0, .int .i64 C, .int .i64 w] 0, .int .i64 k, .int .i64 a, .int .i64 b] 0, .int .u64 A1, .int .u64 B1, .ptr [.ptr [.sl NW WD1, .int .i64 C, .int .i64 w] 0, .int .i64 k, .int .i64 a, .int .i64 b] 0, .int .u64 A2, .int .u64 B2, .ptr [.ptr [.sl NW WD2, .int .i64 C, .int .i64 w] 0, .int .i64 k, .int .i64 a, .int .i64 b] 0].map V.d⟩ [.int .u64 A0, .int .u64 B0, .ptr [.ptr [.sl NW WD0, .int .i64 C, .int .i64 w] 0, .int .i64 k, .int .i64 a, .int .i64 b] 0, .int .u64 A1, .int .u64 B1, .ptr [.ptr [.sl NW WD1, .int .i64 C, .int .i64 w] 0, .int .i64 k, .int .i64 a, .int .i64 b] 0, .int .u64 A2, .int .u64 B2, .ptr [.ptr [.sl NW WD2, .int .i64 C, .int .i64 w] 0, .int .i64 k, .int .i64 a, .int .i64 b] 0] (by rfl) rfl ?_
    simp [frzH]
    refine A10 q6 ?_; try with_reducible exact tt
   ·replace c2 := c2 E20
    simp only [mrgC, if_true, if_neg E20, E00, E10] at hU
    refine CallS.g [11, 12, 13, 1] (c2) (R1 E20 ?_); try with_reducible exact tt
    subst hU
    simp only [if_neg E20]
    refine A10 E20 ?_; try with_reducible exact tt
  ·replace c1 := c1 E10
   simp only [mrgC, if_true, if_neg E10, E00] at hU
   refine CallS.g [8, 9, 10, 1] (c1) (R1 E10 ?_); try with_reducible exact tt
   subst hU
   simp only [if_neg E10]
   refine A10 E10 ?_; try with_reducible exact tt
 ·replace c0 := c0 E00
  simp only [mrgC, if_true, if_neg E00] at hU
  refine CallS.g [5, 6, 7, 1] (c0) (R1 E00 ?_); try with_reducible exact tt
  subst hU
  simp only [if_neg E00]
  refine A10 E00 ?_; try with_reducible exact tt


set_option maxHeartbeats 4000000 in
theorem o_vb {C k a b T T2 : Nat} (hg : GoodR k a b) (g1 : 1 ≤ C) (g2 : C ≤ 64) (A0 B0 A1 B1 A2 B2 A3 B3 : Nat) (l0 n0 l1 n1 l2 n2 l3 n3 : List ST) (h0 : GoodRow C k a b ⟨A0, B0, l0⟩) (f0 : GoodRow C k a b ⟨A0, B0, n0⟩) (h1 : GoodRow C k a b ⟨A1, B1, l1⟩) (f1 : GoodRow C k a b ⟨A1, B1, n1⟩) (h2 : GoodRow C k a b ⟨A2, B2, l2⟩) (f2 : GoodRow C k a b ⟨A2, B2, n2⟩) (h3 : GoodRow C k a b ⟨A3, B3, l3⟩) (f3 : GoodRow C k a b ⟨A3, B3, n3⟩) (cs : List Bool) (p : Nat) (d : Bool) (hT : T + T2 ≤ 1099511627776) (hp : p ≤ cs.length) (hc : cs.length ≤ 4000000) (U : UR) (hU : U = mrgM cs C k a b [⟨A0, B0, l0⟩, ⟨A1, B1, l1⟩, ⟨A2, B2, l2⟩, ⟨A3, B3, l3⟩] [⟨A0, B0, n0⟩, ⟨A1, B1, n1⟩, ⟨A2, B2, n2⟩, ⟨A3, B3, n3⟩] p d) :
  Eqn Tryz.prog o_19 [.p 0 0, .p 1 0, .p 2 0] [skO 4 C k a b [⟨A0, B0, l0⟩, ⟨A1, B1, l1⟩, ⟨A2, B2, l2⟩, ⟨A3, B3, l3⟩] T, tapeO cs p d, skO 4 C k a b [⟨A0, B0, n0⟩, ⟨A1, B1, n1⟩, ⟨A2, B2, n2⟩, ⟨A3, B3, n3⟩] T2] (.d (.int .i64 U.e)) [if U.e = 0 then skO 4 C k a b U.rs (T + T2) else skO 4 C k a b [⟨A0, B0, l0⟩, ⟨A1, B1, l1⟩, ⟨A2, B2, l2⟩, ⟨A3, B3, l3⟩] T, tapeO cs U.p U.d, skO 4 C k a b [⟨A0, B0, n0⟩, ⟨A1, B1, n1⟩, ⟨A2, B2, n2⟩, ⟨A3, B3, n3⟩] T2] := by
 have hcl := o_j6 (T := T) hg g1 g2 A0 B0 A1 B1 A2 B2 A3 B3 l0 l1 l2 l3 h0 h1 h2 h3
 have hal := o_23 (R := 4) (C := C) (k := k) (a := a) (b := b) (T := T) (V := T2) [⟨A0, B0, l0⟩, ⟨A1, B1, l1⟩, ⟨A2, B2, l2⟩, ⟨A3, B3, l3⟩] [⟨A0, B0, n0⟩, ⟨A1, B1, n1⟩, ⟨A2, B2, n2⟩, ⟨A3, B3, n3⟩] (by simp) (by simp) (by simp) (by simp)
 simp only [List.map_cons, List.map_nil, decide_true] at hal
 obtain ⟨-, -, e0, w0⟩ := h0
 obtain ⟨-, -, i0, y0⟩ := f0
 simp only at e0 w0 i0 y0
 obtain ⟨Z0, z0⟩ : ∃ Z, Z = mergeUp cs k a b l0 n0 p d C := ⟨_, rfl⟩
 obtain ⟨p0, v0, s0⟩ := o_8 (cs := cs) (d := d) hg w0 y0 hp C (by omega) (by omega)
 rw [← z0] at p0 v0 s0
 have x0 := o_r cs l0 n0 p d hg w0 y0 (by omega) (by omega) (by omega) hp hc Z0 (by rw [e0]; exact z0)
 have c0 := o_s cs l0 n0 p d hg w0 y0 (by omega) (by omega) (by omega) hp hc Z0 (by rw [e0]; exact z0)
 obtain ⟨-, -, e1, w1⟩ := h1
 obtain ⟨-, -, i1, y1⟩ := f1
 simp only at e1 w1 i1 y1
 obtain ⟨Z1, z1⟩ : ∃ Z, Z = mergeUp cs k a b l1 n1 Z0.p Z0.d C := ⟨_, rfl⟩
 obtain ⟨p1, v1, s1⟩ := o_8 (cs := cs) (d := Z0.d) hg w1 y1 p0 C (by omega) (by omega)
 rw [← z1] at p1 v1 s1
 have x1 := o_r cs l1 n1 Z0.p Z0.d hg w1 y1 (by omega) (by omega) (by omega) p0 hc Z1 (by rw [e1]; exact z1)
 have c1 := o_s cs l1 n1 Z0.p Z0.d hg w1 y1 (by omega) (by omega) (by omega) p0 hc Z1 (by rw [e1]; exact z1)
 obtain ⟨-, -, e2, w2⟩ := h2
 obtain ⟨-, -, i2, y2⟩ := f2
 simp only at e2 w2 i2 y2
 obtain ⟨Z2, z2⟩ : ∃ Z, Z = mergeUp cs k a b l2 n2 Z1.p Z1.d C := ⟨_, rfl⟩
 obtain ⟨p2, v2, s2⟩ := o_8 (cs := cs) (d := Z1.d) hg w2 y2 p1 C (by omega) (by omega)
 rw [← z2] at p2 v2 s2
 have x2 := o_r cs l2 n2 Z1.p Z1.d hg w2 y2 (by omega) (by omega) (by omega) p1 hc Z2 (by rw [e2]; exact z2)
 have c2 := o_s cs l2 n2 Z1.p Z1.d hg w2 y2 (by omega) (by omega) (by omega) p1 hc Z2 (by rw [e2]; exact z2)
 obtain ⟨-, -, e3, w3⟩ := h3
 obtain ⟨-, -, i3, y3⟩ := f3
 simp only at e3 w3 i3 y3
 obtain ⟨Z3, z3⟩ : ∃ Z, Z = mergeUp cs k a b l3 n3 Z2.p Z2.d C := ⟨_, rfl⟩
 obtain ⟨p3, v3, s3⟩ := o_8 (cs := cs) (d := Z2.d) hg w3 y3 p2 C (by omega) (by omega)
 rw [← z3] at p3 v3 s3
 have x3 := o_r cs l3 n3 Z2.p Z2.d hg w3 y3 (by omega) (by omega) (by omega) p2 hc Z3 (by rw [e3]; exact z3)
 have c3 := o_s cs l3 n3 Z2.p Z2.d hg w3 y3 (by omega) (by omega) (by omega) p2 hc Z3 (by rw [e3]; exact z3)
 simp only [mrgM] at hU
 rw [← z0] at hU
 rw [← z1] at hU
 rw [← z2] at hU
 rw [← z3] at hU
 clear z0 p0 v0 w0 y0 z1 p1 v1 w1 y1 z2 p2 v2 w2 y2 z3 p3 v3 w3 y3
 refine Eqn.gen [0, 1, 2] o_2d (by simp) (by simp) (by rfl) (by decide) (by simp) (by intro ob hob; simp at hob; rcases hob with rfl | rfl | rfl; (split <;> simp [skO, skD]); simp [tapeO]; simp [skO, skD]) ?_
 have q6 : IntKind.i64.wrap ((T : Int) + T2) = ((T + T2 : Nat) : Int) := by rw [w64 (by omega) (by omega)]; omega
 have q7 : ¬ (1099511627776 : Int) < (T : Int) + T2 := by omega
 have q8 : ¬ 1099511627776 < T + T2 := by omega
 have es : ∀ rs : List Rw, rs.length = 4 → (skO 4 C k a b rs (T + T2)) = ⟨106, [.d (.int .i64 (4 : Nat)), .d (.int .i64 C), .d (.int .i64 k), .d (.int .i64 a), .d (.int .i64 b), .d (.sl 4 (rowsD k a b rs)), .d (.int .i64 (T + T2 : Nat))]⟩ := by intro rs h; simp [skO, skD, h]
 have eo : skO 4 C k a b [⟨A0, B0, l0⟩, ⟨A1, B1, l1⟩, ⟨A2, B2, l2⟩, ⟨A3, B3, l3⟩] T = ⟨106, [.d (.int .i64 (4 : Nat)), .d (.int .i64 C), .d (.int .i64 k), .d (.int .i64 a), .d (.int .i64 b), .d (.sl 4 [.int .u64 A0, .int .u64 B0, .ptr (arrD k a b l0) 0, .int .u64 A1, .int .u64 B1, .ptr (arrD k a b l1) 0, .int .u64 A2, .int .u64 B2, .ptr (arrD k a b l2) 0, .int .u64 A3, .int .u64 B3, .ptr (arrD k a b l3) 0]), .d (.int .i64 T)]⟩ := by simp [skO, skD, rowsD, rowD]
 have en : skO 4 C k a b [⟨A0, B0, n0⟩, ⟨A1, B1, n1⟩, ⟨A2, B2, n2⟩, ⟨A3, B3, n3⟩] T2 = ⟨106, [.d (.int .i64 (4 : Nat)), .d (.int .i64 C), .d (.int .i64 k), .d (.int .i64 a), .d (.int .i64 b), .d (.sl 4 [.int .u64 A0, .int .u64 B0, .ptr (arrD k a b n0) 0, .int .u64 A1, .int .u64 B1, .ptr (arrD k a b n1) 0, .int .u64 A2, .int .u64 B2, .ptr (arrD k a b n2) 0, .int .u64 A3, .int .u64 B3, .ptr (arrD k a b n3) 0]), .d (.int .i64 T2)]⟩ := by simp [skO, skD, rowsD, rowD]
 rw [eo] at hcl
 rw [eo, en] at hal ⊢
 have D0 : Z0.l.length = C → arrD k a b Z0.l = [.ptr [.sl (nwP C (wdR k a b)) ((wordsP (wdR k a b) (encs k a b Z0.l)).map fun x : Nat => D.int .u64 x), .int .i64 C, .int .i64 (wdR k a b)] 0, .int .i64 k, .int .i64 a, .int .i64 b] := by intro h; simp [arrD, vecD, h]
 have L0 : Z0.l.length = C → ((wordsP (wdR k a b) (encs k a b Z0.l)).map fun x : Nat => D.int .u64 x).length = nwP C (wdR k a b) := by intro h; simp [h]
 have u0 : u64s (wordsP (wdR k a b) (encs k a b Z0.l)) = ((wordsP (wdR k a b) (encs k a b Z0.l)).map fun x : Nat => D.int .u64 x).map V.d := by simp [u64s]
 have D1 : Z1.l.length = C → arrD k a b Z1.l = [.ptr [.sl (nwP C (wdR k a b)) ((wordsP (wdR k a b) (encs k a b Z1.l)).map fun x : Nat => D.int .u64 x), .int .i64 C, .int .i64 (wdR k a b)] 0, .int .i64 k, .int .i64 a, .int .i64 b] := by intro h; simp [arrD, vecD, h]
 have L1 : Z1.l.length = C → ((wordsP (wdR k a b) (encs k a b Z1.l)).map fun x : Nat => D.int .u64 x).length = nwP C (wdR k a b) := by intro h; simp [h]
 have u1 : u64s (wordsP (wdR k a b) (encs k a b Z1.l)) = ((wordsP (wdR k a b) (encs k a b Z1.l)).map fun x : Nat => D.int .u64 x).map V.d := by simp [u64s]
 have D2 : Z2.l.length = C → arrD k a b Z2.l = [.ptr [.sl (nwP C (wdR k a b)) ((wordsP (wdR k a b) (encs k a b Z2.l)).map fun x : Nat => D.int .u64 x), .int .i64 C, .int .i64 (wdR k a b)] 0, .int .i64 k, .int .i64 a, .int .i64 b] := by intro h; simp [arrD, vecD, h]
 have L2 : Z2.l.length = C → ((wordsP (wdR k a b) (encs k a b Z2.l)).map fun x : Nat => D.int .u64 x).length = nwP C (wdR k a b) := by intro h; simp [h]
 have u2 : u64s (wordsP (wdR k a b) (encs k a b Z2.l)) = ((wordsP (wdR k a b) (encs k a b Z2.l)).map fun x : Nat => D.int .u64 x).map V.d := by simp [u64s]
 have D3 : Z3.l.length = C → arrD k a b Z3.l = [.ptr [.sl (nwP C (wdR k a b)) ((wordsP (wdR k a b) (encs k a b Z3.l)).map fun x : Nat => D.int .u64 x), .int .i64 C, .int .i64 (wdR k a b)] 0, .int .i64 k, .int .i64 a, .int .i64 b] := by intro h; simp [arrD, vecD, h]
 have L3 : Z3.l.length = C → ((wordsP (wdR k a b) (encs k a b Z3.l)).map fun x : Nat => D.int .u64 x).length = nwP C (wdR k a b) := by intro h; simp [h]
 have u3 : u64s (wordsP (wdR k a b) (encs k a b Z3.l)) = ((wordsP (wdR k a b) (encs k a b Z3.l)).map fun x : Nat => D.int .u64 x).map V.d := by simp [u64s]
 simp only [o_1q, arrO, arrV, arrB, vecO, vecB, e0, e1, e2, e3] at hcl x0 x1 x2 x3 c0 c1 c2 c3 ⊢
 generalize arrD k a b l0 = AD0 at *
 generalize arrD k a b n0 = BD0 at *
 obtain ⟨E0, Y0, P0, G0⟩ := Z0
 simp only at x0 c0 s0 hU D0 L0 u0
 generalize arrD k a b l1 = AD1 at *
 generalize arrD k a b n1 = BD1 at *
 obtain ⟨E1, Y1, P1, G1⟩ := Z1
 simp only at x1 c1 s1 hU D1 L1 u1
 generalize arrD k a b l2 = AD2 at *
 generalize arrD k a b n2 = BD2 at *
 obtain ⟨E2, Y2, P2, G2⟩ := Z2
 simp only at x2 c2 s2 hU D2 L2 u2
 generalize arrD k a b l3 = AD3 at *
 generalize arrD k a b n3 = BD3 at *
 obtain ⟨E3, Y3, P3, G3⟩ := Z3
 simp only at x3 c3 s3 hU D3 L3 u3
 refine A00 ?_; try with_reducible exact tt
 refine CallS.g [0, 2] (hal) (R1 (fs q6 (fs q7 q8)) ?_); try with_reducible exact tt
 refine A10 (fs q6 (fs q7 q8)) ?_; try with_reducible exact tt
 refine CallS.g [0] (hcl) (R0 ?_); try with_reducible exact tt
 refine AW.rounds 5 ?_
 refine A00 ?_; try with_reducible exact tt
 by_cases E00 : E0 = 0
 ·replace s0 := s0 E00
  replace x0 := x0 E00
  simp only [E00, s0, u0] at x0
  replace D0 := D0 s0
  replace L0 := L0 s0
  generalize ((wordsP (wdR k a b) (encs k a b Y0)).map fun x : Nat => D.int .u64 x) = WD0 at *
  refine CallS.g [5, 6, 7, 1] (x0) (R0 ?_); try with_reducible exact tt
  refine A00 ?_; try with_reducible exact tt
  by_cases E10 : E1 = 0
  ·replace s1 := s1 E10
   replace x1 := x1 E10
   simp only [E10, s1, u1] at x1
   replace D1 := D1 s1
   replace L1 := L1 s1
   generalize ((wordsP (wdR k a b) (encs k a b Y1)).map fun x : Nat => D.int .u64 x) = WD1 at *
   refine CallS.g [8, 9, 10, 1] (x1) (R0 ?_); try with_reducible exact tt
   refine A00 ?_; try with_reducible exact tt
   by_cases E20 : E2 = 0
   ·replace s2 := s2 E20
    replace x2 := x2 E20
    simp only [E20, s2, u2] at x2
    replace D2 := D2 s2
    replace L2 := L2 s2
    generalize ((wordsP (wdR k a b) (encs k a b Y2)).map fun x : Nat => D.int .u64 x) = WD2 at *
    refine CallS.g [11, 12, 13, 1] (x2) (R0 ?_); try with_reducible exact tt
    refine A00 ?_; try with_reducible exact tt
    by_cases E30 : E3 = 0
    ·replace s3 := s3 E30
     replace x3 := x3 E30
     simp only [E30, s3, u3] at x3
     replace D3 := D3 s3
     replace L3 := L3 s3
     generalize ((wordsP (wdR k a b) (encs k a b Y3)).map fun x : Nat => D.int .u64 x) = WD3 at *
     refine CallS.g [14, 15, 16, 1] (x3) (R0 ?_); try with_reducible exact tt
     simp only [mrgC, if_true, E00, E10, E20, E30] at hU
     subst hU
     simp only [if_true]
     rw [es _ rfl]
     simp only [rowsD, rowD, List.flatMap_cons, List.flatMap_nil, List.append_nil, List.cons_append, List.nil_append, D0, D1, D2, D3]
     generalize nwP C (wdR k a b) = NW at *
     have t0 : WD0.take NW = WD0 := List.take_of_length_le (by omega)
     have t1 : WD1.take NW = WD1 := List.take_of_length_le (by omega)
     have t2 : WD2.take NW = WD2 := List.take_of_length_le (by omega)
     have t3 : WD3.take NW = WD3 := List.take_of_length_le (by omega)
     generalize wdR k a b = w at *
     refine AW.freeze 19 1 ⟨28, WD0.map V.d⟩ WD0 (by simp) rfl ?_
     simp [frzH, t0]
     refine AW.freeze 18 1 ⟨218, [.d (.sl NW WD0), .d (.int .i64 C), .d (.int .i64 w)]⟩ [.sl NW WD0, .int .i64 C, .int .i64 w] (by rfl) rfl ?_
     simp [frzH]
     refine AW.freeze 5 1 ⟨166, [.d (.ptr [.sl NW WD0, .int .i64 C, .int .i64 w] 0), .d (.int .i64 k), .d (.int .i64 a), .d (.int .i64 b)]⟩ [.ptr [.sl NW WD0, .int .i64 C, .int .i64 w] 0, .int .i64 k, .int .i64 a, .int .i64 b] (by rfl) rfl ?_
     simp [frzH]
     refine AW.freeze 22 1 ⟨28, WD1.map V.d⟩ WD1 (by simp) rfl ?_
     simp [frzH, t1]
     refine AW.freeze 21 1 ⟨218, [.d (.sl NW WD1), .d (.int .i64 C), .d (.int .i64 w)]⟩ [.sl NW WD1, .int .i64 C, .int .i64 w] (by rfl) rfl ?_
     simp [frzH]
     refine AW.freeze 8 1 ⟨166, [.d (.ptr [.sl NW WD1, .int .i64 C, .int .i64 w] 0), .d (.int .i64 k), .d (.int .i64 a), .d (.int .i64 b)]⟩ [.ptr [.sl NW WD1, .int .i64 C, .int .i64 w] 0, .int .i64 k, .int .i64 a, .int .i64 b] (by rfl) rfl ?_
     simp [frzH]
     refine AW.freeze 25 1 ⟨28, WD2.map V.d⟩ WD2 (by simp) rfl ?_
     simp [frzH, t2]
     refine AW.freeze 24 1 ⟨218, [.d (.sl NW WD2), .d (.int .i64 C), .d (.int .i64 w)]⟩ [.sl NW WD2, .int .i64 C, .int .i64 w] (by rfl) rfl ?_
     simp [frzH]
     refine AW.freeze 11 1 ⟨166, [.d (.ptr [.sl NW WD2, .int .i64 C, .int .i64 w] 0), .d (.int .i64 k), .d (.int .i64 a), .d (.int .i64 b)]⟩ [.ptr [.sl NW WD2, .int .i64 C, .int .i64 w] 0, .int .i64 k, .int .i64 a, .int .i64 b] (by rfl) rfl ?_
     simp [frzH]
     refine AW.freeze 28 1 ⟨28, WD3.map V.d⟩ WD3 (by simp) rfl ?_
     simp [frzH, t3]
     refine AW.freeze 27 1 ⟨218, [.d (.sl NW WD3), .d (.int .i64 C), .d (.int .i64 w)]⟩ [.sl NW WD3, .int .i64 C, .int .i64 w] (by rfl) rfl ?_
     simp [frzH]
     refine AW.freeze 14 1 ⟨166, [.d (.ptr [.sl NW WD3, .int .i64 C, .int .i64 w] 0), .d (.int .i64 k), .d (.int .i64 a), .d (.int .i64 b)]⟩ [.ptr [.sl NW WD3, .int .i64 C, .int .i64 w] 0, .int .i64 k, .int .i64 a, .int .i64 b] (by rfl) rfl ?_
     simp [frzH]
     refine AW.freeze 4 3 ⟨111, [.int .u64 A0, .int .u64 B0, .ptr [.ptr [.sl NW WD0, .int .i64 C, .int .i64 w] 0, .int .i64 k, .int .i64 a, .int .i64 b] 0, .int .u64 A1, .int .u64 B1, .ptr [.ptr [.sl NW WD1, .int .i64 C, .int .i64 w] 0, .int .i64 k, .int .i64 a, .int .i64 b] 0, .int .u64 A2, .int .u64 B2, .ptr [.ptr [.sl NW WD2, .int .i64 C, .int .i64 w] 0, .int .i64 k, .int .i64 a, .int .i64 b] 0, .int .u64 A3, .int .u64 B3, .ptr [.ptr [.sl NW WD3, .int .i64 C, .int .i64 w] 0, .int .i64 k, .int .i64 a, .int .i64 b] 0].map V.d⟩ [.int .u64 A0, .int .u64 B0, .ptr [.ptr [.sl NW WD0, .int .i64 C, .int .i64 w] 0, .int .i64 k, .int .i64 a, .int .i64 b] 0, .int .u64 A1, .int .u64 B1, .ptr [.ptr [.sl NW WD1, .int .i64 C, .int .i64 w] 0, .int .i64 k, .int .i64 a, .int .i64 b] 0, .int .u64 A2, .int .u64 B2, .ptr [.ptr [.sl NW WD2, .int .i64 C, .int .i64 w] 0, .int .i64 k, .int .i64 a, .int .i64 b] 0, .int .u64 A3, .int .u64 B3, .ptr [.ptr [.sl NW WD3, .int .i64 C, .int .i64 w] 0, .int .i64 k, .int .i64 a, .int .i64 b] 0] (by rfl) rfl ?_
     simp [frzH]
     refine A10 q6 ?_; try with_reducible exact tt
    ·replace c3 := c3 E30
     simp only [mrgC, if_true, if_neg E30, E00, E10, E20] at hU
     refine CallS.g [14, 15, 16, 1] (c3) (R1 E30 ?_); try with_reducible exact tt
     subst hU
     simp only [if_neg E30]
     refine A10 E30 ?_; try with_reducible exact tt
   ·replace c2 := c2 E20
    simp only [mrgC, if_true, if_neg E20, E00, E10] at hU
    refine CallS.g [11, 12, 13, 1] (c2) (R1 E20 ?_); try with_reducible exact tt
    subst hU
    simp only [if_neg E20]
    refine A10 E20 ?_; try with_reducible exact tt
  ·replace c1 := c1 E10
   simp only [mrgC, if_true, if_neg E10, E00] at hU
   refine CallS.g [8, 9, 10, 1] (c1) (R1 E10 ?_); try with_reducible exact tt
   subst hU
   simp only [if_neg E10]
   refine A10 E10 ?_; try with_reducible exact tt
 ·replace c0 := c0 E00
  simp only [mrgC, if_true, if_neg E00] at hU
  refine CallS.g [5, 6, 7, 1] (c0) (R1 E00 ?_); try with_reducible exact tt
  subst hU
  simp only [if_neg E00]
  refine A10 E00 ?_; try with_reducible exact tt
end
end Go.Proofs.YtijbgbpjionfjaaGreatDoor.Am
namespace Go.Proofs.YtijbgbpjionfjaaGreatDoor.Am
section
open Go.RowKit
/-- where the tape is behind so many rows -/
def rowP (cs : List Bool) (C k a b : Nat) : List Rw → List Rw → Nat → Bool → Nat → Nat × Bool
 | r :: rs, m :: ms, p, d, j + 1 => rowP cs C k a b rs ms (mergeUp cs k a b r.l m.l p d C).p (mergeUp cs k a b r.l m.l p d C).d j
 | _, _, p, d, _ => (p, d)
@[simp] theorem o_wi {cs : List Bool} {C k a b : Nat} (rs ms : List Rw) (p : Nat) (d : Bool) : rowP cs C k a b rs ms p d 0 = (p, d) := by
 unfold rowP; cases rs <;> cases ms <;> rfl
/-- a row's merge -/
def rowZ (cs : List Bool) (C k a b : Nat) (rs ms : List Rw) (p : Nat) (d : Bool) (j : Nat) : MR :=
 mergeUp cs k a b (rs.getD j ⟨0, 0, []⟩).l (ms.getD j ⟨0, 0, []⟩).l (rowP cs C k a b rs ms p d j).1 (rowP cs C k a b rs ms p d j).2 C
theorem o_4x {cs : List Bool} {C k a b : Nat} (r m : Rw) (rs ms : List Rw) (p : Nat) (d : Bool) (j : Nat) : rowZ cs C k a b (r :: rs) (m :: ms) p d (j + 1) = rowZ cs C k a b rs ms (rowZ cs C k a b (r :: rs) (m :: ms) p d 0).p (rowZ cs C k a b (r :: rs) (m :: ms) p d 0).d j := by
 unfold rowZ; rw [rowP]; simp
theorem o_4y {cs : List Bool} {C k a b : Nat} : ∀ (rs ms : List Rw) (p : Nat) (d : Bool) (j : Nat), j < rs.length → j < ms.length → rowP cs C k a b rs ms p d (j + 1) = ((rowZ cs C k a b rs ms p d j).p, (rowZ cs C k a b rs ms p d j).d)
 | r :: rs, m :: ms, p, d, 0, _, _ => by rw [rowP]; simp [rowZ]
 | r :: rs, m :: ms, p, d, j + 1, h, g => by
  rw [rowP, o_4y rs ms _ _ j (by simpa using h) (by simpa using g), o_4x]; simp [rowZ]
/-- a merge that is through, row by row -/
theorem o_8j {cs : List Bool} {C k a b : Nat} : ∀ (rs ms : List Rw) (p : Nat) (d : Bool), rs.length = ms.length → (mrgM cs C k a b rs ms p d).e = 0 →
  (mrgM cs C k a b rs ms p d).rs.length = rs.length ∧ ((mrgM cs C k a b rs ms p d).p, (mrgM cs C k a b rs ms p d).d) = rowP cs C k a b rs ms p d rs.length ∧ ∀ j, j < rs.length → (rowZ cs C k a b rs ms p d j).e = 0 ∧ (mrgM cs C k a b rs ms p d).rs.getD j ⟨0, 0, []⟩ = ⟨(rs.getD j ⟨0, 0, []⟩).a, (rs.getD j ⟨0, 0, []⟩).b, (rowZ cs C k a b rs ms p d j).l⟩
 | [], [], p, d, _, _ => ⟨rfl, rfl, by simp⟩
 | r :: rs, m :: ms, p, d, hl, he => by
  rw [mrgM] at he ⊢
  have h0 : rowZ cs C k a b (r :: rs) (m :: ms) p d 0 = mergeUp cs k a b r.l m.l p d C := by simp [rowZ]
  have hc := fun j => o_4x (cs := cs) (C := C) (k := k) (a := a) (b := b) r m rs ms p d j
  rw [h0] at hc
  rw [List.length_cons, rowP]
  have ih := o_8j (cs := cs) (C := C) (k := k) (a := a) (b := b) rs ms (mergeUp cs k a b r.l m.l p d C).p (mergeUp cs k a b r.l m.l p d C).d (by simpa using hl)
  generalize mrgM cs C k a b rs ms (mergeUp cs k a b r.l m.l p d C).p (mergeUp cs k a b r.l m.l p d C).d = U at *
  generalize mergeUp cs k a b r.l m.l p d C = Z at *
  unfold mrgC at he ⊢
  by_cases hz : Z.e = 0
  ·rw [if_pos hz] at he ⊢
   obtain ⟨i1, i2, i3⟩ := ih he
   refine ⟨by simp [i1], i2, fun j hj => ?_⟩
   cases j with
   | zero => rw [h0]; exact ⟨hz, rfl⟩
   | succ j => rw [hc j]; exact i3 j (by simpa using hj)
  ·rw [if_neg hz] at he
   exact absurd he hz
/-- a merge that fails: at the first row that fails -/
theorem o_jb {cs : List Bool} {C k a b : Nat} : ∀ (rs ms : List Rw) (p : Nat) (d : Bool) (j : Nat), j < rs.length → j < ms.length → (∀ i, i < j → (rowZ cs C k a b rs ms p d i).e = 0) → (rowZ cs C k a b rs ms p d j).e ≠ 0 →
  (mrgM cs C k a b rs ms p d).e = (rowZ cs C k a b rs ms p d j).e ∧ (mrgM cs C k a b rs ms p d).p = (rowZ cs C k a b rs ms p d j).p ∧ (mrgM cs C k a b rs ms p d).d = (rowZ cs C k a b rs ms p d j).d
 | r :: rs, m :: ms, p, d, j, hr, hm, h, he => by
  rw [mrgM]
  have h0 : rowZ cs C k a b (r :: rs) (m :: ms) p d 0 = mergeUp cs k a b r.l m.l p d C := by simp [rowZ]
  have hc := fun j => o_4x (cs := cs) (C := C) (k := k) (a := a) (b := b) r m rs ms p d j
  rw [h0] at hc
  cases j with
  | zero =>
   rw [h0] at he ⊢
   unfold mrgC
   rw [if_neg he]
   exact ⟨rfl, rfl, rfl⟩
  | succ j =>
   have hz : (mergeUp cs k a b r.l m.l p d C).e = 0 := by have := h 0 (by omega); rwa [h0] at this
   have ih := o_jb (cs := cs) (C := C) (k := k) (a := a) (b := b) rs ms (mergeUp cs k a b r.l m.l p d C).p (mergeUp cs k a b r.l m.l p d C).d j (by simpa using hr) (by simpa using hm) (fun i hi => by have := h (i + 1) (by omega); rwa [hc i] at this) (by rwa [hc j] at he)
   unfold mrgC
   rw [if_pos hz, hc j]
   exact ih
theorem o_8k {cs : List Bool} {C k a b : Nat} {rs ms : List Rw} {p : Nat} {d : Bool} (hg : GoodR k a b) (hr : ∀ r ∈ rs, GoodRow C k a b r) (hm : ∀ r ∈ ms, GoodRow C k a b r) (hl : rs.length = ms.length) (hp : p ≤ cs.length) : ∀ j, j ≤ rs.length → (rowP cs C k a b rs ms p d j).1 ≤ cs.length
 | 0, _ => by simpa using hp
 | j + 1, h => by
  have ih := o_8k (d := d) hg hr hm hl hp j (by omega)
  rw [o_4y rs ms p d j (by omega) (by omega)]
  have e1 : rs.getD j ⟨0, 0, []⟩ = rs[j] := by simp [List.getD, show j < rs.length by omega]
  have e2 : ms.getD j ⟨0, 0, []⟩ = ms[j] := by simp [List.getD, show j < ms.length by omega]
  obtain ⟨-, -, l1, w1⟩ := hr rs[j] (List.getElem_mem _)
  obtain ⟨-, -, l2, w2⟩ := hm ms[j] (List.getElem_mem _)
  unfold rowZ
  rw [e1, e2]
  exact (o_8 hg w1 w2 ih C (by omega) (by omega)).1
theorem o_vc {cs : List Bool} {C k a b : Nat} {rs ms : List Rw} {p : Nat} {d : Bool} (hg : GoodR k a b) (hr : ∀ r ∈ rs, GoodRow C k a b r) (hm : ∀ r ∈ ms, GoodRow C k a b r) (hl : rs.length = ms.length) (hp : p ≤ cs.length) (j : Nat) (h : j < rs.length) : (rowZ cs C k a b rs ms p d j).p ≤ cs.length ∧ wells k a b (rowZ cs C k a b rs ms p d j).l ∧ ((rowZ cs C k a b rs ms p d j).e = 0 → (rowZ cs C k a b rs ms p d j).l.length = C) := by
 have ih := o_8k (d := d) hg hr hm hl hp j (by omega)
 have e1 : rs.getD j ⟨0, 0, []⟩ = rs[j] := by simp [List.getD, h]
 have e2 : ms.getD j ⟨0, 0, []⟩ = ms[j] := by simp [List.getD, show j < ms.length by omega]
 obtain ⟨-, -, l1, w1⟩ := hr rs[j] (List.getElem_mem _)
 obtain ⟨-, -, l2, w2⟩ := hm ms[j] (List.getElem_mem _)
 unfold rowZ
 rw [e1, e2]
 exact o_8 hg w1 w2 ih C (by omega) (by omega)
theorem o_vd {cs : List Bool} {C k a b : Nat} {rs ms : List Rw} {p : Nat} {d : Bool} (hg : GoodR k a b) (hr : ∀ r ∈ rs, GoodRow C k a b r) (hm : ∀ r ∈ ms, GoodRow C k a b r) (hl : rs.length = ms.length) (hp : p ≤ cs.length) (he : (mrgM cs C k a b rs ms p d).e = 0) :
  (∀ r ∈ (mrgM cs C k a b rs ms p d).rs, GoodRow C k a b r) ∧ (mrgM cs C k a b rs ms p d).rs.map (fun r => (r.a, r.b)) = rs.map fun r => (r.a, r.b) := by
 obtain ⟨h1, -, h3⟩ := o_8j rs ms p d hl he
 have hz := fun j h => o_vc (d := d) hg hr hm hl hp j h
 generalize (mrgM cs C k a b rs ms p d).rs = us at *
 have key : ∀ j (h : j < us.length), us[j] = ⟨(rs[j]'(by omega)).a, (rs[j]'(by omega)).b, (rowZ cs C k a b rs ms p d j).l⟩ := by
  intro j h
  have := (h3 j (by omega)).2
  rw [List.getD_eq_getElem?_getD, List.getElem?_eq_getElem h, List.getD_eq_getElem?_getD, List.getElem?_eq_getElem (show j < rs.length by omega)] at this
  simpa using this
 constructor
 ·intro r h
  obtain ⟨j, hj, rfl⟩ := List.getElem_of_mem h
  rw [key j hj]
  obtain ⟨g1, g2, -, -⟩ := hr (rs[j]'(by omega)) (List.getElem_mem _)
  obtain ⟨-, z2, z3⟩ := hz j (by omega)
  exact ⟨g1, g2, z3 (h3 j (by omega)).1, z2⟩
 ·refine List.ext_getElem (by simp [h1]) fun j j1 j2 => ?_
  rw [List.getElem_map, List.getElem_map, key j (by simpa using j1)]
theorem o_jc {cs : List Bool} {C k a b : Nat} : ∀ (rs ms : List Rw) (p : Nat) (d : Bool), rs.length = ms.length → (∀ j, j < rs.length → (rowZ cs C k a b rs ms p d j).e = 0) → (mrgM cs C k a b rs ms p d).e = 0
 | [], [], p, d, _, _ => rfl
 | r :: rs, m :: ms, p, d, hl, h => by
  rw [mrgM]
  have h0 : rowZ cs C k a b (r :: rs) (m :: ms) p d 0 = mergeUp cs k a b r.l m.l p d C := by simp [rowZ]
  have hc := fun j => o_4x (cs := cs) (C := C) (k := k) (a := a) (b := b) r m rs ms p d j
  rw [h0] at hc
  have hz : (mergeUp cs k a b r.l m.l p d C).e = 0 := by have := h 0 (by simp); rwa [h0] at this
  unfold mrgC
  rw [if_pos hz]
  exact o_jc rs ms _ _ (by simpa using hl) (fun j hj => by have := h (j + 1) (by simpa using hj); rwa [hc j] at this)
/-- a register's merge, in a row's -/
def cellR (cs : List Bool) (k a b : Nat) (l m : List ST) (p : Nat) (d : Bool) (c : Nat) : TR :=
 mergeRM cs k a b (l.getD c (0, 0, false)).1 (l.getD c (0, 0, false)).2.1 (l.getD c (0, 0, false)).2.2 (m.getD c (0, 0, false)).1 (m.getD c (0, 0, false)).2.1 (m.getD c (0, 0, false)).2.2 (mergeUp cs k a b l m p d c).p (mergeUp cs k a b l m p d c).d
theorem o_4z {cs : List Bool} {k a b : Nat} {l m : List ST} {p : Nat} {d : Bool} {c : Nat} (h : (mergeUp cs k a b l m p d c).e = 0) : mergeUp cs k a b l m p d (c + 1) = if (cellR cs k a b l m p d c).e = 0 then ⟨0, (mergeUp cs k a b l m p d c).l ++ [((cellR cs k a b l m p d c).y, (cellR cs k a b l m p d c).t, (cellR cs k a b l m p d c).f)], (cellR cs k a b l m p d c).p, (cellR cs k a b l m p d c).d⟩ else ⟨(cellR cs k a b l m p d c).e, (mergeUp cs k a b l m p d c).l, (cellR cs k a b l m p d c).p, (cellR cs k a b l m p d c).d⟩ :=
 o_8i rfl h rfl rfl rfl
theorem o_8l {cs : List Bool} {k a b : Nat} {l m : List ST} {p : Nat} {d : Bool} {i : Nat} : ∀ j, (mergeUp cs k a b l m p d (i + j)).e = 0 → (mergeUp cs k a b l m p d i).e = 0 ∧ ∃ t, (mergeUp cs k a b l m p d (i + j)).l = (mergeUp cs k a b l m p d i).l ++ t
 | 0, h => ⟨h, [], by simp⟩
 | j + 1, h => by
  by_cases h0 : (mergeUp cs k a b l m p d (i + j)).e = 0
  ·obtain ⟨e, t, ht⟩ := o_8l j h0
   refine ⟨e, ?_⟩
   rw [← Nat.add_assoc] at h ⊢
   rw [o_4z h0] at h ⊢
   split at h
   ·rename_i hc
    rw [if_pos hc]
    exact ⟨t ++ [_], by simp only [ht, List.append_assoc]; rfl⟩
   ·rename_i hc
    exact absurd h hc
  ·have := o_2x h0 1
   rw [← Nat.add_assoc] at h
   rw [this] at h
   exact absurd h h0
theorem o_ve {cs : List Bool} {k a b : Nat} {l m : List ST} {p : Nat} {d : Bool} {c n : Nat} (hg : GoodR k a b) (hl : wells k a b l) (hm : wells k a b m) (hp : p ≤ cs.length) (h1 : n ≤ l.length) (h2 : n ≤ m.length) (hc : c < n) (he : (mergeUp cs k a b l m p d n).e = 0) :
  (mergeUp cs k a b l m p d c).e = 0 ∧ (cellR cs k a b l m p d c).e = 0 ∧ (mergeUp cs k a b l m p d n).l.getD c (0, 0, false) = ((cellR cs k a b l m p d c).y, (cellR cs k a b l m p d c).t, (cellR cs k a b l m p d c).f) := by
 obtain ⟨e1, t, ht⟩ := o_8l (i := c + 1) (n - (c + 1)) (by rw [show c + 1 + (n - (c + 1)) = n by omega]; exact he)
 rw [show c + 1 + (n - (c + 1)) = n by omega] at ht
 obtain ⟨e0, -⟩ := o_8l (i := c) 1 e1
 have hw := (o_8 (d := d) hg hl hm hp c (by omega) (by omega)).2.2 e0
 rw [o_4z e0] at e1 ht
 by_cases hz : (cellR cs k a b l m p d c).e = 0
 ·refine ⟨e0, hz, ?_⟩
  rw [if_pos hz] at ht
  rw [ht]
  simp only
  rw [List.getD_eq_getElem?_getD, List.append_assoc, List.getElem?_append_right (by omega), hw]
  simp
 ·rw [if_neg hz] at e1
  exact absurd e1 hz
theorem o_vf {R C k a b T T2 : Nat} (hg : GoodR k a b) (g1 : 1 ≤ C) (g2 : C ≤ 64) (rs ms : List Rw) (hR : rs.length = R) (hl : rs.length = ms.length) (h1 : 1 ≤ R) (h4 : R ≤ 4) (hr : ∀ r ∈ rs, GoodRow C k a b r) (hm : ∀ r ∈ ms, GoodRow C k a b r) (hh : rs.map (fun r => (r.a, r.b)) = ms.map fun r => (r.a, r.b)) (cs : List Bool) (p : Nat) (d : Bool) (hT : T + T2 ≤ 1099511627776) (hp : p ≤ cs.length) (hc : cs.length ≤ 4000000) (U : UR) (hU : U = mrgM cs C k a b rs ms p d) :
  Eqn Tryz.prog o_19 [.p 0 0, .p 1 0, .p 2 0] [skO R C k a b rs T, tapeO cs p d, skO R C k a b ms T2] (.d (.int .i64 U.e)) [if U.e = 0 then skO R C k a b U.rs (T + T2) else skO R C k a b rs T, tapeO cs U.p U.d, skO R C k a b ms T2] := by
 subst hR
 match rs, ms, hl, h1, h4, hr, hm, hh, hU with
 | [⟨A0, B0, l0⟩], [⟨A0', B0', n0⟩], _, _, _, hr, hm, hh, hU =>
  simp only [List.map_cons, List.map_nil, List.cons.injEq, Prod.mk.injEq, and_true] at hh
  obtain ⟨rfl, rfl⟩ := hh
  exact o_v8 hg g1 g2 A0 B0 l0 n0 (hr _ (by simp)) (hm _ (by simp)) cs p d hT hp hc U hU
 | [⟨A0, B0, l0⟩, ⟨A1, B1, l1⟩], [⟨A0', B0', n0⟩, ⟨A1', B1', n1⟩], _, _, _, hr, hm, hh, hU =>
  simp only [List.map_cons, List.map_nil, List.cons.injEq, Prod.mk.injEq, and_true] at hh
  obtain ⟨⟨rfl, rfl⟩, rfl, rfl⟩ := hh
  exact o_v9 hg g1 g2 A0 B0 A1 B1 l0 n0 l1 n1 (hr _ (by simp)) (hm _ (by simp)) (hr _ (by simp)) (hm _ (by simp)) cs p d hT hp hc U hU
 | [⟨A0, B0, l0⟩, ⟨A1, B1, l1⟩, ⟨A2, B2, l2⟩], [⟨A0', B0', n0⟩, ⟨A1', B1', n1⟩, ⟨A2', B2', n2⟩], _, _, _, hr, hm, hh, hU =>
  simp only [List.map_cons, List.map_nil, List.cons.injEq, Prod.mk.injEq, and_true] at hh
  obtain ⟨⟨rfl, rfl⟩, ⟨rfl, rfl⟩, rfl, rfl⟩ := hh
  exact o_va hg g1 g2 A0 B0 A1 B1 A2 B2 l0 n0 l1 n1 l2 n2 (hr _ (by simp)) (hm _ (by simp)) (hr _ (by simp)) (hm _ (by simp)) (hr _ (by simp)) (hm _ (by simp)) cs p d hT hp hc U hU
 | [⟨A0, B0, l0⟩, ⟨A1, B1, l1⟩, ⟨A2, B2, l2⟩, ⟨A3, B3, l3⟩], [⟨A0', B0', n0⟩, ⟨A1', B1', n1⟩, ⟨A2', B2', n2⟩, ⟨A3', B3', n3⟩], _, _, _, hr, hm, hh, hU =>
  simp only [List.map_cons, List.map_nil, List.cons.injEq, Prod.mk.injEq, and_true] at hh
  obtain ⟨⟨rfl, rfl⟩, ⟨rfl, rfl⟩, ⟨rfl, rfl⟩, rfl, rfl⟩ := hh
  exact o_vb hg g1 g2 A0 B0 A1 B1 A2 B2 A3 B3 l0 n0 l1 n1 l2 n2 l3 n3 (hr _ (by simp)) (hm _ (by simp)) (hr _ (by simp)) (hm _ (by simp)) (hr _ (by simp)) (hm _ (by simp)) (hr _ (by simp)) (hm _ (by simp)) cs p d hT hp hc U hU
theorem o_vg {R C k a b T T2 : Nat} (rs ms : List Rw) (h1 : 1 ≤ rs.length) (h4 : rs.length ≤ 4) (m1 : 1 ≤ ms.length) (m4 : ms.length ≤ 4) (hh : rs.map (fun r => (r.a, r.b)) ≠ ms.map fun r => (r.a, r.b)) (cs : List Bool) (p : Nat) (d : Bool) :
  Eqn Tryz.prog o_19 [.p 0 0, .p 1 0, .p 2 0] [skO R C k a b rs T, tapeO cs p d, skO R C k a b ms T2] (.d (.int .i64 10)) [skO R C k a b rs T, tapeO cs p d, skO R C k a b ms T2] := by
 refine Eqn.gen [0, 1, 2] o_2d (by simp) (by simp) (by rfl) (by decide) (by simp) (by simp [skO, skD, tapeO]) ?_
 have ha := o_23 (R := R) (C := C) (k := k) (a := a) (b := b) (T := T) (V := T2) rs ms h1 h4 m1 m4
 rw [decide_eq_false hh] at ha
 simp only [o_1q, skO, skD, List.map_cons, List.map_nil] at ha ⊢
 generalize rowsD k a b rs = RD at *
 generalize rowsD k a b ms = MD at *
 refine A00 ?_; try with_reducible exact tt
 refine CallS.g [0, 2] (ha) (R0 ?_); try with_reducible exact tt
 refine A00 ?_; try with_reducible exact tt
theorem o_vh {R C k a b T : Nat} (rs : List Rw) : Eqn Tryz.prog o_av [.p 0 0] [skO R C k a b rs T] (.d (cpD R C k a b)) [skO R C k a b rs T] := by
 refine Eqn.gen [0] o_lp (by simp) (by simp) (by rfl) (by decide) (by simp) (by simp [skO, skD]) ?_
 simp only [o_aw, skO, skD, cpD, List.map_cons, List.map_nil]
 refine A00 ?_; try with_reducible exact tt
end
end Go.Proofs.YtijbgbpjionfjaaGreatDoor.Am
namespace Go.Proofs.YtijbgbpjionfjaaGreatDoor.Am
section
open Go.RowKit
theorem o_jd {I : Nat → Prop} {w : World} {α : Type} (f : α → List D) (g : α → List Value) (h : ∀ a, D.reps I w (f a) (g a)) : ∀ l : List α, D.reps I w (l.flatMap f) (l.map g).flatten
 | [] => by simp
 | a :: l => by
  rw [List.flatMap_cons, List.map_cons, List.flatten_cons]
  exact D.reps_append (h a) (o_jd f g h l)
/-- a slice that came in, of elements of several cells that are data -/
theorem o_vi {W : World} {v : Value} {s : Nat} {α : Type} {l : List α} (f : α → List D) (g : α → List Value) (hg : ∀ a, ∀ u ∈ g a, u.oneCell' = true) (hr : ∀ a, D.reps (fun b => b < W.heap.size) W (f a) (g a)) (h : Cells W v s l.length (l.map g).flatten) : V.rep (memW W) (.d (.sl l.length (l.flatMap f))) v := by
 rw [V.rep_d]
 unfold D.rep
 obtain ⟨h1, p, cap, rfl, h2, h3, h4⟩ := h
 refine ⟨p, cap, rfl, h2, h3, (l.map g).flatten, fun u hu => ?_, o_jd f g hr l, ?_⟩
 ·obtain ⟨x, hx, hu⟩ := List.mem_flatten.1 hu
  obtain ⟨a, -, rfl⟩ := List.mem_map.1 hx
  exact hg a u hu
 ·rcases h4 with ⟨rfl, h5, h6⟩ | ⟨b, o, rfl, hb, hc⟩
  ·left
   have : l = [] := List.eq_nil_of_length_eq_zero h5
   subst this
   exact ⟨rfl, h6, rfl⟩
  ·exact .inr ⟨b, o, rfl, .inr hb, hc⟩
end
end Go.Proofs.YtijbgbpjionfjaaGreatDoor.Am
namespace Go.Proofs.YtijbgbpjionfjaaGreatDoor.Am
section
open Go.RowKit
/-- words that came in are natural numbers -/
theorem o_je : ∀ {L : List Int}, (∀ a ∈ L, (Lit.int .u64 a).wf = true) → ∃ ws : List Nat, L = ws.map (fun n : Nat => (n : Int)) ∧ ∀ x ∈ ws, x < 18446744073709551616
 | [], _ => ⟨[], rfl, by simp⟩
 | a :: L, h => by
  obtain ⟨ws, rfl, hw⟩ := o_je (L := L) fun b hb => h b (List.mem_cons_of_mem _ hb)
  have ha := h a (List.mem_cons_self)
  unfold Lit.wf at ha
  simp only [Bool.and_eq_true, decide_eq_true_eq] at ha
  have h0 : (0 : Int) ≤ a := ha.1
  have h1 : a ≤ 18446744073709551615 := ha.2
  refine ⟨a.toNat :: ws, by simp [Int.toNat_of_nonneg h0], fun x hx => ?_⟩
  rcases List.mem_cons.1 hx with rfl | hx
  ·omega
  ·exact hw x hx
theorem o_jf : ∀ {L : List (Int × Int)}, (∀ a ∈ L, (Lit.int .u64 a.1).wf = true ∧ (Lit.int .i64 a.2).wf = true) → ∃ us : List (Nat × Int), L = us.map (fun u => ((u.1 : Int), u.2)) ∧ ∀ u ∈ us, u.1 < 18446744073709551616
 | [], _ => ⟨[], rfl, by simp⟩
 | (a, b) :: L, h => by
  obtain ⟨us, rfl, hw⟩ := o_jf (L := L) fun b hb => h b (List.mem_cons_of_mem _ hb)
  have ha := (h (a, b) (List.mem_cons_self)).1
  unfold Lit.wf at ha
  simp only [Bool.and_eq_true, decide_eq_true_eq] at ha
  have h0 : (0 : Int) ≤ a := ha.1
  have h1 : a ≤ 18446744073709551615 := ha.2
  refine ⟨(a.toNat, b) :: us, by simp [Int.toNat_of_nonneg h0], fun x hx => ?_⟩
  rcases List.mem_cons.1 hx with rfl | hx
  ·simp only; omega
  ·exact hw x hx
theorem o_8m {W : World} {v : Value} {s n : Nat} {l : List Value} (h : Cells W v s n l) : v.oneCell' = true := by
 obtain ⟨_, p, cap, rfl, _⟩ := h; rfl
end
end Go.Proofs.YtijbgbpjionfjaaGreatDoor.Am
namespace Go.Proofs.YtijbgbpjionfjaaGreatDoor.Am
section
open Go.RowKit
theorem o_8n {cs : List Bool} {C k a b key n : Nat} (hg : GoodR k a b) (hC : 1 ≤ C) (hc : cs.length ≤ 4000000) : ∀ (rs : List Rw) (p : Nat) (d : Bool), (∀ r ∈ rs, GoodRow C k a b r) → p ≤ cs.length →
  (updM cs C k a b key n rs p d).p ≤ cs.length ∧ ((updM cs C k a b key n rs p d).e = 0 → (updM cs C k a b key n rs p d).rs.length = rs.length ∧ (∀ r ∈ (updM cs C k a b key n rs p d).rs, GoodRow C k a b r) ∧ (updM cs C k a b key n rs p d).rs.map (fun r => (r.a, r.b)) = rs.map fun r => (r.a, r.b))
 | [], p, d, _, hp => ⟨hp, fun _ => ⟨rfl, by simp [updM], rfl⟩⟩
 | r :: rs, p, d, h, hp => by
  obtain ⟨h1, h2, h3, h4⟩ := h r (by simp)
  have hcol : colOf C r.a r.b key < r.l.length := by rw [h3]; exact Nat.mod_lt _ (by omega)
  have hw := o_k (cs := cs) (n := n) (p := p) (d := d) hg (o_5 h4 hcol) hp hc
  have hu : addRM cs k a b n (r.l.getD (colOf C r.a r.b key) (0, 0, false)).1 (r.l.getD (colOf C r.a r.b key) (0, 0, false)).2.1 (r.l.getD (colOf C r.a r.b key) (0, 0, false)).2.2 p d = updR cs C k a b key n r p d := rfl
  rw [hu] at hw
  have ih := o_8n (key := key) (n := n) hg hC hc rs (updR cs C k a b key n r p d).p (updR cs C k a b key n r p d).d (fun x hx => h x (by simp [hx])) hw.1
  rw [updM]
  generalize updM cs C k a b key n rs (updR cs C k a b key n r p d).p (updR cs C k a b key n r p d).d = U at *
  generalize updR cs C k a b key n r p d = Z at *
  unfold updC
  by_cases he : Z.e = 0
  ·rw [if_pos he]
   refine ⟨ih.1, fun h0 => ?_⟩
   obtain ⟨i1, i2, i3⟩ := ih.2 h0
   refine ⟨by simp [i1], fun x hx => ?_, by simp [i3]⟩
   rcases List.mem_cons.1 hx with rfl | hx
   ·exact ⟨h1, h2, by simpa using h3, o_ts h4 _ (hw.2 he)⟩
   ·exact i2 x hx
  ·rw [if_neg he]
   exact ⟨hw.1, fun h0 => absurd h0 he⟩

/-- a sketch that is under way: its rows, its weight, the tape -/
structure BS where
 rs : List Rw
 T : Nat
 p : Nat
 d : Bool
def bN (z : Int) : Nat := (bits BinOp.and IntKind.i64 z 7).toNat
theorem o_jg (z : Int) : bits BinOp.and IntKind.i64 z 7 = (bN z : Nat) ∧ bN z ≤ 7 := by
 obtain ⟨n, b1, b2, -⟩ := o_v z 7 (by omega)
 replace b1 : bits BinOp.and IntKind.i64 z 7 = n := b1
 unfold bN
 rw [b1]; simp; omega
def bstep (cs : List Bool) (C k a b : Nat) (s : BS) (u : Nat × Int) : BS :=
 if (updM cs C k a b (u.1 % hP) (bN u.2) s.rs s.p s.d).e = 0 then ⟨(updM cs C k a b (u.1 % hP) (bN u.2) s.rs s.p s.d).rs, s.T + bN u.2, (updM cs C k a b (u.1 % hP) (bN u.2) s.rs s.p s.d).p, (updM cs C k a b (u.1 % hP) (bN u.2) s.rs s.p s.d).d⟩
 else ⟨s.rs, s.T, (updM cs C k a b (u.1 % hP) (bN u.2) s.rs s.p s.d).p, (updM cs C k a b (u.1 % hP) (bN u.2) s.rs s.p s.d).d⟩
def bldM (cs : List Bool) (C k a b : Nat) (us : List (Nat × Int)) (rs : List Rw) (i : Nat) : BS := (us.take i).foldl (bstep cs C k a b) ⟨rs, 0, 0, false⟩
theorem o_jh {cs : List Bool} {C k a b : Nat} {us : List (Nat × Int)} {rs : List Rw} {i : Nat} (h : i < us.length) : bldM cs C k a b us rs (i + 1) = bstep cs C k a b (bldM cs C k a b us rs i) us[i] := by
 unfold bldM; rw [o_8e _ _ h, List.foldl_append]; rfl
def BGood (cs : List Bool) (C k a b : Nat) (rs : List Rw) (i : Nat) (s : BS) : Prop := s.rs.length = rs.length ∧ (∀ r ∈ s.rs, GoodRow C k a b r) ∧ (s.rs.map fun r => (r.a, r.b)) = (rs.map fun r => (r.a, r.b)) ∧ s.T ≤ 7 * i ∧ s.p ≤ cs.length
theorem o_vj {cs : List Bool} {C k a b : Nat} {rs : List Rw} {i : Nat} {s : BS} (hg : GoodR k a b) (hC : 1 ≤ C) (hc : cs.length ≤ 4000000) (h : BGood cs C k a b rs i s) (u : Nat × Int) : BGood cs C k a b rs (i + 1) (bstep cs C k a b s u) := by
 obtain ⟨h1, h2, h3, h4, h5⟩ := h
 have hn := (o_jg u.2).2
 have hu := o_8n (key := u.1 % hP) (n := bN u.2) hg hC hc s.rs s.p s.d h2 h5
 unfold bstep
 generalize updM cs C k a b (u.1 % hP) (bN u.2) s.rs s.p s.d = U at *
 by_cases he : U.e = 0
 ·rw [if_pos he]
  obtain ⟨i1, i2, i3⟩ := hu.2 he
  exact ⟨i1.trans h1, i2, i3.trans h3, by simp only; omega, hu.1⟩
 ·rw [if_neg he]
  exact ⟨h1, h2, h3, by simp only; omega, hu.1⟩
theorem o_50 {cs : List Bool} {C k a b : Nat} {us : List (Nat × Int)} {rs : List Rw} (hg : GoodR k a b) (hC : 1 ≤ C) (hc : cs.length ≤ 4000000) (hr : ∀ r ∈ rs, GoodRow C k a b r) : ∀ i, i ≤ us.length → BGood cs C k a b rs i (bldM cs C k a b us rs i)
 | 0, _ => ⟨rfl, hr, rfl, by simp [bldM], Nat.zero_le _⟩
 | i + 1, h => by rw [o_jh h]; exact o_vj hg hC hc (o_50 hg hC hc hr i (by omega)) _
theorem o_8o {C k a b : Nat} (hg : GoodR k a b) (x : Nat × Nat) (h : x.1 < hP ∧ x.2 < hP) : GoodRow C k a b (newRow C x) := ⟨h.1, h.2, by simp [newRow], o_iu hg C⟩

set_option maxHeartbeats 2000000 in
theorem o_ji (r c k a b : Int) (ws : List Nat) (us : List (Nat × Int)) (cs : List Bool) (hws : ws.length ≤ 9223372036854775807) (hus : us.length ≤ 9223372036854775807) (hkey : ∀ u ∈ us, u.1 < 18446744073709551616) (hc : cs.length ≤ 4000000) {R C K A B : Nat} (hgp : GoodP R C K A B) (hR0 : (R : Int) = 1 + bits BinOp.and IntKind.i64 r 3) (hpar : Eqn Tryz.prog o_5n [.d (drD r c k a b ws)] [] (.d (cpD R C K A B)) []) (S : BS) (hS : S = bldM cs C K A B us ((drawH ws R).map (newRow C)) (min 12 us.length)) :
  Eqn Tryz.prog o_an [.d (drD r c k a b ws), .d (.sl us.length (updD us)), .p 0 0] [tapeO cs 0 false] (.p 1 0) [tapeO cs S.p S.d, skO R C K A B S.rs S.T] := by
 refine Eqn.gen [0, 3] o_ll (by simp) (by simp) (by rfl) (by decide) (by simp) (by simp [skO, skD, tapeO]) ?_
 have hhs := o_ux r c k a b ws hws R hR0 hgp.1 hgp.2.1
 have hlt := o_j3 ws hgp.2.1
 have hlen : (drawH ws R).length = R := by simp [drawH]
 have hwith := o_8f hgp (drawH ws R) hlen hlt
 obtain ⟨hr1, hr4, hC1, hC64, hg⟩ := hgp
 have hul : (updD us).length = us.length * 2 := o_z (fun x => by simp) us
 have hug : ∀ i (h : i < us.length), ((updD us).drop (i * 2)).take 2 = [.int .u64 us[i].1, .int .i64 us[i].2] := o_4p (f := fun u : Nat × Int => [D.int .u64 u.1, D.int .i64 u.2]) (fun x => by simp) us
 have hgd : ∀ r ∈ (drawH ws R).map (newRow C), GoodRow C K A B r := by
  intro x hx
  obtain ⟨y, hy, rfl⟩ := List.mem_map.1 hx
  exact o_8o hg y (hlt y hy)
 have hl0 : ((drawH ws R).map (newRow C)).length = R := by simp [hlen]
 generalize (drawH ws R).map (newRow C) = rs0 at *
 have hbg := fun i hi => o_50 (us := us) hg hC1 hc hgd i hi
 have hhl : (hashesD (drawH ws R)).length = R * 2 := by
  have := o_z (f := fun h : Nat × Nat => [D.int .u64 h.1, D.int .u64 h.2]) (n := 2) (fun x => by simp) (drawH ws R)
  rw [hlen] at this; exact this
 generalize hashesD (drawH ws R) = HD at *
 have hht : HD.take (R * 2) = HD := List.take_of_length_le (by omega)
 simp only [o_ao, drD, cpD, skO, skD, List.map_cons, List.map_nil, hl0] at hpar hhs hwith ⊢
 rw [← hht] at hwith
 generalize hWD : (ws.map fun x : Nat => D.int .u64 x) = WD at *
 generalize hUD : updD us = UD at *
 refine A01 hpar ?_; try with_reducible exact tt
 refine CallS.g [] (hhs) (R0 ?_); try with_reducible exact tt
 refine CallS.gf 2 2 ⟨62, HD.map V.d⟩ HD [] (hwith) (R0 ?_); try with_reducible exact tt
 refine A00 ?_; try with_reducible exact tt
 refine AW.loopT (α := Nat) 4 (fun i => [(9, .d (.int .i64 (i : Nat)))]) (fun i => [(0, tapeO cs (bldM cs C K A B us rs0 i).p (bldM cs C K A B us rs0 i).d), (3, ⟨106, [.d (.int .i64 R), .d (.int .i64 C), .d (.int .i64 K), .d (.int .i64 A), .d (.int .i64 B), .d (.sl R (rowsD K A B (bldM cs C K A B us rs0 i).rs)), .d (.int .i64 (bldM cs C K A B us rs0 i).T)]⟩)]) (fun i => i ≤ us.length ∧ i ≤ 12) (fun i => us.length - i) 0 ?_ ?_ ⟨Nat.zero_le _, by omega⟩ ?_ ?_ ?_
 ·simp
 ·simp
 ·simp
 ·simp [bldM]
 rintro i ⟨hi, hi12⟩
 simp
 by_cases h30 : i < us.length ∧ i < 12
 ·obtain ⟨h1, h2⟩ := h30
  have h1' : (i : Int) < us.length := by omega
  have h2' : (i : Int) < 12 := by omega
  have hug1 := hug i h1
  have hub : i * 2 + 2 ≤ us.length * 2 := by omega
  have hky := hkey _ (List.getElem_mem h1)
  have hnx := o_jh (cs := cs) (C := C) (k := K) (a := A) (b := B) (rs := rs0) h1
  obtain ⟨g1, g2, g3, g4, g5⟩ := hbg i (by omega)
  have huk := o_v2 us[i].1 us[i].2 hky
  obtain ⟨bn1, bn2⟩ := o_jg us[i].2
  have hup := o_v1 (R := R) (T := (bldM cs C K A B us rs0 i).T) hg hC1 hC64 (bldM cs C K A B us rs0 i).rs (g1.trans hl0) hr1 hr4 g2 cs (us[i].1 % hP) (bN us[i].2) (bldM cs C K A B us rs0 i).p (bldM cs C K A B us rs0 i).d (Nat.mod_lt _ (by decide)) (by omega) (by omega) g5 hc _ rfl
  have hul' := o_8n (key := us[i].1 % hP) (n := bN us[i].2) hg hC1 hc (bldM cs C K A B us rs0 i).rs (bldM cs C K A B us rs0 i).p (bldM cs C K A B us rs0 i).d g2 g5
  unfold bstep at hnx
  have ew : IntKind.i64.wrap ((i : Int) + 1) = ((i + 1 : Nat) : Int) := by rw [w64 (by omega) (by omega)]; omega
  replace g1 := g1.trans hl0
  clear g2 g3 g4 g5 hbg hgd
  generalize bldM cs C K A B us rs0 i = B0 at *
  generalize us[i].1 % hP = key at *
  generalize hbn : bN us[i].2 = n at *
  generalize updM cs C K A B key n B0.rs B0.p B0.d = U at *
  generalize us[i] = u at *
  obtain ⟨k1, n0⟩ := u
  obtain ⟨hu1, hu2, hu3, hu4⟩ := seg2 hug1
  simp only at hug1 hu1 hu2 hu3 hu4 huk bn1 hbn
  by_cases hue : U.e = 0
  ·rw [if_pos hue] at hnx
   obtain ⟨ul, -, -⟩ := hul'.2 hue
   simp only [if_pos hue, skO, skD, List.map_cons, List.map_nil, g1, ul.trans g1] at hup
   refine A11 (fs h1 (fs h1' (fs h2 (fs h2' (fs hug1 (fs hu1 (fs hu2 (fs hu3 (fs hu4 (fs hub (fs hul bn1))))))))))) huk ?_; try with_reducible exact tt
   refine CallS.g [3, 0] (hup) (R1 (fs hug1 (fs hub hul)) ?_); try with_reducible exact tt
   refine A10 ew ?_; try with_reducible exact tt
   exact ⟨i + 1, ⟨by omega, by omega⟩, by omega, Sub1.int (by omega), Subs.of (by simp [hnx]), Subs.of (by simp [hnx])⟩
  ·rw [if_neg hue] at hnx
   simp only [if_neg hue, skO, skD, List.map_cons, List.map_nil, g1] at hup
   refine A11 (fs h1 (fs h1' (fs h2 (fs h2' (fs hug1 (fs hu1 (fs hu2 (fs hu3 (fs hu4 (fs hub (fs hul bn1))))))))))) huk ?_; try with_reducible exact tt
   refine CallS.g [3, 0] (hup) (R1 (fs hug1 (fs hub hul)) ?_); try with_reducible exact tt
   refine A10 ew ?_; try with_reducible exact tt
   exact ⟨i + 1, ⟨by omega, by omega⟩, by omega, Sub1.int (by omega), Subs.of (by simp [hnx]), Subs.of (by simp [hnx])⟩
 ·have hz : ¬ ((i : Int) < us.length ∧ (i : Int) < 12) := by omega
  have hmi : min 12 us.length = i := by omega
  rw [hmi] at hS
  rw [← hS]
  have hSl : S.rs.length = R := by rw [hS]; exact (hbg i (by omega)).1.trans hl0
  rw [hSl]
  by_cases h1 : (i : Int) < us.length
  ·have h2 : ¬ (i : Int) < 12 := fun h => hz ⟨h1, h⟩
   have h1n : i < us.length := by omega
   have h2n : ¬ i < 12 := by omega
   refine A10 (fs h1 (fs h2 (fs h1n h2n))) ?_; try with_reducible exact tt
  ·have h1n : ¬ i < us.length := by omega
   refine A10 (fs h1 h1n) ?_; try with_reducible exact tt
end
end Go.Proofs.YtijbgbpjionfjaaGreatDoor.Am
namespace Go.Proofs.YtijbgbpjionfjaaGreatDoor.Am
section
open Go.RowKit
theorem o_vk {C k a b T : Nat} (hg : GoodR k a b) (g1 : 1 ≤ C) (g2 : C ≤ 64) (A0 B0 : Nat) (l0 : List ST) (h0 : GoodRow C k a b ⟨A0, B0, l0⟩) :
  Eqn Tryz.prog o_o [.p 0 0] [skO 1 C k a b [⟨A0, B0, l0⟩] T] (.p 1 0) [skO 1 C k a b [⟨A0, B0, l0⟩] T, skO 1 C k a b [⟨A0, B0, l0⟩] T] := by
 obtain ⟨-, -, e0, -⟩ := h0
 simp only at e0
 refine Eqn.gen [0, 1] o_10 (by simp) (by simp) (by rfl) (by decide) (by simp) (by simp [skO, skD]) ?_
 have hc := o_15 1 [.int .u64 A0, .int .u64 B0, .ptr (arrD k a b l0) 0] (by omega) rfl (by omega)
 have d0 := o_7 l0 hg (by omega) (by omega)
 have D0 : arrD k a b l0 = [.ptr [.sl (nwP C (wdR k a b)) ((wordsP (wdR k a b) (encs k a b l0)).map fun x : Nat => D.int .u64 x), .int .i64 C, .int .i64 (wdR k a b)] 0, .int .i64 k, .int .i64 a, .int .i64 b] := by simp [arrD, vecD, e0]
 have L0 : ((wordsP (wdR k a b) (encs k a b l0)).map fun x : Nat => D.int .u64 x).length = nwP C (wdR k a b) := by simp [e0]
 have u0 : u64s (wordsP (wdR k a b) (encs k a b l0)) = ((wordsP (wdR k a b) (encs k a b l0)).map fun x : Nat => D.int .u64 x).map V.d := by simp [u64s]
 simp only [o_t, skO, skD, rowsD, rowD, List.flatMap_cons, List.flatMap_nil, List.append_nil, List.cons_append, List.nil_append, List.map_cons, List.map_nil, List.length_cons, List.length_nil, arrO, arrV, arrB, vecO, vecB, e0, D0, u0] at hc d0 ⊢
 generalize ((wordsP (wdR k a b) (encs k a b l0)).map fun x : Nat => D.int .u64 x) = WD0 at *
 generalize nwP C (wdR k a b) = NW at *
 have t0 : WD0.take NW = WD0 := List.take_of_length_le (by omega)
 generalize wdR k a b = w at *
 clear D0 u0
 refine G0 ?_; try with_reducible exact tt
 refine CallS.g [] (hc) (R0 ?_); try with_reducible exact tt
 refine AW.rounds 2 ?_
 refine A00 ?_; try with_reducible exact tt
 refine CallS.g [] (d0) (R0 ?_); try with_reducible exact tt
 refine AW.freeze 6 1 ⟨28, WD0.map V.d⟩ WD0 (by simp) rfl ?_
 simp [frzH, t0]
 refine AW.freeze 5 1 ⟨218, [.d (.sl NW WD0), .d (.int .i64 C), .d (.int .i64 w)]⟩ [.sl NW WD0, .int .i64 C, .int .i64 w] (by rfl) rfl ?_
 simp [frzH]
 refine AW.freeze 4 1 ⟨166, [.d (.ptr [.sl NW WD0, .int .i64 C, .int .i64 w] 0), .d (.int .i64 k), .d (.int .i64 a), .d (.int .i64 b)]⟩ [.ptr [.sl NW WD0, .int .i64 C, .int .i64 w] 0, .int .i64 k, .int .i64 a, .int .i64 b] (by rfl) rfl ?_
 simp [frzH]
 refine AW.freeze 2 3 ⟨111, [.int .u64 A0, .int .u64 B0, .ptr [.ptr [.sl NW WD0, .int .i64 C, .int .i64 w] 0, .int .i64 k, .int .i64 a, .int .i64 b] 0].map V.d⟩ [.int .u64 A0, .int .u64 B0, .ptr [.ptr [.sl NW WD0, .int .i64 C, .int .i64 w] 0, .int .i64 k, .int .i64 a, .int .i64 b] 0] (by rfl) rfl ?_
 simp [frzH]
 refine A00 ?_; try with_reducible exact tt

theorem o_vl {C k a b T : Nat} (hg : GoodR k a b) (g1 : 1 ≤ C) (g2 : C ≤ 64) (A0 B0 A1 B1 : Nat) (l0 l1 : List ST) (h0 : GoodRow C k a b ⟨A0, B0, l0⟩) (h1 : GoodRow C k a b ⟨A1, B1, l1⟩) :
  Eqn Tryz.prog o_o [.p 0 0] [skO 2 C k a b [⟨A0, B0, l0⟩, ⟨A1, B1, l1⟩] T] (.p 1 0) [skO 2 C k a b [⟨A0, B0, l0⟩, ⟨A1, B1, l1⟩] T, skO 2 C k a b [⟨A0, B0, l0⟩, ⟨A1, B1, l1⟩] T] := by
 obtain ⟨-, -, e0, -⟩ := h0
 simp only at e0
 obtain ⟨-, -, e1, -⟩ := h1
 simp only at e1
 refine Eqn.gen [0, 1] o_10 (by simp) (by simp) (by rfl) (by decide) (by simp) (by simp [skO, skD]) ?_
 have hc := o_15 2 [.int .u64 A0, .int .u64 B0, .ptr (arrD k a b l0) 0, .int .u64 A1, .int .u64 B1, .ptr (arrD k a b l1) 0] (by omega) rfl (by omega)
 have d0 := o_7 l0 hg (by omega) (by omega)
 have D0 : arrD k a b l0 = [.ptr [.sl (nwP C (wdR k a b)) ((wordsP (wdR k a b) (encs k a b l0)).map fun x : Nat => D.int .u64 x), .int .i64 C, .int .i64 (wdR k a b)] 0, .int .i64 k, .int .i64 a, .int .i64 b] := by simp [arrD, vecD, e0]
 have L0 : ((wordsP (wdR k a b) (encs k a b l0)).map fun x : Nat => D.int .u64 x).length = nwP C (wdR k a b) := by simp [e0]
 have u0 : u64s (wordsP (wdR k a b) (encs k a b l0)) = ((wordsP (wdR k a b) (encs k a b l0)).map fun x : Nat => D.int .u64 x).map V.d := by simp [u64s]
 have d1 := o_7 l1 hg (by omega) (by omega)
 have D1 : arrD k a b l1 = [.ptr [.sl (nwP C (wdR k a b)) ((wordsP (wdR k a b) (encs k a b l1)).map fun x : Nat => D.int .u64 x), .int .i64 C, .int .i64 (wdR k a b)] 0, .int .i64 k, .int .i64 a, .int .i64 b] := by simp [arrD, vecD, e1]
 have L1 : ((wordsP (wdR k a b) (encs k a b l1)).map fun x : Nat => D.int .u64 x).length = nwP C (wdR k a b) := by simp [e1]
 have u1 : u64s (wordsP (wdR k a b) (encs k a b l1)) = ((wordsP (wdR k a b) (encs k a b l1)).map fun x : Nat => D.int .u64 x).map V.d := by simp [u64s]
 simp only [o_t, skO, skD, rowsD, rowD, List.flatMap_cons, List.flatMap_nil, List.append_nil, List.cons_append, List.nil_append, List.map_cons, List.map_nil, List.length_cons, List.length_nil, arrO, arrV, arrB, vecO, vecB, e0, e1, D0, D1, u0, u1] at hc d0 d1 ⊢
 generalize ((wordsP (wdR k a b) (encs k a b l0)).map fun x : Nat => D.int .u64 x) = WD0 at *
 generalize ((wordsP (wdR k a b) (encs k a b l1)).map fun x : Nat => D.int .u64 x) = WD1 at *
 generalize nwP C (wdR k a b) = NW at *
 have t0 : WD0.take NW = WD0 := List.take_of_length_le (by omega)
 have t1 : WD1.take NW = WD1 := List.take_of_length_le (by omega)
 generalize wdR k a b = w at *
 clear D0 u0 D1 u1
 refine G0 ?_; try with_reducible exact tt
 refine CallS.g [] (hc) (R0 ?_); try with_reducible exact tt
 refine AW.rounds 3 ?_
 refine A00 ?_; try with_reducible exact tt
 refine CallS.g [] (d0) (R0 ?_); try with_reducible exact tt
 refine A00 ?_; try with_reducible exact tt
 refine CallS.g [] (d1) (R0 ?_); try with_reducible exact tt
 refine AW.freeze 6 1 ⟨28, WD0.map V.d⟩ WD0 (by simp) rfl ?_
 simp [frzH, t0]
 refine AW.freeze 5 1 ⟨218, [.d (.sl NW WD0), .d (.int .i64 C), .d (.int .i64 w)]⟩ [.sl NW WD0, .int .i64 C, .int .i64 w] (by rfl) rfl ?_
 simp [frzH]
 refine AW.freeze 4 1 ⟨166, [.d (.ptr [.sl NW WD0, .int .i64 C, .int .i64 w] 0), .d (.int .i64 k), .d (.int .i64 a), .d (.int .i64 b)]⟩ [.ptr [.sl NW WD0, .int .i64 C, .int .i64 w] 0, .int .i64 k, .int .i64 a, .int .i64 b] (by rfl) rfl ?_
 simp [frzH]
 refine AW.freeze 10 1 ⟨28, WD1.map V.d⟩ WD1 (by simp) rfl ?_
 simp [frzH, t1]
 refine AW.freeze 9 1 ⟨218, [.d (.sl NW WD1), .d (.int .i64 C), .d (.int .i64 w)]⟩ [.sl NW WD1, .int .i64 C, .int .i64 w] (by rfl) rfl ?_
 simp [frzH]
 refine AW.freeze 8 1 ⟨166, [.d (.ptr [.sl NW WD1, .int .i64 C, .int .i64 w] 0), .d (.int .i64 k), .d (.int .i64 a), .d (.int .i64 b)]⟩ [.ptr [.sl NW WD1, .int .i64 C, .int .i64 w] 0, .int .i64 k, .int .i64 a, .int .i64 b] (by rfl) rfl ?_
 simp [frzH]
 refine AW.freeze 2 3 ⟨111, [.int .u64 A0, .int .u64 B0, .ptr [.ptr [.sl NW WD0, .int .i64 C, .int .i64 w] 0, .int .i64 k, .int .i64 a, .int .i64 b] 0, .int .u64 A1, .int .u64 B1, .ptr [.ptr [.sl NW WD1, .int .i64 C, .int .i64 w] 0, .int .i64 k, .int .i64 a, .int .i64 b] 0].map V.d⟩ [.int .u64 A0, .int .u64 B0, .ptr [.ptr [.sl NW WD0, .int .i64 C, .int .i64 w] 0, .int .i64 k, .int .i64 a, .int .i64 b] 0, .int .u64 A1, .int .u64 B1, .ptr [.ptr [.sl NW WD1, .int .i64 C, .int .i64 w] 0, .int .i64 k, .int .i64 a, .int .i64 b] 0] (by rfl) rfl ?_
 simp [frzH]
 refine A00 ?_; try with_reducible exact tt

theorem o_vm {C k a b T : Nat} (hg : GoodR k a b) (g1 : 1 ≤ C) (g2 : C ≤ 64) (A0 B0 A1 B1 A2 B2 : Nat) (l0 l1 l2 : List ST) (h0 : GoodRow C k a b ⟨A0, B0, l0⟩) (h1 : GoodRow C k a b ⟨A1, B1, l1⟩) (h2 : GoodRow C k a b ⟨A2, B2, l2⟩) :
  Eqn Tryz.prog o_o [.p 0 0] [skO 3 C k a b [⟨A0, B0, l0⟩, ⟨A1, B1, l1⟩, ⟨A2, B2, l2⟩] T] (.p 1 0) [skO 3 C k a b [⟨A0, B0, l0⟩, ⟨A1, B1, l1⟩, ⟨A2, B2, l2⟩] T, skO 3 C k a b [⟨A0, B0, l0⟩, ⟨A1, B1, l1⟩, ⟨A2, B2, l2⟩] T] := by
 obtain ⟨-, -, e0, -⟩ := h0
 simp only at e0
 obtain ⟨-, -, e1, -⟩ := h1
 simp only at e1
 obtain ⟨-, -, e2, -⟩ := h2
 simp only at e2
 refine Eqn.gen [0, 1] o_10 (by simp) (by simp) (by rfl) (by decide) (by simp) (by simp [skO, skD]) ?_
 have hc := o_15 3 [.int .u64 A0, .int .u64 B0, .ptr (arrD k a b l0) 0, .int .u64 A1, .int .u64 B1, .ptr (arrD k a b l1) 0, .int .u64 A2, .int .u64 B2, .ptr (arrD k a b l2) 0] (by omega) rfl (by omega)
 have d0 := o_7 l0 hg (by omega) (by omega)
 have D0 : arrD k a b l0 = [.ptr [.sl (nwP C (wdR k a b)) ((wordsP (wdR k a b) (encs k a b l0)).map fun x : Nat => D.int .u64 x), .int .i64 C, .int .i64 (wdR k a b)] 0, .int .i64 k, .int .i64 a, .int .i64 b] := by simp [arrD, vecD, e0]
 have L0 : ((wordsP (wdR k a b) (encs k a b l0)).map fun x : Nat => D.int .u64 x).length = nwP C (wdR k a b) := by simp [e0]
 have u0 : u64s (wordsP (wdR k a b) (encs k a b l0)) = ((wordsP (wdR k a b) (encs k a b l0)).map fun x : Nat => D.int .u64 x).map V.d := by simp [u64s]
 have d1 := o_7 l1 hg (by omega) (by omega)
 have D1 : arrD k a b l1 = [.ptr [.sl (nwP C (wdR k a b)) ((wordsP (wdR k a b) (encs k a b l1)).map fun x : Nat => D.int .u64 x), .int .i64 C, .int .i64 (wdR k a b)] 0, .int .i64 k, .int .i64 a, .int .i64 b] := by simp [arrD, vecD, e1]
 have L1 : ((wordsP (wdR k a b) (encs k a b l1)).map fun x : Nat => D.int .u64 x).length = nwP C (wdR k a b) := by simp [e1]
 have u1 : u64s (wordsP (wdR k a b) (encs k a b l1)) = ((wordsP (wdR k a b) (encs k a b l1)).map fun x : Nat => D.int .u64 x).map V.d := by simp [u64s]
 have d2 := o_7 l2 hg (by omega) (by omega)
 have D2 : arrD k a b l2 = [.ptr [.sl (nwP C (wdR k a b)) ((wordsP (wdR k a b) (encs k a b l2)).map fun x : Nat => D.int .u64 x), .int .i64 C, .int .i64 (wdR k a b)] 0, .int .i64 k, .int .i64 a, .int .i64 b] := by simp [arrD, vecD, e2]
 have L2 : ((wordsP (wdR k a b) (encs k a b l2)).map fun x : Nat => D.int .u64 x).length = nwP C (wdR k a b) := by simp [e2]
 have u2 : u64s (wordsP (wdR k a b) (encs k a b l2)) = ((wordsP (wdR k a b) (encs k a b l2)).map fun x : Nat => D.int .u64 x).map V.d := by simp [u64s]
 simp only [o_t, skO, skD, rowsD, rowD, List.flatMap_cons, List.flatMap_nil, List.append_nil, List.cons_append, List.nil_append, List.map_cons, List.map_nil, List.length_cons, List.length_nil, arrO, arrV, arrB, vecO, vecB, e0, e1, e2, D0, D1, D2, u0, u1, u2] at hc d0 d1 d2 ⊢
 generalize ((wordsP (wdR k a b) (encs k a b l0)).map fun x : Nat => D.int .u64 x) = WD0 at *
 generalize ((wordsP (wdR k a b) (encs k a b l1)).map fun x : Nat => D.int .u64 x) = WD1 at *
 generalize ((wordsP (wdR k a b) (encs k a b l2)).map fun x : Nat => D.int .u64 x) = WD2 at *
 generalize nwP C (wdR k a b) = NW at *
 have t0 : WD0.take NW = WD0 := List.take_of_length_le (by omega)
 have t1 : WD1.take NW = WD1 := List.take_of_length_le (by omega)
 have t2 : WD2.take NW = WD2 := List.take_of_length_le (by omega)
 generalize wdR k a b = w at *
 clear D0 u0 D1 u1 D2 u2
 refine G0 ?_; try with_reducible exact tt
 refine CallS.g [] (hc) (R0 ?_); try with_reducible exact tt
 refine AW.rounds 4 ?_
 refine A00 ?_; try with_reducible exact tt
 refine CallS.g [] (d0) (R0 ?_); try with_reducible exact tt
 refine A00 ?_; try with_reducible exact tt
 refine CallS.g [] (d1) (R0 ?_); try with_reducible exact tt
 refine A00 ?_; try with_reducible exact tt
 refine CallS.g [] (d2) (R0 ?_); try with_reducible exact tt
 refine AW.freeze 6 1 ⟨28, WD0.map V.d⟩ WD0 (by simp) rfl ?_
 simp [frzH, t0]
 refine AW.freeze 5 1 ⟨218, [.d (.sl NW WD0), .d (.int .i64 C), .d (.int .i64 w)]⟩ [.sl NW WD0, .int .i64 C, .int .i64 w] (by rfl) rfl ?_
 simp [frzH]
 refine AW.freeze 4 1 ⟨166, [.d (.ptr [.sl NW WD0, .int .i64 C, .int .i64 w] 0), .d (.int .i64 k), .d (.int .i64 a), .d (.int .i64 b)]⟩ [.ptr [.sl NW WD0, .int .i64 C, .int .i64 w] 0, .int .i64 k, .int .i64 a, .int .i64 b] (by rfl) rfl ?_
 simp [frzH]
 refine AW.freeze 10 1 ⟨28, WD1.map V.d⟩ WD1 (by simp) rfl ?_
 simp [frzH, t1]
 refine AW.freeze 9 1 ⟨218, [.d (.sl NW WD1), .d (.int .i64 C), .d (.int .i64 w)]⟩ [.sl NW WD1, .int .i64 C, .int .i64 w] (by rfl) rfl ?_
 simp [frzH]
 refine AW.freeze 8 1 ⟨166, [.d (.ptr [.sl NW WD1, .int .i64 C, .int .i64 w] 0), .d (.int .i64 k), .d (.int .i64 a), .d (.int .i64 b)]⟩ [.ptr [.sl NW WD1, .int .i64 C, .int .i64 w] 0, .int .i64 k, .int .i64 a, .int .i64 b] (by rfl) rfl ?_
 simp [frzH]
 refine AW.freeze 14 1 ⟨28, WD2.map V.d⟩ WD2 (by simp) rfl ?_
 simp [frzH, t2]
 refine AW.freeze 13 1 ⟨218, [.d (.sl NW WD2), .d (.int .i64 C), .d (.int .i64 w)]⟩ [.sl NW WD2, .int .i64 C, .int .i64 w] (by rfl) rfl ?_
 simp [frzH]
 refine AW.freeze 12 1 ⟨166, [.d (.ptr [.sl NW WD2, .int .i64 C, .int .i64 w] 0), .d (.int .i64 k), .d (.int .i64 a), .d (.int .i64 b)]⟩ [.ptr [.sl NW WD2, .int .i64 C, .int .i64 w] 0, .int .i64 k, .int .i64 a, .int .i64 b] (by rfl) rfl ?_
 simp [frzH]
 refine AW.freeze 2 3 ⟨111, [.int .u64 A0, .int .u64 B0, .ptr [.ptr [.sl NW WD0, .int .i64 C, .int .i64 w] 0, .int .i64 k, .int .i64 a, .int .i64 b] 0, .int .u64 A1, .int .u64 B1, .ptr [.ptr [.sl NW WD1, .int .i64 C, .int .i64 w] 0, .int .i64 k, .int .i64 a, .int .i64 b] 0, .int .u64 A2, .int .u64 B2, .ptr [.ptr [.sl NW WD2, .int .i64 C, .int .i64 w] 0, .int .i64 k, .int .i64 a, .int .i64 b] 0].map V.d⟩ [.int .u64 A0, .int .u64 B0, .ptr [.ptr [.sl NW WD0, .int .i64 C, .int .i64 w] 0, .int .i64 k, .int .i64 a, .int .i64 b] 0, .int .u64 A1, .int .u64 B1, .ptr [.ptr [.sl NW WD1, .int .i64 C, .int .i64 w] 0, .int .i64 k, .int .i64 a, .int .i64 b] 0, .int .u64 A2, .int .u64 B2, .ptr [.ptr [.sl NW WD2, .int .i64 C, .int .i64 w] 0, .int .i64 k, .int .i64 a, .int .i64 b] 0] (by rfl) rfl ?_
 simp [frzH]
 refine A00 ?_; try with_reducible exact tt

theorem o_vn {C k a b T : Nat} (hg : GoodR k a b) (g1 : 1 ≤ C) (g2 : C ≤ 64) (A0 B0 A1 B1 A2 B2 A3 B3 : Nat) (l0 l1 l2 l3 : List ST) (h0 : GoodRow C k a b ⟨A0, B0, l0⟩) (h1 : GoodRow C k a b ⟨A1, B1, l1⟩) (h2 : GoodRow C k a b ⟨A2, B2, l2⟩) (h3 : GoodRow C k a b ⟨A3, B3, l3⟩) :
  Eqn Tryz.prog o_o [.p 0 0] [skO 4 C k a b [⟨A0, B0, l0⟩, ⟨A1, B1, l1⟩, ⟨A2, B2, l2⟩, ⟨A3, B3, l3⟩] T] (.p 1 0) [skO 4 C k a b [⟨A0, B0, l0⟩, ⟨A1, B1, l1⟩, ⟨A2, B2, l2⟩, ⟨A3, B3, l3⟩] T, skO 4 C k a b [⟨A0, B0, l0⟩, ⟨A1, B1, l1⟩, ⟨A2, B2, l2⟩, ⟨A3, B3, l3⟩] T] := by
 obtain ⟨-, -, e0, -⟩ := h0
 simp only at e0
 obtain ⟨-, -, e1, -⟩ := h1
 simp only at e1
 obtain ⟨-, -, e2, -⟩ := h2
 simp only at e2
 obtain ⟨-, -, e3, -⟩ := h3
 simp only at e3
 refine Eqn.gen [0, 1] o_10 (by simp) (by simp) (by rfl) (by decide) (by simp) (by simp [skO, skD]) ?_
 have hc := o_15 4 [.int .u64 A0, .int .u64 B0, .ptr (arrD k a b l0) 0, .int .u64 A1, .int .u64 B1, .ptr (arrD k a b l1) 0, .int .u64 A2, .int .u64 B2, .ptr (arrD k a b l2) 0, .int .u64 A3, .int .u64 B3, .ptr (arrD k a b l3) 0] (by omega) rfl (by omega)
 have d0 := o_7 l0 hg (by omega) (by omega)
 have D0 : arrD k a b l0 = [.ptr [.sl (nwP C (wdR k a b)) ((wordsP (wdR k a b) (encs k a b l0)).map fun x : Nat => D.int .u64 x), .int .i64 C, .int .i64 (wdR k a b)] 0, .int .i64 k, .int .i64 a, .int .i64 b] := by simp [arrD, vecD, e0]
 have L0 : ((wordsP (wdR k a b) (encs k a b l0)).map fun x : Nat => D.int .u64 x).length = nwP C (wdR k a b) := by simp [e0]
 have u0 : u64s (wordsP (wdR k a b) (encs k a b l0)) = ((wordsP (wdR k a b) (encs k a b l0)).map fun x : Nat => D.int .u64 x).map V.d := by simp [u64s]
 have d1 := o_7 l1 hg (by omega) (by omega)
 have D1 : arrD k a b l1 = [.ptr [.sl (nwP C (wdR k a b)) ((wordsP (wdR k a b) (encs k a b l1)).map fun x : Nat => D.int .u64 x), .int .i64 C, .int .i64 (wdR k a b)] 0, .int .i64 k, .int .i64 a, .int .i64 b] := by simp [arrD, vecD, e1]
 have L1 : ((wordsP (wdR k a b) (encs k a b l1)).map fun x : Nat => D.int .u64 x).length = nwP C (wdR k a b) := by simp [e1]
 have u1 : u64s (wordsP (wdR k a b) (encs k a b l1)) = ((wordsP (wdR k a b) (encs k a b l1)).map fun x : Nat => D.int .u64 x).map V.d := by simp [u64s]
 have d2 := o_7 l2 hg (by omega) (by omega)
 have D2 : arrD k a b l2 = [.ptr [.sl (nwP C (wdR k a b)) ((wordsP (wdR k a b) (encs k a b l2)).map fun x : Nat => D.int .u64 x), .int .i64 C, .int .i64 (wdR k a b)] 0, .int .i64 k, .int .i64 a, .int .i64 b] := by simp [arrD, vecD, e2]
 have L2 : ((wordsP (wdR k a b) (encs k a b l2)).map fun x : Nat => D.int .u64 x).length = nwP C (wdR k a b) := by simp [e2]
 have u2 : u64s (wordsP (wdR k a b) (encs k a b l2)) = ((wordsP (wdR k a b) (encs k a b l2)).map fun x : Nat => D.int .u64 x).map V.d := by simp [u64s]
 have d3 := o_7 l3 hg (by omega) (by omega)
 have D3 : arrD k a b l3 = [.ptr [.sl (nwP C (wdR k a b)) ((wordsP (wdR k a b) (encs k a b l3)).map fun x : Nat => D.int .u64 x), .int .i64 C, .int .i64 (wdR k a b)] 0, .int .i64 k, .int .i64 a, .int .i64 b] := by simp [arrD, vecD, e3]
 have L3 : ((wordsP (wdR k a b) (encs k a b l3)).map fun x : Nat => D.int .u64 x).length = nwP C (wdR k a b) := by simp [e3]
 have u3 : u64s (wordsP (wdR k a b) (encs k a b l3)) = ((wordsP (wdR k a b) (encs k a b l3)).map fun x : Nat => D.int .u64 x).map V.d := by simp [u64s]
 simp only [o_t, skO, skD, rowsD, rowD, List.flatMap_cons, List.flatMap_nil, List.append_nil, List.cons_append, List.nil_append, List.map_cons, List.map_nil, List.length_cons, List.length_nil, arrO, arrV, arrB, vecO, vecB, e0, e1, e2, e3, D0, D1, D2, D3, u0, u1, u2, u3] at hc d0 d1 d2 d3 ⊢
 generalize ((wordsP (wdR k a b) (encs k a b l0)).map fun x : Nat => D.int .u64 x) = WD0 at *
 generalize ((wordsP (wdR k a b) (encs k a b l1)).map fun x : Nat => D.int .u64 x) = WD1 at *
 generalize ((wordsP (wdR k a b) (encs k a b l2)).map fun x : Nat => D.int .u64 x) = WD2 at *
 generalize ((wordsP (wdR k a b) (encs k a b l3)).map fun x : Nat => D.int .u64 x) = WD3 at *
 generalize nwP C (wdR k a b) = NW at *
 have t0 : WD0.take NW = WD0 := List.take_of_length_le (by omega)
 have t1 : WD1.take NW = WD1 := List.take_of_length_le (by omega)
 have t2 : WD2.take NW = WD2 := List.take_of_length_le (by omega)
 have t3 : WD3.take NW = WD3 := List.take_of_length_le (by omega)
 generalize wdR k a b = w at *
 clear D0 u0 D1 u1 D2 u2 D3 u3
 refine G0 ?_; try with_reducible exact tt
 refine CallS.g [] (hc) (R0 ?_); try with_reducible exact tt
 refine AW.rounds 5 ?_
 refine A00 ?_; try with_reducible exact tt
 refine CallS.g [] (d0) (R0 ?_); try with_reducible exact tt
 refine A00 ?_; try with_reducible exact tt
 refine CallS.g [] (d1) (R0 ?_); try with_reducible exact tt
 refine A00 ?_; try with_reducible exact tt
 refine CallS.g [] (d2) (R0 ?_); try with_reducible exact tt
 refine A00 ?_; try with_reducible exact tt
 refine CallS.g [] (d3) (R0 ?_); try with_reducible exact tt
 refine AW.freeze 6 1 ⟨28, WD0.map V.d⟩ WD0 (by simp) rfl ?_
 simp [frzH, t0]
 refine AW.freeze 5 1 ⟨218, [.d (.sl NW WD0), .d (.int .i64 C), .d (.int .i64 w)]⟩ [.sl NW WD0, .int .i64 C, .int .i64 w] (by rfl) rfl ?_
 simp [frzH]
 refine AW.freeze 4 1 ⟨166, [.d (.ptr [.sl NW WD0, .int .i64 C, .int .i64 w] 0), .d (.int .i64 k), .d (.int .i64 a), .d (.int .i64 b)]⟩ [.ptr [.sl NW WD0, .int .i64 C, .int .i64 w] 0, .int .i64 k, .int .i64 a, .int .i64 b] (by rfl) rfl ?_
 simp [frzH]
 refine AW.freeze 10 1 ⟨28, WD1.map V.d⟩ WD1 (by simp) rfl ?_
 simp [frzH, t1]
 refine AW.freeze 9 1 ⟨218, [.d (.sl NW WD1), .d (.int .i64 C), .d (.int .i64 w)]⟩ [.sl NW WD1, .int .i64 C, .int .i64 w] (by rfl) rfl ?_
 simp [frzH]
 refine AW.freeze 8 1 ⟨166, [.d (.ptr [.sl NW WD1, .int .i64 C, .int .i64 w] 0), .d (.int .i64 k), .d (.int .i64 a), .d (.int .i64 b)]⟩ [.ptr [.sl NW WD1, .int .i64 C, .int .i64 w] 0, .int .i64 k, .int .i64 a, .int .i64 b] (by rfl) rfl ?_
 simp [frzH]
 refine AW.freeze 14 1 ⟨28, WD2.map V.d⟩ WD2 (by simp) rfl ?_
 simp [frzH, t2]
 refine AW.freeze 13 1 ⟨218, [.d (.sl NW WD2), .d (.int .i64 C), .d (.int .i64 w)]⟩ [.sl NW WD2, .int .i64 C, .int .i64 w] (by rfl) rfl ?_
 simp [frzH]
 refine AW.freeze 12 1 ⟨166, [.d (.ptr [.sl NW WD2, .int .i64 C, .int .i64 w] 0), .d (.int .i64 k), .d (.int .i64 a), .d (.int .i64 b)]⟩ [.ptr [.sl NW WD2, .int .i64 C, .int .i64 w] 0, .int .i64 k, .int .i64 a, .int .i64 b] (by rfl) rfl ?_
 simp [frzH]
 refine AW.freeze 18 1 ⟨28, WD3.map V.d⟩ WD3 (by simp) rfl ?_
 simp [frzH, t3]
 refine AW.freeze 17 1 ⟨218, [.d (.sl NW WD3), .d (.int .i64 C), .d (.int .i64 w)]⟩ [.sl NW WD3, .int .i64 C, .int .i64 w] (by rfl) rfl ?_
 simp [frzH]
 refine AW.freeze 16 1 ⟨166, [.d (.ptr [.sl NW WD3, .int .i64 C, .int .i64 w] 0), .d (.int .i64 k), .d (.int .i64 a), .d (.int .i64 b)]⟩ [.ptr [.sl NW WD3, .int .i64 C, .int .i64 w] 0, .int .i64 k, .int .i64 a, .int .i64 b] (by rfl) rfl ?_
 simp [frzH]
 refine AW.freeze 2 3 ⟨111, [.int .u64 A0, .int .u64 B0, .ptr [.ptr [.sl NW WD0, .int .i64 C, .int .i64 w] 0, .int .i64 k, .int .i64 a, .int .i64 b] 0, .int .u64 A1, .int .u64 B1, .ptr [.ptr [.sl NW WD1, .int .i64 C, .int .i64 w] 0, .int .i64 k, .int .i64 a, .int .i64 b] 0, .int .u64 A2, .int .u64 B2, .ptr [.ptr [.sl NW WD2, .int .i64 C, .int .i64 w] 0, .int .i64 k, .int .i64 a, .int .i64 b] 0, .int .u64 A3, .int .u64 B3, .ptr [.ptr [.sl NW WD3, .int .i64 C, .int .i64 w] 0, .int .i64 k, .int .i64 a, .int .i64 b] 0].map V.d⟩ [.int .u64 A0, .int .u64 B0, .ptr [.ptr [.sl NW WD0, .int .i64 C, .int .i64 w] 0, .int .i64 k, .int .i64 a, .int .i64 b] 0, .int .u64 A1, .int .u64 B1, .ptr [.ptr [.sl NW WD1, .int .i64 C, .int .i64 w] 0, .int .i64 k, .int .i64 a, .int .i64 b] 0, .int .u64 A2, .int .u64 B2, .ptr [.ptr [.sl NW WD2, .int .i64 C, .int .i64 w] 0, .int .i64 k, .int .i64 a, .int .i64 b] 0, .int .u64 A3, .int .u64 B3, .ptr [.ptr [.sl NW WD3, .int .i64 C, .int .i64 w] 0, .int .i64 k, .int .i64 a, .int .i64 b] 0] (by rfl) rfl ?_
 simp [frzH]
 refine A00 ?_; try with_reducible exact tt

theorem o_jj {R C k a b T : Nat} (hg : GoodR k a b) (g1 : 1 ≤ C) (g2 : C ≤ 64) (rs : List Rw) (hR : rs.length = R) (h1 : 1 ≤ R) (h4 : R ≤ 4) (hr : ∀ r ∈ rs, GoodRow C k a b r) :
  Eqn Tryz.prog o_o [.p 0 0] [skO R C k a b rs T] (.p 1 0) [skO R C k a b rs T, skO R C k a b rs T] := by
 subst hR
 match rs, h1, h4, hr with
 | [⟨A0, B0, l0⟩], _, _, hr => exact o_vk hg g1 g2 A0 B0 l0 (hr _ (by simp))
 | [⟨A0, B0, l0⟩, ⟨A1, B1, l1⟩], _, _, hr => exact o_vl hg g1 g2 A0 B0 A1 B1 l0 l1 (hr _ (by simp)) (hr _ (by simp))
 | [⟨A0, B0, l0⟩, ⟨A1, B1, l1⟩, ⟨A2, B2, l2⟩], _, _, hr => exact o_vm hg g1 g2 A0 B0 A1 B1 A2 B2 l0 l1 l2 (hr _ (by simp)) (hr _ (by simp)) (hr _ (by simp))
 | [⟨A0, B0, l0⟩, ⟨A1, B1, l1⟩, ⟨A2, B2, l2⟩, ⟨A3, B3, l3⟩], _, _, hr => exact o_vn hg g1 g2 A0 B0 A1 B1 A2 B2 A3 B3 l0 l1 l2 l3 (hr _ (by simp)) (hr _ (by simp)) (hr _ (by simp)) (hr _ (by simp))
end
end Go.Proofs.YtijbgbpjionfjaaGreatDoor.Am
namespace Go.Proofs.YtijbgbpjionfjaaGreatDoor.Am
section
open Go.RowKit
theorem o_vo {a w : Nat} (h : GoodC 2 a w) (x : Nat) (hx : x ≤ 2 ^ w - 1) : Eqn Tryz.prog o_c6 [.d (parD 2 a w), .d (.int .i64 x)] [] (.tup [.d (rD ((valF a x : Nat) : Rat)), .d (.int .i64 0)]) [] := by
 refine Eqn.pure o_me Plain.ok ?_
 have hat := o_hu ((2 : Nat) : Int) a w h.2.2 x (by omega) (by omega) (o_2q h)
 have hkd := o_1u ((2 : Nat) : Int) a w
 have h10 : 2 ^ w ≤ 2 ^ 10 := Nat.pow_le_pow_right (by omega) h.2.2
 obtain ⟨hc, -⟩ := h
 have a1 : a ≤ 8 := by omega
 have hv := o_uo a x a1 (by omega)
 simp only [o_c7, parD] at hat ⊢
 rw [show kindD ((2 : Nat) : Int) a = .ifc 246 (.int .i64 a) from rfl] at hkd
 generalize ((valF a x : Nat) : Rat) = v at *
 simp only [rD] at hv ⊢
 refine G0 ?_; try with_reducible exact tt
 refine CallS.pf 2 1 ⟨3, _⟩ [.int .i64 x] (hat) (by first | rfl | (simp; done)) (R0 ?_); try with_reducible exact tt
 refine AW.cond rfl (fun h => ?_) (fun h => ?_)
 ·simp at h
 refine G0 ?_; try with_reducible exact tt
 refine CallS.pu (hkd) (R0 ?_); try with_reducible exact tt
 refine ⟨_, o_un, ?_⟩
 refine CallS.pu (hv) (R0 ?_); try with_reducible exact tt
theorem o_vp {a b y : Nat} {f : Bool} (h : GoodR 2 a b) (hw : WellR 2 a b y 0 f) : Eqn Tryz.prog o_ax [.d (parD 2 a b), .d (tsD y 0 f)] [] (.tup [.d (rD ((valF a y : Nat) : Rat)), .d (.int .i64 0)]) [] := by
 refine Eqn.pure o_lq Plain.ok ?_
 have hwr := o_84 h hw
 replace h : GoodC 2 a b := by
  rcases h with ⟨h, -⟩ | ⟨-, h⟩
  ·exact absurd h (by decide)
  ·exact h
 have hy : y ≤ 2 ^ b - 1 := by
  rcases hw with ⟨h, -⟩ | ⟨-, -, h, -⟩
  ·exact absurd h (by decide)
  ·exact h
 have h1 := o_2r ((2 : Nat) : Int) a b
 have h3 := o_vo h y hy
 generalize ((valF a y : Nat) : Rat) = q at *
 simp only [o_ay, parD, tsD, rD] at hwr h1 h3 ⊢
 refine G0B ?_; try with_reducible exact tt
 refine CallS.pf 3 3 ⟨64, _⟩ [.int .i64 y, .int .i64 (0 : Nat), .bool f] (hwr) (by first | rfl | (simp [-Bool.exists_bool]; done)) (R0B ?_); try with_reducible exact tt
 refine AW.cond rfl (fun h => ?_) (fun h => ?_)
 ·simp at h
 refine G0B ?_; try with_reducible exact tt
 refine AW.cond rfl (fun h => ?_) (fun h => ?_)
 ·simp at h
 ·refine G0B ?_; try with_reducible exact tt
  refine CallS.pu (h1) (R0B ?_); try with_reducible exact tt
  refine CallS.pu (h3) (R0B ?_); try with_reducible exact tt
theorem o_vq (n : Nat) (h : n < 100) : Eqn Tryz.prog o_ap [.d (rD ((n : Nat) : Rat))] [] (.d (.str (smallS n))) [] := by
 refine Eqn.pure o_lm Plain.ok ?_
 have h1 := o_he n h
 have hz := o_11 0
 have e : rD ((n : Nat) : Rat) = .agg [natW n, .bool false, natW 0] := by
  unfold rD
  rw [Rat.num_natCast, Rat.den_natCast, Int.natAbs_natCast]
  congr 4
 rw [e]
 simp only [o_aq]
 have hwh : Eqn Tryz.prog o_br [.d (.agg [natW n, .bool false, natW 0])] [] (.d (.bool true)) [] := by
  refine Eqn.pure o_m7 Plain.ok ?_
  simp only [o_bs]
  refine A01 hz ?_; try with_reducible exact tt
 refine A02 hwh h1 ?_; try with_reducible exact tt
theorem o_vr {a b T : Nat} (h : GoodR 2 a b) (y : Nat) (hw : WellR 2 a b y 0 false) (key : Nat) (hk : key < hP) :
  Eqn Tryz.prog o_ah [.p 0 0, .d (.int .u64 key)] [skO 1 1 2 a b [⟨1, 0, [(y, 0, false)]⟩] T] (.tup [.d (rD ((valF a y : Nat) : Rat)), .d (.int .i64 0)]) [skO 1 1 2 a b [⟨1, 0, [(y, 0, false)]⟩] T] := by
 refine Eqn.gen [0] o_li (by simp) (by simp) (by rfl) (by decide) (by simp) (by simp [skO, skD]) ?_
 have hof := o_l 1 0 key 1 (by decide) (by decide) hk (by omega) (by omega)
 rw [Nat.mod_one] at hof
 have hget := o_4o [(y, 0, false)] 0 h (by intro s hs; simp at hs; subst hs; exact hw) (by simp) (by simp)
 have hval := o_vp h hw
 simp only [o_ai, skO, skD, rowsD, rowD, List.map_cons, List.map_nil, List.flatMap_cons, List.flatMap_nil, List.append_nil, List.length_cons, List.length_nil, hD, tsD, parD, List.getD_cons_zero] at hof hget hval ⊢
 generalize ((valF a y : Nat) : Rat) = q at *
 simp only [rD] at hval ⊢
 generalize arrD 2 a b [(y, 0, false)] = AD at *
 refine G0 ?_; try with_reducible exact tt
 refine AW.rounds 2 ?_
 refine A03 hof hget hval ?_; try with_reducible exact tt
set_option maxHeartbeats 1000000 in
theorem o_vs : Eqn Tryz.prog o_a7 [] [] (.d (.bool true)) [] := by
 refine Eqn.pure o_lc Plain.ok ?_
 have hg : GoodR 2 3 4 := .inr ⟨by omega, .inr (.inl ⟨rfl, by omega⟩), by omega, by omega⟩
 have hP1 : GoodP 1 1 2 3 4 := ⟨by omega, by omega, by omega, by omega, hg⟩
 have hw := o_8f hP1 [(1, 0)] rfl (by simp [hP])
 have hc : ∀ key, colOf 1 1 0 key = 0 := fun key => Nat.mod_one _
 have hr0 : GoodRow 1 2 3 4 ⟨1, 0, [(0, 0, false)]⟩ := ⟨by decide, by decide, rfl, o_iu hg 1⟩
 have hr1 : GoodRow 1 2 3 4 ⟨1, 0, [(3, 0, false)]⟩ := ⟨by decide, by decide, rfl, by intro s hs; simp at hs; subst hs; exact .inr ⟨by omega, rfl, by simp, by simp⟩⟩
 have hr2 : GoodRow 1 2 3 4 ⟨1, 0, [(5, 0, false)]⟩ := ⟨by decide, by decide, rfl, by intro s hs; simp at hs; subst hs; exact .inr ⟨by omega, rfl, by simp, by simp⟩⟩
 have hu1 := o_8g (T := 0) hg (by omega) (by omega) 1 0 [(0, 0, false)] hr0 [] 5 3 0 false (by decide) (by omega) (by omega) (Nat.le_refl _) (by simp) ⟨0, 3, 0, false, 0, false⟩ (by rw [hc]; kernel_rfl)
 have hu2 := o_8g (T := 3) hg (by omega) (by omega) 1 0 [(3, 0, false)] hr1 [] 9 2 0 false (by decide) (by omega) (by omega) (Nat.le_refl _) (by simp) ⟨0, 5, 0, false, 0, false⟩ (by rw [hc]; kernel_rfl)
 have hq := o_vr (T := 5) hg 5 (.inr ⟨by omega, rfl, by simp, by simp⟩) 77 (by decide)
 rw [show valF 3 5 = 5 from rfl] at hq
 have htx := o_he 5 (by omega)
 have hnw : Eqn Tryz.prog o_1o [.d .nilsl] [] (.p 0 0) [tapeO [] 0 false] := by
  have := o_3z [] (by simp)
  exact this.sub (Subs.cons Sub1.nil (Subs.refl _))
 have htot := o_4u (R := 1) (C := 1) (k := 2) (a := 3) (b := 4) (T := 5) [⟨1, 0, [(5, 0, false)]⟩]
 rw [show ([(1, 0)] : List (Nat × Nat)).map (newRow 1) = [⟨1, 0, [(0, 0, false)]⟩] from rfl] at hw
 simp only [o_a8, cpD, hashesD, skO, skD, rowsD, rowD, List.map_cons, List.map_nil, List.flatMap_cons, List.flatMap_nil, List.append_nil, List.length_cons, List.length_nil, if_true, List.set_cons_zero, hc] at hw hu1 hu2 hq htot ⊢
 have hrt := o_vq 5 (by omega)
 generalize arrD 2 3 4 [(0, 0, false)] = AD0 at *
 generalize arrD 2 3 4 [(3, 0, false)] = AD3 at *
 generalize arrD 2 3 4 [(5, 0, false)] = AD5 at *
 generalize ((5 : Nat) : Rat) = q5 at *
 simp only [rD] at hq hrt
 refine G0 ?_; try with_reducible exact tt
 refine CallS.gf 0 2 ⟨62, [.d (.int .u64 (1 : Nat)), .d (.int .u64 (0 : Nat))]⟩ [.int .u64 (1 : Nat), .int .u64 (0 : Nat)] [] (hw) (R0 ?_); try with_reducible exact tt
 refine CallS.n1 (hnw) (R0 ?_); try with_reducible exact tt
 refine CallS.g [1, 2] (hu1) (R0 ?_); try with_reducible exact tt
 refine CallS.n1 (hnw) (R0 ?_); try with_reducible exact tt
 refine CallS.g [1, 3] (hu2) (R0 ?_); try with_reducible exact tt
 refine A00 ?_; try with_reducible exact tt
 refine CallS.g [1] (hq) (R0 ?_); try with_reducible exact tt
 have hs5 : (smallS 5).toList = [53] := by kernel_rfl
 refine A11 hs5 hrt ?_; try with_reducible exact tt
 refine CallS.g [1] (htot) (R0 ?_); try with_reducible exact tt
end
end Go.Proofs.YtijbgbpjionfjaaGreatDoor.Am
namespace Go.Proofs.YtijbgbpjionfjaaGreatDoor.Am
section
open Go.RowKit
set_option maxHeartbeats 8000000 in
theorem o_vt (r c k a b : Int) (ws : List Nat) (us vs : List (Nat × Int)) (cs : List Bool) (hws : ws.length ≤ 9223372036854775807) (hus : us.length ≤ 9223372036854775807) (hvs : vs.length ≤ 9223372036854775807) (hku : ∀ u ∈ us, u.1 < 18446744073709551616) (hkv : ∀ u ∈ vs, u.1 < 18446744073709551616) (hn : cs.length ≤ 9223372036854775807) :
  Eqn Tryz.prog o_5m [.d (drD r c k a b ws), .d (.agg [.sl us.length (updD us), .sl vs.length (updD vs)]), .d (BL cs)] [] (.d (.bool true)) [] := by
 refine Eqn.pure o_a6 Plain.ok ?_
 obtain ⟨R, C, K, A, B, hgp, hR0, hpar⟩ := o_uv r c k a b ws
 have hfew := o_rl cs 400 hn (by omega)
 have hx : (cs.take 400).length ≤ 400 := by rw [List.length_take]; omega
 generalize cs.take 400 = xs at hfew hx
 obtain ⟨q, hq⟩ : ∃ q, q = xs.length / 3 := ⟨_, rfl⟩
 have e3 : (xs.length : Int).tdiv 3 = (q : Int) := by rw [Int.tdiv_eq_ediv_of_nonneg (by omega)]; omega
 have q3 : 2 * q ≤ xs.length := by omega
 have e4 : IntKind.i64.wrap (2 * (q : Int)) = ((2 * q : Nat) : Int) := by rw [w64 (by omega) (by omega)]; omega
 clear hq
 simp only [o_a5, drD, BL] at hfew ⊢
 generalize hWD : (ws.map fun x : Nat => D.int .u64 x) = WD at *
 refine A12B (fs e3 e4) o_vs hfew ?_; try with_reducible exact tt
 have hn1 : Eqn Tryz.prog o_1o [.d (.sl q (List.take q (xs.map D.bool)))] [] (.p 0 0) [tapeO (xs.take q) 0 false] := by
  have := o_3z (xs.take q) (by rw [List.length_take]; omega)
  unfold BL at this
  rwa [List.length_take, Nat.min_eq_left (by omega), List.map_take] at this
 obtain ⟨S1, hS1⟩ : ∃ S, S = bldM (xs.take q) C K A B us ((drawH ws R).map (newRow C)) (min 12 us.length) := ⟨_, rfl⟩
 have hb1 := o_ji r c k a b ws us (xs.take q) hws hus hku (by rw [List.length_take]; omega) hgp hR0 hpar S1 hS1
 refine CallS.n1 (hn1) (R0B ?_); try with_reducible exact tt
 have e5 : (2 * (q : Int)).toNat = 2 * q := by omega
 have e6 : 2 * q - q = q := by omega
 have hn2 : Eqn Tryz.prog o_1o [.d (.sl q (List.take q (List.drop q (xs.map D.bool))))] [] (.p 0 0) [tapeO ((xs.drop q).take q) 0 false] := by
  have := o_3z ((xs.drop q).take q) (by rw [List.length_take]; omega)
  unfold BL at this
  rwa [List.length_take, Nat.min_eq_left (by rw [List.length_drop]; omega), List.map_take, List.map_drop] at this
 obtain ⟨S2, hS2⟩ : ∃ S, S = bldM ((xs.drop q).take q) C K A B vs ((drawH ws R).map (newRow C)) (min 12 vs.length) := ⟨_, rfl⟩
 have hb2 := o_ji r c k a b ws vs ((xs.drop q).take q) hws hvs hkv (by rw [List.length_take]; omega) hgp hR0 hpar S2 hS2
 have hlt := o_j3 ws hgp.2.1
 have hlen : (drawH ws R).length = R := by simp [drawH]
 obtain ⟨hr1, hr4, hC1, hC64, hg⟩ := hgp
 have hgd : ∀ r ∈ (drawH ws R).map (newRow C), GoodRow C K A B r := by
  intro x hx
  obtain ⟨y, hy, rfl⟩ := List.mem_map.1 hx
  exact o_8o hg y (hlt y hy)
 have hl0 : ((drawH ws R).map (newRow C)).length = R := by simp [hlen]
 obtain ⟨k1, k2, k3, k4, -⟩ := o_50 (cs := xs.take q) (us := us) hg hC1 (by rw [List.length_take]; omega) hgd (min 12 us.length) (by omega)
 obtain ⟨m1, m2, m3, m4, -⟩ := o_50 (cs := (xs.drop q).take q) (us := vs) hg hC1 (by rw [List.length_take]; omega) hgd (min 12 vs.length) (by omega)
 rw [← hS1] at k1 k2 k3 k4
 rw [← hS2] at m1 m2 m3 m4
 replace k1 := k1.trans hl0
 replace m1 := m1.trans hl0
 have hsame := k3.trans m3.symm
 clear hS1 hS2 hgd hlt hl0
 simp only [drD, hWD, skO, skD, List.map_cons, List.map_nil, k1, m1] at hb1 hb2
 have hp := o_vh (R := R) (C := C) (k := K) (a := A) (b := B) (T := S1.T) S1.rs
 have hc1 := o_jj (T := S1.T) hg hC1 hC64 S1.rs k1 hr1 hr4 k2
 have hc2 := o_jj (T := S2.T) hg hC1 hC64 S2.rs m1 hr1 hr4 m2
 simp only [cpD, skO, skD, List.map_cons, List.map_nil, k1, m1] at hp hc1 hc2
 obtain ⟨rs1, T1, P1, G1⟩ := S1
 obtain ⟨rs2, T2, P2, G2⟩ := S2
 simp only at k1 k2 k3 k4 m1 m2 m3 m4 hsame hb1 hb2 hp hc1 hc2
 refine CallS.g [2] (hb1) (R1B (fs e3 (fs e4 (fs e5 e6))) ?_); try with_reducible exact tt
 refine CallS.n1 (hn2) (R0B ?_); try with_reducible exact tt
 refine CallS.g [4] (hb2) (R1B (fs e3 (fs e4 (fs e5 e6))) ?_); try with_reducible exact tt
 refine A00B ?_; try with_reducible exact tt
 refine CallS.g [3] (hp) (R0B ?_); try with_reducible exact tt
 refine CallS.g [3] (hc1) (R0B ?_); try with_reducible exact tt
 refine CallS.g [5] (hc2) (R1B (fs e3 (fs e4 (fs e5 e6))) ?_); try with_reducible exact tt
 obtain ⟨zs, hzs⟩ : ∃ zs, zs = xs.drop (2 * q) := ⟨_, rfl⟩
 have hzl : zs.length ≤ 400 := by rw [hzs, List.length_drop]; omega
 have e7 : ((xs.length : Int) - 2 * (q : Int)).toNat = zs.length := by rw [hzs, List.length_drop]; omega
 have hn3 : Eqn Tryz.prog o_1o [.d (.sl ((xs.length : Int) - 2 * (q : Int)).toNat (List.take ((xs.length : Int) - 2 * (q : Int)).toNat (List.drop (2 * q) (xs.map D.bool))))] [] (.p 0 0) [tapeO zs 0 false] := by
  have := o_3z zs (by omega)
  rw [e7, ← List.map_drop, ← hzs, List.take_of_length_le (by simp)]
  exact this
 refine CallS.n1 (hn3) (R0B ?_); try with_reducible exact tt
 refine CallS.n1 (hn3) (R0B ?_); try with_reducible exact tt
 clear hn1 hn2 hn3 hb1 hb2 hp hc1 hc2
 obtain ⟨Z, hZ⟩ : ∃ Z, Z = mrgM zs C K A B rs1 rs2 0 false := ⟨_, rfl⟩
 have hmg := o_vf (T := T1) (T2 := T2) hg hC1 hC64 rs1 rs2 k1 (k1.trans m1.symm) hr1 hr4 k2 m2 hsame zs 0 false (by omega) (Nat.zero_le _) (by omega) Z hZ
 have hle := o_8k (cs := zs) (p := 0) (d := false) hg k2 m2 (k1.trans m1.symm) (Nat.zero_le _)
 by_cases he : Z.e = 0
 ·have hok := o_8j (cs := zs) (C := C) (k := K) (a := A) (b := B) rs1 rs2 0 false (k1.trans m1.symm) (by rw [← hZ]; exact he)
  have hgo := o_vd (cs := zs) (C := C) (k := K) (a := A) (b := B) (p := 0) (d := false) hg k2 m2 (k1.trans m1.symm) (Nat.zero_le _) (by rw [← hZ]; exact he)
  rw [← hZ] at hok hgo
  obtain ⟨o1, o2, o3⟩ := hok
  obtain ⟨g1, g2⟩ := hgo
  replace o1 := o1.trans k1
  simp only [if_pos he, he, skO, skD, List.map_cons, List.map_nil, k1, m1, o1] at hmg
  refine CallS.g [3, 9, 5] (hmg) (R0B ?_); try with_reducible exact tt
  refine A00B ?_; try with_reducible exact tt
  refine AW.loopT (α := Nat) 11 (fun i => [(82, .d (.int .i64 (i : Int)))]) (fun i => [(10, tapeO zs (rowP zs C K A B rs1 rs2 0 false i).1 (rowP zs C K A B rs1 rs2 0 false i).2)]) (fun i => i ≤ R ∧ ∀ j, j < i → (rowZ zs C K A B rs1 rs2 0 false j).e = 0) (fun i => R - i) 0 ?_ ?_ ⟨Nat.zero_le _, by omega⟩ ?_ ?_ ?_
  ·simp
  ·simp
  ·simp
  ·simp [-Bool.exists_bool]
  rintro r ⟨hr, hout⟩
  simp [-Bool.exists_bool]
  by_cases hrR : r < R
  ·have hr1' : (r : Int) < R := by omega
   have hPl := hle r (by omega)
   obtain ⟨a1, b1, c1, w1⟩ := k2 rs1[r] (List.getElem_mem _)
   obtain ⟨a2, b2, c2, w2⟩ := m2 rs2[r] (List.getElem_mem _)
   have hrz : rowZ zs C K A B rs1 rs2 0 false r = mergeUp zs K A B rs1[r].l rs2[r].l (rowP zs C K A B rs1 rs2 0 false r).1 (rowP zs C K A B rs1 rs2 0 false r).2 C := by
    unfold rowZ
    rw [List.getD_eq_getElem?_getD, List.getD_eq_getElem?_getD, List.getElem?_eq_getElem (show r < rs1.length by omega), List.getElem?_eq_getElem (show r < rs2.length by omega)]
    rfl
   have hrn := o_4y (cs := zs) (C := C) (k := K) (a := A) (b := B) rs1 rs2 0 false r (by omega) (by omega)
   have ewr : IntKind.i64.wrap ((r : Int) + 1) = ((r + 1 : Nat) : Int) := by rw [w64 (by omega) (by omega)]; omega
   refine A10B (fs hrR hr1') ?_; try with_reducible exact tt
   refine AW.loopT (α := Nat) 11 (fun i => [(87, .d (.int .i64 (i : Int)))]) (fun i => [(10, tapeO zs (mergeUp zs K A B rs1[r].l rs2[r].l (rowP zs C K A B rs1 rs2 0 false r).1 (rowP zs C K A B rs1 rs2 0 false r).2 i).p (mergeUp zs K A B rs1[r].l rs2[r].l (rowP zs C K A B rs1 rs2 0 false r).1 (rowP zs C K A B rs1 rs2 0 false r).2 i).d)]) (fun i => i ≤ C ∧ (mergeUp zs K A B rs1[r].l rs2[r].l (rowP zs C K A B rs1 rs2 0 false r).1 (rowP zs C K A B rs1 rs2 0 false r).2 i).e = 0) (fun i => C - i) 0 ?_ ?_ ⟨Nat.zero_le _, rfl⟩ ?_ ?_ ?_
   ·simp
   ·simp
   ·simp
   ·simp [mergeUp, -Bool.exists_bool]
   rintro j ⟨hj, hje⟩
   simp [-Bool.exists_bool]
   have hx1 := o_22 (R := R) (C := C) (k := K) (a := A) (b := B) (T := T1) hg rs1 hC64 r j (by omega) (by omega) ⟨a1, b1, c1, w1⟩
   have hx2 := o_22 (R := R) (C := C) (k := K) (a := A) (b := B) (T := T2) hg rs2 hC64 r j (by omega) (by omega) ⟨a2, b2, c2, w2⟩
   by_cases hjC : j < C
   ·have hjC' : (j : Int) < C := by omega
    replace hx1 := hx1 hjC
    replace hx2 := hx2 hjC
    have hmw := (o_8 (d := (rowP zs C K A B rs1 rs2 0 false r).2) hg w1 w2 hPl j (by omega) (by omega)).1
    have hnx := o_4z hje
    have hwl := o_5 w1 (show j < rs1[r].l.length by omega)
    have hwm := o_5 w2 (show j < rs2[r].l.length by omega)
    have hrm := o_4a zs K A B _ _ _ _ _ _ _ _ hg hwl hwm hmw (by omega) _ (show cellR zs K A B rs1[r].l rs2[r].l (rowP zs C K A B rs1 rs2 0 false r).1 (rowP zs C K A B rs1 rs2 0 false r).2 j = _ from rfl)
    have ewj : IntKind.i64.wrap ((j : Int) + 1) = ((j + 1 : Nat) : Int) := by rw [w64 (by omega) (by omega)]; omega
    simp only [skO, skD, List.map_cons, List.map_nil, k1, m1, tsD, parD, stR] at hx1 hx2 hrm
    have hz0 := (o3 r (by omega)).1
    rw [hrz] at hz0
    obtain ⟨-, hce, hgt⟩ := o_ve hg w1 w2 hPl (by omega) (by omega) hjC hz0
    have hcell : (Z.rs[r]'(by omega)).l.getD j (0, 0, false) = ((cellR zs K A B rs1[r].l rs2[r].l (rowP zs C K A B rs1 rs2 0 false r).1 (rowP zs C K A B rs1 rs2 0 false r).2 j).y, (cellR zs K A B rs1[r].l rs2[r].l (rowP zs C K A B rs1 rs2 0 false r).1 (rowP zs C K A B rs1 rs2 0 false r).2 j).t, (cellR zs K A B rs1[r].l rs2[r].l (rowP zs C K A B rs1 rs2 0 false r).1 (rowP zs C K A B rs1 rs2 0 false r).2 j).f) := by
     have := (o3 r (by omega)).2
     rw [List.getD_eq_getElem?_getD, List.getElem?_eq_getElem (show r < Z.rs.length by omega), Option.getD_some] at this
     rw [this, hrz]
     exact hgt
    have hx3 := o_22 (R := R) (C := C) (k := K) (a := A) (b := B) (T := T1 + T2) hg Z.rs hC64 r j (by omega) (by omega) (g1 _ (List.getElem_mem _)) hjC
    rw [hcell] at hx3
    rw [if_pos hce] at hnx
    simp only [skO, skD, List.map_cons, List.map_nil, o1, tsD] at hx3
    clear hcell hgt hz0 o3 hout hje
    generalize cellR zs K A B rs1[r].l rs2[r].l (rowP zs C K A B rs1 rs2 0 false r).1 (rowP zs C K A B rs1 rs2 0 false r).2 j = Q at *
    have hne : (mergeUp zs K A B rs1[r].l rs2[r].l (rowP zs C K A B rs1 rs2 0 false r).1 (rowP zs C K A B rs1 rs2 0 false r).2 (j + 1)).e = 0 := by rw [hnx]
    have hnp : (mergeUp zs K A B rs1[r].l rs2[r].l (rowP zs C K A B rs1 rs2 0 false r).1 (rowP zs C K A B rs1 rs2 0 false r).2 (j + 1)).p = Q.p := by rw [hnx]
    have hnd : (mergeUp zs K A B rs1[r].l rs2[r].l (rowP zs C K A B rs1 rs2 0 false r).1 (rowP zs C K A B rs1 rs2 0 false r).2 (j + 1)).d = Q.d := by rw [hnx]
    clear hnx
    obtain ⟨Qe, Qy, Qt, Qf, Qp, Qd⟩ := Q
    simp only at hce hx3 hrm hnp hnd
    subst hce
    simp only [if_true] at hrm
    generalize rs1[r].l.getD j (0, 0, false) = X1 at *
    generalize rs2[r].l.getD j (0, 0, false) = X2 at *
    obtain ⟨x1, x2, x3⟩ := X1
    obtain ⟨y1, y2, y3⟩ := X2
    simp only at hx1 hx2 hrm
    refine A10B (fs hjC hjC') ?_; try with_reducible exact tt
    refine CallS.g [7] (hx1) (R0B ?_); try with_reducible exact tt
    refine A00B ?_; try with_reducible exact tt
    refine CallS.g [8] (hx2) (R0B ?_); try with_reducible exact tt
    refine A00B ?_; try with_reducible exact tt
    refine CallS.o1 10 (hrm) (R0B ?_); try with_reducible exact tt
    refine A00B ?_; try with_reducible exact tt
    refine CallS.g [3] (hx3) (R0B ?_); try with_reducible exact tt
    refine A10B ewj ?_; try with_reducible exact tt
    exact ⟨j + 1, ⟨by omega, hne⟩, by omega, Sub1.int (by omega), Subs.of (by simp [hnp, hnd, -Bool.exists_bool])⟩
   ·have h2 : j = C := by omega
    subst h2
    rw [← hrz] at hje ⊢
    clear hx1 hx2 hmg
    refine A10B ewr ?_; try with_reducible exact tt
    refine ⟨r + 1, ⟨by omega, fun i hi => ?_⟩, by omega, Sub1.int (by omega), Subs.of (by simp [hrn, -Bool.exists_bool])⟩
    by_cases hir : i = r
    ·rw [hir]; exact hje
    ·exact hout i (by omega)
  ·have h2 : r = R := by omega
   subst h2
   rw [← k1, ← o2]
   simp only
   rw [k1]
   have hsh := o_8h (R := r) (C := C) (k := K) (a := A) (b := B) (T := T1 + T2) Z.rs (by omega) (by omega)
   rw [g2] at hsh
   have hrw : ∀ x ∈ rs1.map (fun r => (r.a, r.b)), x.1 < hP ∧ x.2 < hP := by
    intro x hx
    obtain ⟨y, hy, rfl⟩ := List.mem_map.1 hx
    exact ⟨(k2 y hy).1, (k2 y hy).2.1⟩
   have hhl : (rs1.map fun r => (r.a, r.b)).length = r := by simp [k1]
   obtain ⟨X, Y, tl, htl⟩ : ∃ X Y tl, (rs1.map fun r => (r.a, r.b)) = (X, Y) :: tl := by
    cases h : rs1.map fun r => (r.a, r.b) with
    | nil => rw [h] at hhl; simp at hhl; omega
    | cons x tl => exact ⟨x.1, x.2, tl, rfl⟩
   rw [htl] at hsh hrw hhl g2
   obtain ⟨hX, hY⟩ := hrw _ (List.mem_cons_self)
   simp only at hX hY
   have hY' : (Y + 1) % hP < hP := Nat.mod_lt _ (by decide)
   have hYne : (Y + 1) % hP ≠ Y := by unfold hP at hY ⊢; omega
   have ey1 : IntKind.u64.wrap ((Y : Int) + 1) = ((Y + 1 : Nat) : Int) := by unfold hP at hY; rw [IntKind.wrap_u64]; omega
   have ey2 : ((Y : Int) + 1).tmod 2305843009213693951 = (((Y + 1) % hP : Nat) : Int) := by rw [Int.tmod_eq_emod_of_nonneg (by omega)]; unfold hP; omega
   generalize (Y + 1) % hP = Y2 at *
   have hw := o_8f (R := r) (C := C) (k := K) (a := A) (b := B) ⟨hr1, hr4, hC1, hC64, hg⟩ ((X, Y2) :: tl) (by simpa using hhl) (by
    intro x hx
    rcases List.mem_cons.1 hx with rfl | hx
    ·exact ⟨hX, hY'⟩
    ·exact hrw x (List.mem_cons_of_mem _ hx))
   have hzr : ∀ x ∈ ((X, Y2) :: tl).map (newRow C), GoodRow C K A B x := by
    intro x hx
    obtain ⟨y, hy, rfl⟩ := List.mem_map.1 hx
    refine o_8o hg y ?_
    rcases List.mem_cons.1 hy with rfl | hy
    ·exact ⟨hX, hY'⟩
    ·exact hrw y (List.mem_cons_of_mem _ hy)
   have hzl' : (((X, Y2) :: tl).map (newRow C)).length = r := by simpa using hhl
   have hzh : (((X, Y2) :: tl).map (newRow C)).map (fun r => (r.a, r.b)) = (X, Y2) :: tl := by rw [List.map_map]; simp [newRow, Function.comp_def]
   generalize ((X, Y2) :: tl).map (newRow C) = zr at *
   have hno := o_vg (R := r) (C := C) (k := K) (a := A) (b := B) (T := T1 + T2) (T2 := 0) Z.rs zr (by omega) (by omega) (by omega) (by omega) (by rw [g2, hzh]; intro h; simp at h; exact hYne h.symm) zs Z.p Z.d
   have hs1 := o_4w (R := r) (C := C) (k := K) (a := A) (b := B) (T := T2) (V := T2) rs2 rs2 hg hC1 hC64 m2 m2 (by omega) (by omega) rfl
   rw [decide_eq_true (show rs2 = rs2 ∧ T2 = T2 from ⟨rfl, rfl⟩)] at hs1
   have hs2 := o_4w (R := r) (C := C) (k := K) (a := A) (b := B) (T := T1 + T2) (V := 0) Z.rs zr hg hC1 hC64 g1 hzr (by omega) (by omega) (by omega)
   rw [decide_eq_false (show ¬ (Z.rs = zr ∧ T1 + T2 = 0) from fun h => by have h3 := h.1; rw [h3, hzh] at g2; simp at g2; exact hYne g2)] at hs2
   have ht1 := o_4u (R := r) (C := C) (k := K) (a := A) (b := B) (T := T1 + T2) Z.rs
   have ht2 := o_4u (R := r) (C := C) (k := K) (a := A) (b := B) (T := T1) rs1
   have ht3 := o_4u (R := r) (C := C) (k := K) (a := A) (b := B) (T := T2) rs2
   have et : IntKind.i64.wrap ((T1 : Int) + T2) = ((T1 + T2 : Nat) : Int) := by rw [w64 (by omega) (by omega)]; omega
   simp only [skO, skD, List.map_cons, List.map_nil, k1, m1, o1, hzl', cpD] at hsh hw hno hs1 hs2 ht1 ht2 ht3
   have hfl := o_2v ((X, Y2) :: tl)
   rw [show ((X, Y2) :: tl).length = r by simpa using hhl] at hfl
   have hcons : ∀ y : Nat, hashesD ((X, y) :: tl) = .int .u64 X :: .int .u64 y :: hashesD tl := fun y => rfl
   rw [hcons] at hsh hw hfl
   generalize hashesD tl = TD at *
   have hht : (D.int .u64 X :: .int .u64 Y2 :: TD).take (r * 2) = .int .u64 X :: .int .u64 Y2 :: TD := List.take_of_length_le (by omega)
   rw [← hht] at hw
   generalize rowsD K A B Z.rs = RZ at *
   generalize rowsD K A B zr = RX at *
   generalize rowsD K A B rs1 = RD1 at *
   generalize rowsD K A B rs2 = RD2 at *
   have hrp : 0 < r * 2 := by omega
   have hrp1 : 1 < r * 2 := by omega
   have hrp2 : 0 < r := by omega
   refine A00B ?_; try with_reducible exact tt
   refine CallS.g [3] (hsh) (R1B (fs ey1 (fs ey2 (fs hrp (fs hrp1 hrp2)))) ?_); try with_reducible exact tt
   refine CallS.gf 11 2 ⟨62, ([D.int .u64 X, .int .u64 Y2] ++ TD).map V.d⟩ ([D.int .u64 X, .int .u64 Y2] ++ TD) [] (hw) (R0B ?_); try with_reducible exact tt
   refine CallS.g [3] (ht1) (R0B ?_); try with_reducible exact tt
   refine CallS.g [7] (ht2) (R0B ?_); try with_reducible exact tt
   refine CallS.g [8] (ht3) (R1B et ?_); try with_reducible exact tt
   refine CallS.g [5, 8] (hs1) (R0B ?_); try with_reducible exact tt
   refine CallS.o1 9 (o_40 zs Z.p Z.d) (R0B ?_); try with_reducible exact tt
   refine CallS.o1 10 (o_40 zs Z.p Z.d) (R0B ?_); try with_reducible exact tt
   refine CallS.g [3, 9, 12] (hno) (R0B ?_); try with_reducible exact tt
   refine CallS.g [3, 12] (hs2) (R0B ?_); try with_reducible exact tt
 ·replace hmg := hmg
  simp only [if_neg he, skO, skD, List.map_cons, List.map_nil, k1, m1] at hmg
  refine CallS.g [3, 9, 5] (hmg) (R1B he ?_); try with_reducible exact tt
  refine A10B he ?_; try with_reducible exact tt
  refine AW.loopT (α := Nat) 11 (fun i => [(82, .d (.int .i64 (i : Int)))]) (fun i => [(10, tapeO zs (rowP zs C K A B rs1 rs2 0 false i).1 (rowP zs C K A B rs1 rs2 0 false i).2)]) (fun i => i ≤ R ∧ ∀ j, j < i → (rowZ zs C K A B rs1 rs2 0 false j).e = 0) (fun i => R - i) 0 ?_ ?_ ⟨Nat.zero_le _, by omega⟩ ?_ ?_ ?_
  ·simp
  ·simp
  ·simp
  ·simp [-Bool.exists_bool]
  rintro r ⟨hr, hout⟩
  simp [-Bool.exists_bool]
  by_cases hrR : r < R
  ·have hr1' : (r : Int) < R := by omega
   have hPl := hle r (by omega)
   obtain ⟨a1, b1, c1, w1⟩ := k2 rs1[r] (List.getElem_mem _)
   obtain ⟨a2, b2, c2, w2⟩ := m2 rs2[r] (List.getElem_mem _)
   have hrz : rowZ zs C K A B rs1 rs2 0 false r = mergeUp zs K A B rs1[r].l rs2[r].l (rowP zs C K A B rs1 rs2 0 false r).1 (rowP zs C K A B rs1 rs2 0 false r).2 C := by
    unfold rowZ
    rw [List.getD_eq_getElem?_getD, List.getD_eq_getElem?_getD, List.getElem?_eq_getElem (show r < rs1.length by omega), List.getElem?_eq_getElem (show r < rs2.length by omega)]
    rfl
   have hrn := o_4y (cs := zs) (C := C) (k := K) (a := A) (b := B) rs1 rs2 0 false r (by omega) (by omega)
   have ewr : IntKind.i64.wrap ((r : Int) + 1) = ((r + 1 : Nat) : Int) := by rw [w64 (by omega) (by omega)]; omega
   refine A10B (fs hrR hr1') ?_; try with_reducible exact tt
   refine AW.loopT (α := Nat) 11 (fun i => [(87, .d (.int .i64 (i : Int)))]) (fun i => [(10, tapeO zs (mergeUp zs K A B rs1[r].l rs2[r].l (rowP zs C K A B rs1 rs2 0 false r).1 (rowP zs C K A B rs1 rs2 0 false r).2 i).p (mergeUp zs K A B rs1[r].l rs2[r].l (rowP zs C K A B rs1 rs2 0 false r).1 (rowP zs C K A B rs1 rs2 0 false r).2 i).d)]) (fun i => i ≤ C ∧ (mergeUp zs K A B rs1[r].l rs2[r].l (rowP zs C K A B rs1 rs2 0 false r).1 (rowP zs C K A B rs1 rs2 0 false r).2 i).e = 0) (fun i => C - i) 0 ?_ ?_ ⟨Nat.zero_le _, rfl⟩ ?_ ?_ ?_
   ·simp
   ·simp
   ·simp
   ·simp [mergeUp, -Bool.exists_bool]
   rintro j ⟨hj, hje⟩
   simp [-Bool.exists_bool]
   have hx1 := o_22 (R := R) (C := C) (k := K) (a := A) (b := B) (T := T1) hg rs1 hC64 r j (by omega) (by omega) ⟨a1, b1, c1, w1⟩
   have hx2 := o_22 (R := R) (C := C) (k := K) (a := A) (b := B) (T := T2) hg rs2 hC64 r j (by omega) (by omega) ⟨a2, b2, c2, w2⟩
   by_cases hjC : j < C
   ·have hjC' : (j : Int) < C := by omega
    replace hx1 := hx1 hjC
    replace hx2 := hx2 hjC
    have hmw := (o_8 (d := (rowP zs C K A B rs1 rs2 0 false r).2) hg w1 w2 hPl j (by omega) (by omega)).1
    have hnx := o_4z hje
    have hwl := o_5 w1 (show j < rs1[r].l.length by omega)
    have hwm := o_5 w2 (show j < rs2[r].l.length by omega)
    have hrm := o_4a zs K A B _ _ _ _ _ _ _ _ hg hwl hwm hmw (by omega) _ (show cellR zs K A B rs1[r].l rs2[r].l (rowP zs C K A B rs1 rs2 0 false r).1 (rowP zs C K A B rs1 rs2 0 false r).2 j = _ from rfl)
    have ewj : IntKind.i64.wrap ((j : Int) + 1) = ((j + 1 : Nat) : Int) := by rw [w64 (by omega) (by omega)]; omega
    simp only [skO, skD, List.map_cons, List.map_nil, k1, m1, tsD, parD, stR] at hx1 hx2 hrm
    have hx3 := o_22 (R := R) (C := C) (k := K) (a := A) (b := B) (T := T1) hg rs1 hC64 r j (by omega) (by omega) ⟨a1, b1, c1, w1⟩ hjC
    have hs1 := o_4w (R := R) (C := C) (k := K) (a := A) (b := B) (T := T2) (V := T2) rs2 rs2 hg hC1 hC64 m2 m2 (by omega) (by omega) rfl
    rw [decide_eq_true (show rs2 = rs2 ∧ T2 = T2 from ⟨rfl, rfl⟩)] at hs1
    have hs2 := o_4w (R := R) (C := C) (k := K) (a := A) (b := B) (T := T1) (V := T1) rs1 rs1 hg hC1 hC64 k2 k2 (by omega) (by omega) rfl
    rw [decide_eq_true (show rs1 = rs1 ∧ T1 = T1 from ⟨rfl, rfl⟩)] at hs2
    have herr := fun h => o_jb (cs := zs) (C := C) (k := K) (a := A) (b := B) rs1 rs2 0 false r (by omega) (by omega) hout h
    rw [← hZ, hrz] at herr
    simp only [skO, skD, List.map_cons, List.map_nil, k1, m1, tsD] at hx3 hs1 hs2
    have hstay : (cellR zs K A B rs1[r].l rs2[r].l (rowP zs C K A B rs1 rs2 0 false r).1 (rowP zs C K A B rs1 rs2 0 false r).2 j).e ≠ 0 → mergeUp zs K A B rs1[r].l rs2[r].l (rowP zs C K A B rs1 rs2 0 false r).1 (rowP zs C K A B rs1 rs2 0 false r).2 C = mergeUp zs K A B rs1[r].l rs2[r].l (rowP zs C K A B rs1 rs2 0 false r).1 (rowP zs C K A B rs1 rs2 0 false r).2 (j + 1) := fun h => by
     have h2 := o_2x (cs := zs) (k := K) (a := A) (b := B) (l := rs1[r].l) (m := rs2[r].l) (p := (rowP zs C K A B rs1 rs2 0 false r).1) (d := (rowP zs C K A B rs1 rs2 0 false r).2) (i := j + 1) (by rw [hnx, if_neg h]; exact h) (C - (j + 1))
     rwa [show j + 1 + (C - (j + 1)) = C by omega] at h2
    generalize hQ : cellR zs K A B rs1[r].l rs2[r].l (rowP zs C K A B rs1 rs2 0 false r).1 (rowP zs C K A B rs1 rs2 0 false r).2 j = Q at *
    clear hQ
    generalize rowsD K A B rs1 = RD1 at *
    generalize rowsD K A B rs2 = RD2 at *
    generalize rs1[r].l.getD j (0, 0, false) = X1 at *
    generalize rs2[r].l.getD j (0, 0, false) = X2 at *
    obtain ⟨x1, x2, x3⟩ := X1
    obtain ⟨y1, y2, y3⟩ := X2
    simp only at hx1 hx2 hx3 hrm
    by_cases hce : Q.e = 0
    ·rw [if_pos hce] at hnx
     have hne : (mergeUp zs K A B rs1[r].l rs2[r].l (rowP zs C K A B rs1 rs2 0 false r).1 (rowP zs C K A B rs1 rs2 0 false r).2 (j + 1)).e = 0 := by rw [hnx]
     have hnp : (mergeUp zs K A B rs1[r].l rs2[r].l (rowP zs C K A B rs1 rs2 0 false r).1 (rowP zs C K A B rs1 rs2 0 false r).2 (j + 1)).p = Q.p := by rw [hnx]
     have hnd : (mergeUp zs K A B rs1[r].l rs2[r].l (rowP zs C K A B rs1 rs2 0 false r).1 (rowP zs C K A B rs1 rs2 0 false r).2 (j + 1)).d = Q.d := by rw [hnx]
     clear hnx herr hstay hout hje
     obtain ⟨Qe, Qy, Qt, Qf, Qp, Qd⟩ := Q
     simp only at hce hrm hnp hnd
     subst hce
     simp only [if_true] at hrm
     refine A10B (fs hjC hjC') ?_; try with_reducible exact tt
     refine CallS.g [7] (hx1) (R0B ?_); try with_reducible exact tt
     refine A00B ?_; try with_reducible exact tt
     refine CallS.g [8] (hx2) (R0B ?_); try with_reducible exact tt
     refine A00B ?_; try with_reducible exact tt
     refine CallS.o1 10 (hrm) (R0B ?_); try with_reducible exact tt
     refine A00B ?_; try with_reducible exact tt
     refine CallS.g [3] (hx3) (R1B he ?_); try with_reducible exact tt
     refine A10B (fs he ewj) ?_; try with_reducible exact tt
     exact ⟨j + 1, ⟨by omega, hne⟩, by omega, Sub1.int (by omega), Subs.of (by simp [hnp, hnd, -Bool.exists_bool])⟩
    ·rw [if_neg hce] at hnx
     replace hstay := hstay hce
     rw [hnx] at hstay
     rw [hstay] at herr
     obtain ⟨r1, r2, r3⟩ := herr hce
     simp only at r1 r2 r3
     rw [r2, r3]
     clear herr hstay hnx hout hje
     obtain ⟨Qe, Qy, Qt, Qf, Qp, Qd⟩ := Q
     simp only at hce hrm r1 r2 r3 ⊢
     simp only [if_neg hce] at hrm
     refine A10B (fs hjC hjC') ?_; try with_reducible exact tt
     refine CallS.g [7] (hx1) (R0B ?_); try with_reducible exact tt
     refine A00B ?_; try with_reducible exact tt
     refine CallS.g [8] (hx2) (R0B ?_); try with_reducible exact tt
     refine A00B ?_; try with_reducible exact tt
     refine CallS.o1 10 (hrm) (R1B (fs hce r1) ?_); try with_reducible exact tt
     refine A10B (fs hce r1) ?_; try with_reducible exact tt
     refine CallS.g [3, 7] (hs2) (R0B ?_); try with_reducible exact tt
     refine CallS.g [5, 8] (hs1) (R0B ?_); try with_reducible exact tt
     refine CallS.o1 9 (o_40 zs Qp Qd) (R0B ?_); try with_reducible exact tt
     refine CallS.o1 10 (o_40 zs Qp Qd) (R0B ?_); try with_reducible exact tt
   ·have h2 : j = C := by omega
    subst h2
    rw [← hrz] at hje ⊢
    clear hx1 hx2 hmg
    refine A10B ewr ?_; try with_reducible exact tt
    refine ⟨r + 1, ⟨by omega, fun i hi => ?_⟩, by omega, Sub1.int (by omega), Subs.of (by simp [hrn, -Bool.exists_bool])⟩
    by_cases hir : i = r
    ·rw [hir]; exact hje
    ·exact hout i (by omega)
  ·have h2 : r = R := by omega
   subst h2
   exfalso
   refine he ?_
   rw [hZ]
   exact o_jc rs1 rs2 0 false (k1.trans m1.symm) fun i hi => hout i (by omega)
end
end Go.Proofs.YtijbgbpjionfjaaGreatDoor.Am
namespace Go.Proofs.YtijbgbpjionfjaaGreatDoor.Am
section
open Go.RowKit

theorem o_vu {W : World} {v : Value} {L : List Int} {r c k a b : Int} (w : Cells W v 1 L.length (L.map fun a => [Value.int .u64 a]).flatten) (h : ∀ a ∈ L, (Lit.int .u64 a).wf = true) : ∃ ws : List Nat, ws.length = L.length ∧ V.rep (memW W) (.d (drD r c k a b ws)) (.agg #[.int .i64 r, .int .i64 c, .int .i64 k, .int .i64 a, .int .i64 b, v]) := by
 obtain ⟨ws, rfl, -⟩ := o_je h
 refine ⟨ws, by simp, ?_⟩
 have hw : Cells W v 1 ws.length (ws.map fun n : Nat => Value.int .u64 n) := by
  have e : ((ws.map fun n : Nat => (n : Int)).map fun a => [Value.int .u64 a]).flatten = ws.map fun n : Nat => Value.int .u64 n := by
   rw [List.map_map]
   clear w h
   induction ws with
   | nil => rfl
   | cons x l ih => simp only [List.map_cons, List.flatten_cons, ih]; rfl
  rw [e, List.length_map] at w; exact w
 have hr := o_j1 (fun n : Nat => D.int .u64 n) (fun n : Nat => Value.int .u64 n) (fun _ => rfl) (fun _ => D.rep_int.2 rfl) hw
 refine o_j2 (vs := [.int .i64 r, .int .i64 c, .int .i64 k, .int .i64 a, .int .i64 b, v]) (fun z hz => ?_) ?_
 ·simp at hz
  rcases hz with rfl | rfl | rfl | rfl | rfl | rfl <;> first | rfl | exact o_8m w
 ·exact D.reps_cons.2 ⟨D.rep_int.2 rfl, D.reps_cons.2 ⟨D.rep_int.2 rfl, D.reps_cons.2 ⟨D.rep_int.2 rfl, D.reps_cons.2 ⟨D.rep_int.2 rfl, D.reps_cons.2 ⟨D.rep_int.2 rfl, D.reps_cons.2 ⟨V.rep_d.1 hr, D.reps_nil.2 rfl⟩⟩⟩⟩⟩⟩
theorem o_jk {W : World} {v : Value} {L : List (Int × Int)} (w : Cells W v 2 L.length (L.map fun a => [Value.int .u64 a.1, Value.int .i64 a.2]).flatten) (h : ∀ a ∈ L, (Lit.int .u64 a.1).wf = true ∧ (Lit.int .i64 a.2).wf = true) : ∃ us : List (Nat × Int), us.length = L.length ∧ (∀ u ∈ us, u.1 < 18446744073709551616) ∧ V.rep (memW W) (.d (.sl us.length (updD us))) v := by
 obtain ⟨us, rfl, hu⟩ := o_jf h
 refine ⟨us, by simp, hu, ?_⟩
 rw [List.map_map, List.length_map] at w
 exact o_vi (fun u : Nat × Int => [D.int .u64 u.1, D.int .i64 u.2]) (fun u : Nat × Int => [Value.int .u64 u.1, Value.int .i64 u.2]) (fun a u hu => by simp at hu; rcases hu with rfl | rfl <;> rfl) (fun a => by simp [D.reps_cons, D.rep_int]) w
end
end Go.Proofs.YtijbgbpjionfjaaGreatDoor.Am
namespace Go.Proofs.YtijbgbpjionfjaaGreatDoor.Am
section
open Go.RowKit

theorem cg_walk {W : World} {v0 u1 u2 v2 : Value} {r c k a b : Int} {L0 : List Int} {L1 L2 : List (Int × Int)} {cs : List Bool}
  (_ : (Lit.int .i64 r).wf = true) (_ : (Lit.int .i64 c).wf = true) (_ : (Lit.int .i64 k).wf = true) (_ : (Lit.int .i64 a).wf = true) (_ : (Lit.int .i64 b).wf = true)
  (w0 : Cells W v0 1 L0.length (L0.map fun a => [Value.int .u64 a]).flatten) (h0 : L0.length ≤ maxLen) (p0 : ∀ a ∈ L0, (Lit.int .u64 a).wf = true)
  (w1 : Cells W u1 2 L1.length (L1.map fun a => [Value.int .u64 a.1, Value.int .i64 a.2]).flatten) (h1 : L1.length ≤ maxLen) (p1 : ∀ a ∈ L1, (Lit.int .u64 a.1).wf = true ∧ (Lit.int .i64 a.2).wf = true)
  (w2 : Cells W u2 2 L2.length (L2.map fun a => [Value.int .u64 a.1, Value.int .i64 a.2]).flatten) (h2 : L2.length ≤ maxLen) (p2 : ∀ a ∈ L2, (Lit.int .u64 a.1).wf = true ∧ (Lit.int .i64 a.2).wf = true)
  (w3 : Bools W v2 cs) :
  Calls Tryz.prog o_5m #[.agg #[.int .i64 r, .int .i64 c, .int .i64 k, .int .i64 a, .int .i64 b, v0], .agg #[u1, u2], v2] W (fun e W' => e = .returned (.bool true) ∧ Same W W') := by
 obtain ⟨ws, hws, hr0⟩ := o_vu (r := r) (c := c) (k := k) (a := a) (b := b) w0 p0
 obtain ⟨us, hus, hk, hr1⟩ := o_jk w1 p1
 obtain ⟨vs, hvs, hk2, hr2⟩ := o_jk w2 p2
 have hb := o_uu w3
 unfold maxLen at h0 h1 h2 hb
 exact law_walk o_a6 (o_vt r c k a b ws us vs cs (by omega) (by omega) (by omega) hk hk2 (by omega)) (V.reps_cons.2 ⟨hr0, V.reps_cons.2 ⟨o_j2 (vs := [u1, u2]) (fun z hz => by simp at hz; rcases hz with rfl | rfl; exact o_8m w1; exact o_8m w2) (D.reps_cons.2 ⟨V.rep_d.1 hr1, D.reps_cons.2 ⟨V.rep_d.1 hr2, D.reps_nil.2 rfl⟩⟩), V.reps_cons.2 ⟨o_ut w3, V.reps_nil.2 rfl⟩⟩⟩)
end
end Go.Proofs.YtijbgbpjionfjaaGreatDoor.Am
