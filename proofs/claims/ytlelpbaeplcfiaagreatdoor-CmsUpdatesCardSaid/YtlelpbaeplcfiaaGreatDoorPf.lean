/- Parts of the proof: Cms6, Cms7, AmLaw2, AmLaw3, AmLB, Carr4, CmsD, UpdM, CmsE, Carr7, Carr8, Carr9, CarrA, CarrB, Cms8, Cms9, CmsA, DecM, Dec1, Dec2, Dec3, Dec4, Dec5, Dec6, AwkF, CmsC, MrgM, Loads1. -/
import Derived.Test.YtlelpbaeplcfiaaGreatDoorPe
set_option linter.unusedVariables false
set_option linter.unusedSimpArgs false
set_option maxRecDepth 100000
namespace Go.Proofs.YtlelpbaeplcfiaaGreatDoor.Am
section
open Go.RowKit
structure UR where
 e : Int
 rs : List Rw
 p : Nat
 d : Bool
def updR (cs : List Bool) (C k a b key n : Nat) (r : Rw) (p : Nat) (d : Bool) : TR := addRM cs k a b n (r.l.getD (colOf C r.a r.b key) (0, 0, false)).1 (r.l.getD (colOf C r.a r.b key) (0, 0, false)).2.1 (r.l.getD (colOf C r.a r.b key) (0, 0, false)).2.2 p d
def updC (r : Rw) (l : List ST) (Z : TR) (U : UR) : UR := if Z.e = 0 then ⟨U.e, ⟨r.a, r.b, l⟩ :: U.rs, U.p, U.d⟩ else ⟨Z.e, [], Z.p, Z.d⟩
def updM (cs : List Bool) (C k a b key n : Nat) : List Rw → Nat → Bool → UR
 | [], p, d => ⟨0, [], p, d⟩
 | r :: rs, p, d => updC r (r.l.set (colOf C r.a r.b key) ((updR cs C k a b key n r p d).y, (updR cs C k a b key n r p d).t, (updR cs C k a b key n r p d).f)) (updR cs C k a b key n r p d) (updM cs C k a b key n rs (updR cs C k a b key n r p d).p (updR cs C k a b key n r p d).d)

theorem o_th {C k a b T : Nat} (hg : GoodR k a b) (g1 : 1 ≤ C) (g2 : C ≤ 64) (A0 B0 A1 B1 : Nat) (l0 l1 : List ST) (h0 : GoodRow C k a b ⟨A0, B0, l0⟩) (h1 : GoodRow C k a b ⟨A1, B1, l1⟩) :
  Eqn Tryz.prog o_5u [.p 0 0] [skO 2 C k a b [⟨A0, B0, l0⟩, ⟨A1, B1, l1⟩] T] (.p 1 0) [skO 2 C k a b [⟨A0, B0, l0⟩, ⟨A1, B1, l1⟩] T, ⟨125, [.d (.int .i64 (2 : Nat)), .d (.int .i64 C), .d (.int .i64 k), .d (.int .i64 a), .d (.int .i64 b), .own 2 3 2, .d (.int .i64 T)]⟩, ⟨130, [.d (.int .u64 A0), .d (.int .u64 B0), .p 3 0, .d (.int .u64 A1), .d (.int .u64 B1), .p 6 0]⟩, arrO 4 k a b, arrV 5 k a b l0, arrB k a b l0, arrO 7 k a b, arrV 8 k a b l1, arrB k a b l1] := by
 obtain ⟨-, -, e0, -⟩ := h0
 simp only at e0
 obtain ⟨-, -, e1, -⟩ := h1
 simp only at e1
 refine Eqn.gen [0, 1, 2, 4, 5, 6, 8, 9, 10] o_5w (by simp) (by simp) (by rfl) (by decide) (by simp) (by simp [skO, skD, arrO, arrV, arrB, vecO, vecB, u64s]) ?_
 have hc := o_sh 2 [.int .u64 A0, .int .u64 B0, .ptr (arrD k a b l0) 0, .int .u64 A1, .int .u64 B1, .ptr (arrD k a b l1) 0] (by omega) rfl (by omega)
 have d0 := o_rz l0 hg (by omega) (by omega)
 have d1 := o_rz l1 hg (by omega) (by omega)
 simp only [o_5v, skO, skD, rowsD, rowD, List.flatMap_cons, List.flatMap_nil, List.append_nil, List.cons_append, List.nil_append, List.map_cons, List.map_nil, List.length_cons, List.length_nil, arrO, arrV, arrB, vecO, vecB, e0, e1] at hc d0 d1 ⊢
 generalize arrD k a b l0 = AD0 at *
 generalize wordsP (wdR k a b) (encs k a b l0) = WS0 at *
 generalize arrD k a b l1 = AD1 at *
 generalize wordsP (wdR k a b) (encs k a b l1) = WS1 at *
 generalize nwP C (wdR k a b) = NW at *
 generalize wdR k a b = w at *
 refine G0 ?_; try with_reducible exact tt
 refine CallS.g [] (hc) (R0 ?_); try with_reducible exact tt
 refine AW.rounds 3 ?_
 refine A00 ?_; try with_reducible exact tt
 refine CallS.g [] (d0) (R0 ?_); try with_reducible exact tt
 refine A00 ?_; try with_reducible exact tt
 refine CallS.g [] (d1) (R0 ?_); try with_reducible exact tt
 refine A00 ?_; try with_reducible exact tt

set_option maxHeartbeats 4000000 in
theorem o_ti {C k a b T : Nat} (hg : GoodR k a b) (g1 : 1 ≤ C) (g2 : C ≤ 64) (A0 B0 A1 B1 : Nat) (l0 l1 : List ST) (h0 : GoodRow C k a b ⟨A0, B0, l0⟩) (h1 : GoodRow C k a b ⟨A1, B1, l1⟩) (cs : List Bool) (key n p : Nat) (d : Bool) (hk : key < hP) (hn : n ≤ 1048576) (hT : T + n ≤ 1099511627776) (hp : p ≤ cs.length) (hc : cs.length ≤ 4000000) (U : UR) (hU : U = updM cs C k a b key n [⟨A0, B0, l0⟩, ⟨A1, B1, l1⟩] p d) :
  Eqn Tryz.prog o_5x [.p 0 0, .p 1 0, .d (.int .u64 key), .d (.int .i64 n)] [skO 2 C k a b [⟨A0, B0, l0⟩, ⟨A1, B1, l1⟩] T, tapeO cs p d] (.d (.int .i64 U.e)) [if U.e = 0 then skO 2 C k a b U.rs (T + n) else skO 2 C k a b [⟨A0, B0, l0⟩, ⟨A1, B1, l1⟩] T, tapeO cs U.p U.d] := by
 have hcl := o_th (T := T) hg g1 g2 A0 B0 A1 B1 l0 l1 h0 h1
 obtain ⟨a0, b0, e0, w0⟩ := h0
 simp only at a0 b0 e0 w0
 have c0 : colOf C A0 B0 key < C := Nat.mod_lt _ (by omega)
 have o0 := o_s8 A0 B0 key C a0 b0 hk g1 g2
 rw [show hsum A0 B0 key % C = colOf C A0 B0 key from rfl] at o0
 obtain ⟨Z0, z0⟩ : ∃ Z, Z = updR cs C k a b key n ⟨A0, B0, l0⟩ p d := ⟨_, rfl⟩
 have p0 : Z0.p ≤ cs.length := by rw [z0]; exact (o_o2 hg (o_rc w0 (show colOf C A0 B0 key < l0.length by omega)) hp hc).1
 have x0 := o_rl cs l0 (colOf C A0 B0 key) n p d hg w0 (by omega) (by omega) hn hp hc Z0 z0
 obtain ⟨a1, b1, e1, w1⟩ := h1
 simp only at a1 b1 e1 w1
 have c1 : colOf C A1 B1 key < C := Nat.mod_lt _ (by omega)
 have o1 := o_s8 A1 B1 key C a1 b1 hk g1 g2
 rw [show hsum A1 B1 key % C = colOf C A1 B1 key from rfl] at o1
 obtain ⟨Z1, z1⟩ : ∃ Z, Z = updR cs C k a b key n ⟨A1, B1, l1⟩ Z0.p Z0.d := ⟨_, rfl⟩
 have p1 : Z1.p ≤ cs.length := by rw [z1]; exact (o_o2 hg (o_rc w1 (show colOf C A1 B1 key < l1.length by omega)) p0 hc).1
 have x1 := o_rl cs l1 (colOf C A1 B1 key) n Z0.p Z0.d hg w1 (by omega) (by omega) hn p0 hc Z1 z1
 simp only [updM] at hU
 rw [← z0] at hU
 rw [← z1] at hU
 clear z0 p0 z1 p1
 have D0 : arrD k a b (l0.set (colOf C A0 B0 key) (Z0.y, Z0.t, Z0.f)) = [.ptr [.sl (nwP C (wdR k a b)) ((wordsP (wdR k a b) (encs k a b (l0.set (colOf C A0 B0 key) (Z0.y, Z0.t, Z0.f)))).map fun x : Nat => D.int .u64 x), .int .i64 C, .int .i64 (wdR k a b)] 0, .int .i64 k, .int .i64 a, .int .i64 b] := by simp [arrD, vecD, e0]
 have L0 : ((wordsP (wdR k a b) (encs k a b (l0.set (colOf C A0 B0 key) (Z0.y, Z0.t, Z0.f)))).map fun x : Nat => D.int .u64 x).length = nwP C (wdR k a b) := by simp [e0]
 have u0 : u64s (wordsP (wdR k a b) (encs k a b (l0.set (colOf C A0 B0 key) (Z0.y, Z0.t, Z0.f)))) = ((wordsP (wdR k a b) (encs k a b (l0.set (colOf C A0 B0 key) (Z0.y, Z0.t, Z0.f)))).map fun x : Nat => D.int .u64 x).map V.d := by simp [u64s]
 have D1 : arrD k a b (l1.set (colOf C A1 B1 key) (Z1.y, Z1.t, Z1.f)) = [.ptr [.sl (nwP C (wdR k a b)) ((wordsP (wdR k a b) (encs k a b (l1.set (colOf C A1 B1 key) (Z1.y, Z1.t, Z1.f)))).map fun x : Nat => D.int .u64 x), .int .i64 C, .int .i64 (wdR k a b)] 0, .int .i64 k, .int .i64 a, .int .i64 b] := by simp [arrD, vecD, e1]
 have L1 : ((wordsP (wdR k a b) (encs k a b (l1.set (colOf C A1 B1 key) (Z1.y, Z1.t, Z1.f)))).map fun x : Nat => D.int .u64 x).length = nwP C (wdR k a b) := by simp [e1]
 have u1 : u64s (wordsP (wdR k a b) (encs k a b (l1.set (colOf C A1 B1 key) (Z1.y, Z1.t, Z1.f)))) = ((wordsP (wdR k a b) (encs k a b (l1.set (colOf C A1 B1 key) (Z1.y, Z1.t, Z1.f)))).map fun x : Nat => D.int .u64 x).map V.d := by simp [u64s]
 refine Eqn.gen [0, 1] o_5z (by simp) (by simp) (by rfl) (by decide) (by simp) (by intro ob hob; simp at hob; rcases hob with rfl | rfl; (split <;> simp [skO, skD]); simp [tapeO]) ?_
 have q1 : ¬ (2305843009213693951 : Int) ≤ key := by unfold hP at hk; omega
 have q2 : ¬ 2305843009213693951 ≤ key := by unfold hP at hk; omega
 have q3 : ¬ (n : Int) < 0 := by omega
 have q4 : ¬ (1048576 : Int) < n := by omega
 have q5 : ¬ 1048576 < n := by omega
 have q6 : IntKind.i64.wrap ((T : Int) + n) = ((T + n : Nat) : Int) := by rw [w64 (by omega) (by omega)]; omega
 have q7 : ¬ (1099511627776 : Int) < (T : Int) + n := by omega
 have q8 : ¬ 1099511627776 < T + n := by omega
 have es : ∀ rs : List Rw, rs.length = 2 → (skO 2 C k a b rs (T + n)) = ⟨125, [.d (.int .i64 (2 : Nat)), .d (.int .i64 C), .d (.int .i64 k), .d (.int .i64 a), .d (.int .i64 b), .d (.sl 2 (rowsD k a b rs)), .d (.int .i64 (T + n : Nat))]⟩ := by intro rs h; simp [skO, skD, h]
 have eo : skO 2 C k a b [⟨A0, B0, l0⟩, ⟨A1, B1, l1⟩] T = ⟨125, [.d (.int .i64 (2 : Nat)), .d (.int .i64 C), .d (.int .i64 k), .d (.int .i64 a), .d (.int .i64 b), .d (.sl 2 [.int .u64 A0, .int .u64 B0, .ptr (arrD k a b l0) 0, .int .u64 A1, .int .u64 B1, .ptr (arrD k a b l1) 0]), .d (.int .i64 T)]⟩ := by simp [skO, skD, rowsD, rowD]
 rw [eo] at hcl ⊢
 simp only [o_5y, arrO, arrV, arrB, vecO, vecB, hD, List.length_set, e0, e1] at hcl o0 o1 x0 x1 ⊢
 generalize hl0 : l0.set (colOf C A0 B0 key) (Z0.y, Z0.t, Z0.f) = m0 at *
 generalize colOf C A0 B0 key = col0 at *
 generalize arrD k a b l0 = AD0 at *
 obtain ⟨E0, Y0, T0, F0, P0, G0⟩ := Z0
 simp only at x0 hU
 generalize hl1 : l1.set (colOf C A1 B1 key) (Z1.y, Z1.t, Z1.f) = m1 at *
 generalize colOf C A1 B1 key = col1 at *
 generalize arrD k a b l1 = AD1 at *
 obtain ⟨E1, Y1, T1, F1, P1, G1⟩ := Z1
 simp only at x1 hU
 generalize nwP C (wdR k a b) = NW at *
 refine A10 (fs q1 (fs q2 (fs q3 (fs q4 (fs q5 (fs q6 (fs q7 q8))))))) ?_; try with_reducible exact tt
 refine CallS.g [0] (hcl) (R0 ?_); try with_reducible exact tt
 refine AW.rounds 3 ?_
 refine A01 o0 ?_; try with_reducible exact tt
 by_cases E00 : E0 = 0
 ·simp only [E00, if_true, u0] at x0
  generalize ((wordsP (wdR k a b) (encs k a b m0)).map fun x : Nat => D.int .u64 x) = WD0 at *
  refine CallS.g [4, 5, 6, 1] (x0) (R0 ?_); try with_reducible exact tt
  refine A01 o1 ?_; try with_reducible exact tt
  by_cases E10 : E1 = 0
  ·simp only [E10, if_true, u1] at x1
   generalize ((wordsP (wdR k a b) (encs k a b m1)).map fun x : Nat => D.int .u64 x) = WD1 at *
   refine CallS.g [7, 8, 9, 1] (x1) (R0 ?_); try with_reducible exact tt
   simp only [updC, if_true, E00, E10] at hU
   subst hU
   simp only [if_true]
   rw [es _ rfl]
   simp only [rowsD, rowD, List.flatMap_cons, List.flatMap_nil, List.append_nil, List.cons_append, List.nil_append, D0, D1]
   have t0 : WD0.take NW = WD0 := List.take_of_length_le (by omega)
   have t1 : WD1.take NW = WD1 := List.take_of_length_le (by omega)
   generalize wdR k a b = w at *
   refine AW.freeze 6 1 ⟨44, WD0.map V.d⟩ WD0 (by simp) rfl ?_
   simp [frzH, t0]
   refine AW.freeze 5 1 ⟨226, [.d (.sl NW WD0), .d (.int .i64 C), .d (.int .i64 w)]⟩ [.sl NW WD0, .int .i64 C, .int .i64 w] (by rfl) rfl ?_
   simp [frzH]
   refine AW.freeze 4 1 ⟨166, [.d (.ptr [.sl NW WD0, .int .i64 C, .int .i64 w] 0), .d (.int .i64 k), .d (.int .i64 a), .d (.int .i64 b)]⟩ [.ptr [.sl NW WD0, .int .i64 C, .int .i64 w] 0, .int .i64 k, .int .i64 a, .int .i64 b] (by rfl) rfl ?_
   simp [frzH]
   refine AW.freeze 9 1 ⟨44, WD1.map V.d⟩ WD1 (by simp) rfl ?_
   simp [frzH, t1]
   refine AW.freeze 8 1 ⟨226, [.d (.sl NW WD1), .d (.int .i64 C), .d (.int .i64 w)]⟩ [.sl NW WD1, .int .i64 C, .int .i64 w] (by rfl) rfl ?_
   simp [frzH]
   refine AW.freeze 7 1 ⟨166, [.d (.ptr [.sl NW WD1, .int .i64 C, .int .i64 w] 0), .d (.int .i64 k), .d (.int .i64 a), .d (.int .i64 b)]⟩ [.ptr [.sl NW WD1, .int .i64 C, .int .i64 w] 0, .int .i64 k, .int .i64 a, .int .i64 b] (by rfl) rfl ?_
   simp [frzH]
   refine AW.freeze 3 3 ⟨130, [.int .u64 A0, .int .u64 B0, .ptr [.ptr [.sl NW WD0, .int .i64 C, .int .i64 w] 0, .int .i64 k, .int .i64 a, .int .i64 b] 0, .int .u64 A1, .int .u64 B1, .ptr [.ptr [.sl NW WD1, .int .i64 C, .int .i64 w] 0, .int .i64 k, .int .i64 a, .int .i64 b] 0].map V.d⟩ [.int .u64 A0, .int .u64 B0, .ptr [.ptr [.sl NW WD0, .int .i64 C, .int .i64 w] 0, .int .i64 k, .int .i64 a, .int .i64 b] 0, .int .u64 A1, .int .u64 B1, .ptr [.ptr [.sl NW WD1, .int .i64 C, .int .i64 w] 0, .int .i64 k, .int .i64 a, .int .i64 b] 0] (by rfl) rfl ?_
   simp [frzH]
   refine A10 q6 ?_; try with_reducible exact tt
  ·simp only [if_neg E10] at x1
   simp only [updC, if_true, if_neg E10, E00] at hU
   refine CallS.g [7, 8, 9, 1] (x1) (R0 ?_); try with_reducible exact tt
   subst hU
   simp only [if_neg E10]
   refine A10 E10 ?_; try with_reducible exact tt
 ·simp only [if_neg E00] at x0
  simp only [updC, if_true, if_neg E00] at hU
  refine CallS.g [4, 5, 6, 1] (x0) (R0 ?_); try with_reducible exact tt
  subst hU
  simp only [if_neg E00]
  refine A10 E00 ?_; try with_reducible exact tt


theorem o_tj {C k a b T : Nat} (hg : GoodR k a b) (g1 : 1 ≤ C) (g2 : C ≤ 64) (A0 B0 A1 B1 A2 B2 : Nat) (l0 l1 l2 : List ST) (h0 : GoodRow C k a b ⟨A0, B0, l0⟩) (h1 : GoodRow C k a b ⟨A1, B1, l1⟩) (h2 : GoodRow C k a b ⟨A2, B2, l2⟩) :
  Eqn Tryz.prog o_5u [.p 0 0] [skO 3 C k a b [⟨A0, B0, l0⟩, ⟨A1, B1, l1⟩, ⟨A2, B2, l2⟩] T] (.p 1 0) [skO 3 C k a b [⟨A0, B0, l0⟩, ⟨A1, B1, l1⟩, ⟨A2, B2, l2⟩] T, ⟨125, [.d (.int .i64 (3 : Nat)), .d (.int .i64 C), .d (.int .i64 k), .d (.int .i64 a), .d (.int .i64 b), .own 2 3 3, .d (.int .i64 T)]⟩, ⟨130, [.d (.int .u64 A0), .d (.int .u64 B0), .p 3 0, .d (.int .u64 A1), .d (.int .u64 B1), .p 6 0, .d (.int .u64 A2), .d (.int .u64 B2), .p 9 0]⟩, arrO 4 k a b, arrV 5 k a b l0, arrB k a b l0, arrO 7 k a b, arrV 8 k a b l1, arrB k a b l1, arrO 10 k a b, arrV 11 k a b l2, arrB k a b l2] := by
 obtain ⟨-, -, e0, -⟩ := h0
 simp only at e0
 obtain ⟨-, -, e1, -⟩ := h1
 simp only at e1
 obtain ⟨-, -, e2, -⟩ := h2
 simp only at e2
 refine Eqn.gen [0, 1, 2, 4, 5, 6, 8, 9, 10, 12, 13, 14] o_5w (by simp) (by simp) (by rfl) (by decide) (by simp) (by simp [skO, skD, arrO, arrV, arrB, vecO, vecB, u64s]) ?_
 have hc := o_sh 3 [.int .u64 A0, .int .u64 B0, .ptr (arrD k a b l0) 0, .int .u64 A1, .int .u64 B1, .ptr (arrD k a b l1) 0, .int .u64 A2, .int .u64 B2, .ptr (arrD k a b l2) 0] (by omega) rfl (by omega)
 have d0 := o_rz l0 hg (by omega) (by omega)
 have d1 := o_rz l1 hg (by omega) (by omega)
 have d2 := o_rz l2 hg (by omega) (by omega)
 simp only [o_5v, skO, skD, rowsD, rowD, List.flatMap_cons, List.flatMap_nil, List.append_nil, List.cons_append, List.nil_append, List.map_cons, List.map_nil, List.length_cons, List.length_nil, arrO, arrV, arrB, vecO, vecB, e0, e1, e2] at hc d0 d1 d2 ⊢
 generalize arrD k a b l0 = AD0 at *
 generalize wordsP (wdR k a b) (encs k a b l0) = WS0 at *
 generalize arrD k a b l1 = AD1 at *
 generalize wordsP (wdR k a b) (encs k a b l1) = WS1 at *
 generalize arrD k a b l2 = AD2 at *
 generalize wordsP (wdR k a b) (encs k a b l2) = WS2 at *
 generalize nwP C (wdR k a b) = NW at *
 generalize wdR k a b = w at *
 refine G0 ?_; try with_reducible exact tt
 refine CallS.g [] (hc) (R0 ?_); try with_reducible exact tt
 refine AW.rounds 4 ?_
 refine A00 ?_; try with_reducible exact tt
 refine CallS.g [] (d0) (R0 ?_); try with_reducible exact tt
 refine A00 ?_; try with_reducible exact tt
 refine CallS.g [] (d1) (R0 ?_); try with_reducible exact tt
 refine A00 ?_; try with_reducible exact tt
 refine CallS.g [] (d2) (R0 ?_); try with_reducible exact tt
 refine A00 ?_; try with_reducible exact tt

set_option maxHeartbeats 4000000 in
theorem o_tk {C k a b T : Nat} (hg : GoodR k a b) (g1 : 1 ≤ C) (g2 : C ≤ 64) (A0 B0 A1 B1 A2 B2 : Nat) (l0 l1 l2 : List ST) (h0 : GoodRow C k a b ⟨A0, B0, l0⟩) (h1 : GoodRow C k a b ⟨A1, B1, l1⟩) (h2 : GoodRow C k a b ⟨A2, B2, l2⟩) (cs : List Bool) (key n p : Nat) (d : Bool) (hk : key < hP) (hn : n ≤ 1048576) (hT : T + n ≤ 1099511627776) (hp : p ≤ cs.length) (hc : cs.length ≤ 4000000) (U : UR) (hU : U = updM cs C k a b key n [⟨A0, B0, l0⟩, ⟨A1, B1, l1⟩, ⟨A2, B2, l2⟩] p d) :
  Eqn Tryz.prog o_5x [.p 0 0, .p 1 0, .d (.int .u64 key), .d (.int .i64 n)] [skO 3 C k a b [⟨A0, B0, l0⟩, ⟨A1, B1, l1⟩, ⟨A2, B2, l2⟩] T, tapeO cs p d] (.d (.int .i64 U.e)) [if U.e = 0 then skO 3 C k a b U.rs (T + n) else skO 3 C k a b [⟨A0, B0, l0⟩, ⟨A1, B1, l1⟩, ⟨A2, B2, l2⟩] T, tapeO cs U.p U.d] := by
 have hcl := o_tj (T := T) hg g1 g2 A0 B0 A1 B1 A2 B2 l0 l1 l2 h0 h1 h2
 obtain ⟨a0, b0, e0, w0⟩ := h0
 simp only at a0 b0 e0 w0
 have c0 : colOf C A0 B0 key < C := Nat.mod_lt _ (by omega)
 have o0 := o_s8 A0 B0 key C a0 b0 hk g1 g2
 rw [show hsum A0 B0 key % C = colOf C A0 B0 key from rfl] at o0
 obtain ⟨Z0, z0⟩ : ∃ Z, Z = updR cs C k a b key n ⟨A0, B0, l0⟩ p d := ⟨_, rfl⟩
 have p0 : Z0.p ≤ cs.length := by rw [z0]; exact (o_o2 hg (o_rc w0 (show colOf C A0 B0 key < l0.length by omega)) hp hc).1
 have x0 := o_rl cs l0 (colOf C A0 B0 key) n p d hg w0 (by omega) (by omega) hn hp hc Z0 z0
 obtain ⟨a1, b1, e1, w1⟩ := h1
 simp only at a1 b1 e1 w1
 have c1 : colOf C A1 B1 key < C := Nat.mod_lt _ (by omega)
 have o1 := o_s8 A1 B1 key C a1 b1 hk g1 g2
 rw [show hsum A1 B1 key % C = colOf C A1 B1 key from rfl] at o1
 obtain ⟨Z1, z1⟩ : ∃ Z, Z = updR cs C k a b key n ⟨A1, B1, l1⟩ Z0.p Z0.d := ⟨_, rfl⟩
 have p1 : Z1.p ≤ cs.length := by rw [z1]; exact (o_o2 hg (o_rc w1 (show colOf C A1 B1 key < l1.length by omega)) p0 hc).1
 have x1 := o_rl cs l1 (colOf C A1 B1 key) n Z0.p Z0.d hg w1 (by omega) (by omega) hn p0 hc Z1 z1
 obtain ⟨a2, b2, e2, w2⟩ := h2
 simp only at a2 b2 e2 w2
 have c2 : colOf C A2 B2 key < C := Nat.mod_lt _ (by omega)
 have o2 := o_s8 A2 B2 key C a2 b2 hk g1 g2
 rw [show hsum A2 B2 key % C = colOf C A2 B2 key from rfl] at o2
 obtain ⟨Z2, z2⟩ : ∃ Z, Z = updR cs C k a b key n ⟨A2, B2, l2⟩ Z1.p Z1.d := ⟨_, rfl⟩
 have p2 : Z2.p ≤ cs.length := by rw [z2]; exact (o_o2 hg (o_rc w2 (show colOf C A2 B2 key < l2.length by omega)) p1 hc).1
 have x2 := o_rl cs l2 (colOf C A2 B2 key) n Z1.p Z1.d hg w2 (by omega) (by omega) hn p1 hc Z2 z2
 simp only [updM] at hU
 rw [← z0] at hU
 rw [← z1] at hU
 rw [← z2] at hU
 clear z0 p0 z1 p1 z2 p2
 have D0 : arrD k a b (l0.set (colOf C A0 B0 key) (Z0.y, Z0.t, Z0.f)) = [.ptr [.sl (nwP C (wdR k a b)) ((wordsP (wdR k a b) (encs k a b (l0.set (colOf C A0 B0 key) (Z0.y, Z0.t, Z0.f)))).map fun x : Nat => D.int .u64 x), .int .i64 C, .int .i64 (wdR k a b)] 0, .int .i64 k, .int .i64 a, .int .i64 b] := by simp [arrD, vecD, e0]
 have L0 : ((wordsP (wdR k a b) (encs k a b (l0.set (colOf C A0 B0 key) (Z0.y, Z0.t, Z0.f)))).map fun x : Nat => D.int .u64 x).length = nwP C (wdR k a b) := by simp [e0]
 have u0 : u64s (wordsP (wdR k a b) (encs k a b (l0.set (colOf C A0 B0 key) (Z0.y, Z0.t, Z0.f)))) = ((wordsP (wdR k a b) (encs k a b (l0.set (colOf C A0 B0 key) (Z0.y, Z0.t, Z0.f)))).map fun x : Nat => D.int .u64 x).map V.d := by simp [u64s]
 have D1 : arrD k a b (l1.set (colOf C A1 B1 key) (Z1.y, Z1.t, Z1.f)) = [.ptr [.sl (nwP C (wdR k a b)) ((wordsP (wdR k a b) (encs k a b (l1.set (colOf C A1 B1 key) (Z1.y, Z1.t, Z1.f)))).map fun x : Nat => D.int .u64 x), .int .i64 C, .int .i64 (wdR k a b)] 0, .int .i64 k, .int .i64 a, .int .i64 b] := by simp [arrD, vecD, e1]
 have L1 : ((wordsP (wdR k a b) (encs k a b (l1.set (colOf C A1 B1 key) (Z1.y, Z1.t, Z1.f)))).map fun x : Nat => D.int .u64 x).length = nwP C (wdR k a b) := by simp [e1]
 have u1 : u64s (wordsP (wdR k a b) (encs k a b (l1.set (colOf C A1 B1 key) (Z1.y, Z1.t, Z1.f)))) = ((wordsP (wdR k a b) (encs k a b (l1.set (colOf C A1 B1 key) (Z1.y, Z1.t, Z1.f)))).map fun x : Nat => D.int .u64 x).map V.d := by simp [u64s]
 have D2 : arrD k a b (l2.set (colOf C A2 B2 key) (Z2.y, Z2.t, Z2.f)) = [.ptr [.sl (nwP C (wdR k a b)) ((wordsP (wdR k a b) (encs k a b (l2.set (colOf C A2 B2 key) (Z2.y, Z2.t, Z2.f)))).map fun x : Nat => D.int .u64 x), .int .i64 C, .int .i64 (wdR k a b)] 0, .int .i64 k, .int .i64 a, .int .i64 b] := by simp [arrD, vecD, e2]
 have L2 : ((wordsP (wdR k a b) (encs k a b (l2.set (colOf C A2 B2 key) (Z2.y, Z2.t, Z2.f)))).map fun x : Nat => D.int .u64 x).length = nwP C (wdR k a b) := by simp [e2]
 have u2 : u64s (wordsP (wdR k a b) (encs k a b (l2.set (colOf C A2 B2 key) (Z2.y, Z2.t, Z2.f)))) = ((wordsP (wdR k a b) (encs k a b (l2.set (colOf C A2 B2 key) (Z2.y, Z2.t, Z2.f)))).map fun x : Nat => D.int .u64 x).map V.d := by simp [u64s]
 refine Eqn.gen [0, 1] o_5z (by simp) (by simp) (by rfl) (by decide) (by simp) (by intro ob hob; simp at hob; rcases hob with rfl | rfl; (split <;> simp [skO, skD]); simp [tapeO]) ?_
 have q1 : ¬ (2305843009213693951 : Int) ≤ key := by unfold hP at hk; omega
 have q2 : ¬ 2305843009213693951 ≤ key := by unfold hP at hk; omega
 have q3 : ¬ (n : Int) < 0 := by omega
 have q4 : ¬ (1048576 : Int) < n := by omega
 have q5 : ¬ 1048576 < n := by omega
 have q6 : IntKind.i64.wrap ((T : Int) + n) = ((T + n : Nat) : Int) := by rw [w64 (by omega) (by omega)]; omega
 have q7 : ¬ (1099511627776 : Int) < (T : Int) + n := by omega
 have q8 : ¬ 1099511627776 < T + n := by omega
 have es : ∀ rs : List Rw, rs.length = 3 → (skO 3 C k a b rs (T + n)) = ⟨125, [.d (.int .i64 (3 : Nat)), .d (.int .i64 C), .d (.int .i64 k), .d (.int .i64 a), .d (.int .i64 b), .d (.sl 3 (rowsD k a b rs)), .d (.int .i64 (T + n : Nat))]⟩ := by intro rs h; simp [skO, skD, h]
 have eo : skO 3 C k a b [⟨A0, B0, l0⟩, ⟨A1, B1, l1⟩, ⟨A2, B2, l2⟩] T = ⟨125, [.d (.int .i64 (3 : Nat)), .d (.int .i64 C), .d (.int .i64 k), .d (.int .i64 a), .d (.int .i64 b), .d (.sl 3 [.int .u64 A0, .int .u64 B0, .ptr (arrD k a b l0) 0, .int .u64 A1, .int .u64 B1, .ptr (arrD k a b l1) 0, .int .u64 A2, .int .u64 B2, .ptr (arrD k a b l2) 0]), .d (.int .i64 T)]⟩ := by simp [skO, skD, rowsD, rowD]
 rw [eo] at hcl ⊢
 simp only [o_5y, arrO, arrV, arrB, vecO, vecB, hD, List.length_set, e0, e1, e2] at hcl o0 o1 o2 x0 x1 x2 ⊢
 generalize hl0 : l0.set (colOf C A0 B0 key) (Z0.y, Z0.t, Z0.f) = m0 at *
 generalize colOf C A0 B0 key = col0 at *
 generalize arrD k a b l0 = AD0 at *
 obtain ⟨E0, Y0, T0, F0, P0, G0⟩ := Z0
 simp only at x0 hU
 generalize hl1 : l1.set (colOf C A1 B1 key) (Z1.y, Z1.t, Z1.f) = m1 at *
 generalize colOf C A1 B1 key = col1 at *
 generalize arrD k a b l1 = AD1 at *
 obtain ⟨E1, Y1, T1, F1, P1, G1⟩ := Z1
 simp only at x1 hU
 generalize hl2 : l2.set (colOf C A2 B2 key) (Z2.y, Z2.t, Z2.f) = m2 at *
 generalize colOf C A2 B2 key = col2 at *
 generalize arrD k a b l2 = AD2 at *
 obtain ⟨E2, Y2, T2, F2, P2, G2⟩ := Z2
 simp only at x2 hU
 generalize nwP C (wdR k a b) = NW at *
 refine A10 (fs q1 (fs q2 (fs q3 (fs q4 (fs q5 (fs q6 (fs q7 q8))))))) ?_; try with_reducible exact tt
 refine CallS.g [0] (hcl) (R0 ?_); try with_reducible exact tt
 refine AW.rounds 4 ?_
 refine A01 o0 ?_; try with_reducible exact tt
 by_cases E00 : E0 = 0
 ·simp only [E00, if_true, u0] at x0
  generalize ((wordsP (wdR k a b) (encs k a b m0)).map fun x : Nat => D.int .u64 x) = WD0 at *
  refine CallS.g [4, 5, 6, 1] (x0) (R0 ?_); try with_reducible exact tt
  refine A01 o1 ?_; try with_reducible exact tt
  by_cases E10 : E1 = 0
  ·simp only [E10, if_true, u1] at x1
   generalize ((wordsP (wdR k a b) (encs k a b m1)).map fun x : Nat => D.int .u64 x) = WD1 at *
   refine CallS.g [7, 8, 9, 1] (x1) (R0 ?_); try with_reducible exact tt
   refine A01 o2 ?_; try with_reducible exact tt
   by_cases E20 : E2 = 0
   ·simp only [E20, if_true, u2] at x2
    generalize ((wordsP (wdR k a b) (encs k a b m2)).map fun x : Nat => D.int .u64 x) = WD2 at *
    refine CallS.g [10, 11, 12, 1] (x2) (R0 ?_); try with_reducible exact tt
    simp only [updC, if_true, E00, E10, E20] at hU
    subst hU
    simp only [if_true]
    rw [es _ rfl]
    simp only [rowsD, rowD, List.flatMap_cons, List.flatMap_nil, List.append_nil, List.cons_append, List.nil_append, D0, D1, D2]
    have t0 : WD0.take NW = WD0 := List.take_of_length_le (by omega)
    have t1 : WD1.take NW = WD1 := List.take_of_length_le (by omega)
    have t2 : WD2.take NW = WD2 := List.take_of_length_le (by omega)
    generalize wdR k a b = w at *
    refine AW.freeze 6 1 ⟨44, WD0.map V.d⟩ WD0 (by simp) rfl ?_
    simp [frzH, t0]
    refine AW.freeze 5 1 ⟨226, [.d (.sl NW WD0), .d (.int .i64 C), .d (.int .i64 w)]⟩ [.sl NW WD0, .int .i64 C, .int .i64 w] (by rfl) rfl ?_
    simp [frzH]
    refine AW.freeze 4 1 ⟨166, [.d (.ptr [.sl NW WD0, .int .i64 C, .int .i64 w] 0), .d (.int .i64 k), .d (.int .i64 a), .d (.int .i64 b)]⟩ [.ptr [.sl NW WD0, .int .i64 C, .int .i64 w] 0, .int .i64 k, .int .i64 a, .int .i64 b] (by rfl) rfl ?_
    simp [frzH]
    refine AW.freeze 9 1 ⟨44, WD1.map V.d⟩ WD1 (by simp) rfl ?_
    simp [frzH, t1]
    refine AW.freeze 8 1 ⟨226, [.d (.sl NW WD1), .d (.int .i64 C), .d (.int .i64 w)]⟩ [.sl NW WD1, .int .i64 C, .int .i64 w] (by rfl) rfl ?_
    simp [frzH]
    refine AW.freeze 7 1 ⟨166, [.d (.ptr [.sl NW WD1, .int .i64 C, .int .i64 w] 0), .d (.int .i64 k), .d (.int .i64 a), .d (.int .i64 b)]⟩ [.ptr [.sl NW WD1, .int .i64 C, .int .i64 w] 0, .int .i64 k, .int .i64 a, .int .i64 b] (by rfl) rfl ?_
    simp [frzH]
    refine AW.freeze 12 1 ⟨44, WD2.map V.d⟩ WD2 (by simp) rfl ?_
    simp [frzH, t2]
    refine AW.freeze 11 1 ⟨226, [.d (.sl NW WD2), .d (.int .i64 C), .d (.int .i64 w)]⟩ [.sl NW WD2, .int .i64 C, .int .i64 w] (by rfl) rfl ?_
    simp [frzH]
    refine AW.freeze 10 1 ⟨166, [.d (.ptr [.sl NW WD2, .int .i64 C, .int .i64 w] 0), .d (.int .i64 k), .d (.int .i64 a), .d (.int .i64 b)]⟩ [.ptr [.sl NW WD2, .int .i64 C, .int .i64 w] 0, .int .i64 k, .int .i64 a, .int .i64 b] (by rfl) rfl ?_
    simp [frzH]
    refine AW.freeze 3 3 ⟨130, [.int .u64 A0, .int .u64 B0, .ptr [.ptr [.sl NW WD0, .int .i64 C, .int .i64 w] 0, .int .i64 k, .int .i64 a, .int .i64 b] 0, .int .u64 A1, .int .u64 B1, .ptr [.ptr [.sl NW WD1, .int .i64 C, .int .i64 w] 0, .int .i64 k, .int .i64 a, .int .i64 b] 0, .int .u64 A2, .int .u64 B2, .ptr [.ptr [.sl NW WD2, .int .i64 C, .int .i64 w] 0, .int .i64 k, .int .i64 a, .int .i64 b] 0].map V.d⟩ [.int .u64 A0, .int .u64 B0, .ptr [.ptr [.sl NW WD0, .int .i64 C, .int .i64 w] 0, .int .i64 k, .int .i64 a, .int .i64 b] 0, .int .u64 A1, .int .u64 B1, .ptr [.ptr [.sl NW WD1, .int .i64 C, .int .i64 w] 0, .int .i64 k, .int .i64 a, .int .i64 b] 0, .int .u64 A2, .int .u64 B2, .ptr [.ptr [.sl NW WD2, .int .i64 C, .int .i64 w] 0, .int .i64 k, .int .i64 a, .int .i64 b] 0] (by rfl) rfl ?_
    simp [frzH]
    refine A10 q6 ?_; try with_reducible exact tt
   ·simp only [if_neg E20] at x2
    simp only [updC, if_true, if_neg E20, E00, E10] at hU
    refine CallS.g [10, 11, 12, 1] (x2) (R0 ?_); try with_reducible exact tt
    subst hU
    simp only [if_neg E20]
    refine A10 E20 ?_; try with_reducible exact tt
  ·simp only [if_neg E10] at x1
   simp only [updC, if_true, if_neg E10, E00] at hU
   refine CallS.g [7, 8, 9, 1] (x1) (R0 ?_); try with_reducible exact tt
   subst hU
   simp only [if_neg E10]
   refine A10 E10 ?_; try with_reducible exact tt
 ·simp only [if_neg E00] at x0
  simp only [updC, if_true, if_neg E00] at hU
  refine CallS.g [4, 5, 6, 1] (x0) (R0 ?_); try with_reducible exact tt
  subst hU
  simp only [if_neg E00]
  refine A10 E00 ?_; try with_reducible exact tt


theorem o_tl {C k a b T : Nat} (hg : GoodR k a b) (g1 : 1 ≤ C) (g2 : C ≤ 64) (A0 B0 A1 B1 A2 B2 A3 B3 : Nat) (l0 l1 l2 l3 : List ST) (h0 : GoodRow C k a b ⟨A0, B0, l0⟩) (h1 : GoodRow C k a b ⟨A1, B1, l1⟩) (h2 : GoodRow C k a b ⟨A2, B2, l2⟩) (h3 : GoodRow C k a b ⟨A3, B3, l3⟩) :
  Eqn Tryz.prog o_5u [.p 0 0] [skO 4 C k a b [⟨A0, B0, l0⟩, ⟨A1, B1, l1⟩, ⟨A2, B2, l2⟩, ⟨A3, B3, l3⟩] T] (.p 1 0) [skO 4 C k a b [⟨A0, B0, l0⟩, ⟨A1, B1, l1⟩, ⟨A2, B2, l2⟩, ⟨A3, B3, l3⟩] T, ⟨125, [.d (.int .i64 (4 : Nat)), .d (.int .i64 C), .d (.int .i64 k), .d (.int .i64 a), .d (.int .i64 b), .own 2 3 4, .d (.int .i64 T)]⟩, ⟨130, [.d (.int .u64 A0), .d (.int .u64 B0), .p 3 0, .d (.int .u64 A1), .d (.int .u64 B1), .p 6 0, .d (.int .u64 A2), .d (.int .u64 B2), .p 9 0, .d (.int .u64 A3), .d (.int .u64 B3), .p 12 0]⟩, arrO 4 k a b, arrV 5 k a b l0, arrB k a b l0, arrO 7 k a b, arrV 8 k a b l1, arrB k a b l1, arrO 10 k a b, arrV 11 k a b l2, arrB k a b l2, arrO 13 k a b, arrV 14 k a b l3, arrB k a b l3] := by
 obtain ⟨-, -, e0, -⟩ := h0
 simp only at e0
 obtain ⟨-, -, e1, -⟩ := h1
 simp only at e1
 obtain ⟨-, -, e2, -⟩ := h2
 simp only at e2
 obtain ⟨-, -, e3, -⟩ := h3
 simp only at e3
 refine Eqn.gen [0, 1, 2, 4, 5, 6, 8, 9, 10, 12, 13, 14, 16, 17, 18] o_5w (by simp) (by simp) (by rfl) (by decide) (by simp) (by simp [skO, skD, arrO, arrV, arrB, vecO, vecB, u64s]) ?_
 have hc := o_sh 4 [.int .u64 A0, .int .u64 B0, .ptr (arrD k a b l0) 0, .int .u64 A1, .int .u64 B1, .ptr (arrD k a b l1) 0, .int .u64 A2, .int .u64 B2, .ptr (arrD k a b l2) 0, .int .u64 A3, .int .u64 B3, .ptr (arrD k a b l3) 0] (by omega) rfl (by omega)
 have d0 := o_rz l0 hg (by omega) (by omega)
 have d1 := o_rz l1 hg (by omega) (by omega)
 have d2 := o_rz l2 hg (by omega) (by omega)
 have d3 := o_rz l3 hg (by omega) (by omega)
 simp only [o_5v, skO, skD, rowsD, rowD, List.flatMap_cons, List.flatMap_nil, List.append_nil, List.cons_append, List.nil_append, List.map_cons, List.map_nil, List.length_cons, List.length_nil, arrO, arrV, arrB, vecO, vecB, e0, e1, e2, e3] at hc d0 d1 d2 d3 ⊢
 generalize arrD k a b l0 = AD0 at *
 generalize wordsP (wdR k a b) (encs k a b l0) = WS0 at *
 generalize arrD k a b l1 = AD1 at *
 generalize wordsP (wdR k a b) (encs k a b l1) = WS1 at *
 generalize arrD k a b l2 = AD2 at *
 generalize wordsP (wdR k a b) (encs k a b l2) = WS2 at *
 generalize arrD k a b l3 = AD3 at *
 generalize wordsP (wdR k a b) (encs k a b l3) = WS3 at *
 generalize nwP C (wdR k a b) = NW at *
 generalize wdR k a b = w at *
 refine G0 ?_; try with_reducible exact tt
 refine CallS.g [] (hc) (R0 ?_); try with_reducible exact tt
 refine AW.rounds 5 ?_
 refine A00 ?_; try with_reducible exact tt
 refine CallS.g [] (d0) (R0 ?_); try with_reducible exact tt
 refine A00 ?_; try with_reducible exact tt
 refine CallS.g [] (d1) (R0 ?_); try with_reducible exact tt
 refine A00 ?_; try with_reducible exact tt
 refine CallS.g [] (d2) (R0 ?_); try with_reducible exact tt
 refine A00 ?_; try with_reducible exact tt
 refine CallS.g [] (d3) (R0 ?_); try with_reducible exact tt
 refine A00 ?_; try with_reducible exact tt

set_option maxHeartbeats 4000000 in
theorem o_tm {C k a b T : Nat} (hg : GoodR k a b) (g1 : 1 ≤ C) (g2 : C ≤ 64) (A0 B0 A1 B1 A2 B2 A3 B3 : Nat) (l0 l1 l2 l3 : List ST) (h0 : GoodRow C k a b ⟨A0, B0, l0⟩) (h1 : GoodRow C k a b ⟨A1, B1, l1⟩) (h2 : GoodRow C k a b ⟨A2, B2, l2⟩) (h3 : GoodRow C k a b ⟨A3, B3, l3⟩) (cs : List Bool) (key n p : Nat) (d : Bool) (hk : key < hP) (hn : n ≤ 1048576) (hT : T + n ≤ 1099511627776) (hp : p ≤ cs.length) (hc : cs.length ≤ 4000000) (U : UR) (hU : U = updM cs C k a b key n [⟨A0, B0, l0⟩, ⟨A1, B1, l1⟩, ⟨A2, B2, l2⟩, ⟨A3, B3, l3⟩] p d) :
  Eqn Tryz.prog o_5x [.p 0 0, .p 1 0, .d (.int .u64 key), .d (.int .i64 n)] [skO 4 C k a b [⟨A0, B0, l0⟩, ⟨A1, B1, l1⟩, ⟨A2, B2, l2⟩, ⟨A3, B3, l3⟩] T, tapeO cs p d] (.d (.int .i64 U.e)) [if U.e = 0 then skO 4 C k a b U.rs (T + n) else skO 4 C k a b [⟨A0, B0, l0⟩, ⟨A1, B1, l1⟩, ⟨A2, B2, l2⟩, ⟨A3, B3, l3⟩] T, tapeO cs U.p U.d] := by
 have hcl := o_tl (T := T) hg g1 g2 A0 B0 A1 B1 A2 B2 A3 B3 l0 l1 l2 l3 h0 h1 h2 h3
 obtain ⟨a0, b0, e0, w0⟩ := h0
 simp only at a0 b0 e0 w0
 have c0 : colOf C A0 B0 key < C := Nat.mod_lt _ (by omega)
 have o0 := o_s8 A0 B0 key C a0 b0 hk g1 g2
 rw [show hsum A0 B0 key % C = colOf C A0 B0 key from rfl] at o0
 obtain ⟨Z0, z0⟩ : ∃ Z, Z = updR cs C k a b key n ⟨A0, B0, l0⟩ p d := ⟨_, rfl⟩
 have p0 : Z0.p ≤ cs.length := by rw [z0]; exact (o_o2 hg (o_rc w0 (show colOf C A0 B0 key < l0.length by omega)) hp hc).1
 have x0 := o_rl cs l0 (colOf C A0 B0 key) n p d hg w0 (by omega) (by omega) hn hp hc Z0 z0
 obtain ⟨a1, b1, e1, w1⟩ := h1
 simp only at a1 b1 e1 w1
 have c1 : colOf C A1 B1 key < C := Nat.mod_lt _ (by omega)
 have o1 := o_s8 A1 B1 key C a1 b1 hk g1 g2
 rw [show hsum A1 B1 key % C = colOf C A1 B1 key from rfl] at o1
 obtain ⟨Z1, z1⟩ : ∃ Z, Z = updR cs C k a b key n ⟨A1, B1, l1⟩ Z0.p Z0.d := ⟨_, rfl⟩
 have p1 : Z1.p ≤ cs.length := by rw [z1]; exact (o_o2 hg (o_rc w1 (show colOf C A1 B1 key < l1.length by omega)) p0 hc).1
 have x1 := o_rl cs l1 (colOf C A1 B1 key) n Z0.p Z0.d hg w1 (by omega) (by omega) hn p0 hc Z1 z1
 obtain ⟨a2, b2, e2, w2⟩ := h2
 simp only at a2 b2 e2 w2
 have c2 : colOf C A2 B2 key < C := Nat.mod_lt _ (by omega)
 have o2 := o_s8 A2 B2 key C a2 b2 hk g1 g2
 rw [show hsum A2 B2 key % C = colOf C A2 B2 key from rfl] at o2
 obtain ⟨Z2, z2⟩ : ∃ Z, Z = updR cs C k a b key n ⟨A2, B2, l2⟩ Z1.p Z1.d := ⟨_, rfl⟩
 have p2 : Z2.p ≤ cs.length := by rw [z2]; exact (o_o2 hg (o_rc w2 (show colOf C A2 B2 key < l2.length by omega)) p1 hc).1
 have x2 := o_rl cs l2 (colOf C A2 B2 key) n Z1.p Z1.d hg w2 (by omega) (by omega) hn p1 hc Z2 z2
 obtain ⟨a3, b3, e3, w3⟩ := h3
 simp only at a3 b3 e3 w3
 have c3 : colOf C A3 B3 key < C := Nat.mod_lt _ (by omega)
 have o3 := o_s8 A3 B3 key C a3 b3 hk g1 g2
 rw [show hsum A3 B3 key % C = colOf C A3 B3 key from rfl] at o3
 obtain ⟨Z3, z3⟩ : ∃ Z, Z = updR cs C k a b key n ⟨A3, B3, l3⟩ Z2.p Z2.d := ⟨_, rfl⟩
 have p3 : Z3.p ≤ cs.length := by rw [z3]; exact (o_o2 hg (o_rc w3 (show colOf C A3 B3 key < l3.length by omega)) p2 hc).1
 have x3 := o_rl cs l3 (colOf C A3 B3 key) n Z2.p Z2.d hg w3 (by omega) (by omega) hn p2 hc Z3 z3
 simp only [updM] at hU
 rw [← z0] at hU
 rw [← z1] at hU
 rw [← z2] at hU
 rw [← z3] at hU
 clear z0 p0 z1 p1 z2 p2 z3 p3
 have D0 : arrD k a b (l0.set (colOf C A0 B0 key) (Z0.y, Z0.t, Z0.f)) = [.ptr [.sl (nwP C (wdR k a b)) ((wordsP (wdR k a b) (encs k a b (l0.set (colOf C A0 B0 key) (Z0.y, Z0.t, Z0.f)))).map fun x : Nat => D.int .u64 x), .int .i64 C, .int .i64 (wdR k a b)] 0, .int .i64 k, .int .i64 a, .int .i64 b] := by simp [arrD, vecD, e0]
 have L0 : ((wordsP (wdR k a b) (encs k a b (l0.set (colOf C A0 B0 key) (Z0.y, Z0.t, Z0.f)))).map fun x : Nat => D.int .u64 x).length = nwP C (wdR k a b) := by simp [e0]
 have u0 : u64s (wordsP (wdR k a b) (encs k a b (l0.set (colOf C A0 B0 key) (Z0.y, Z0.t, Z0.f)))) = ((wordsP (wdR k a b) (encs k a b (l0.set (colOf C A0 B0 key) (Z0.y, Z0.t, Z0.f)))).map fun x : Nat => D.int .u64 x).map V.d := by simp [u64s]
 have D1 : arrD k a b (l1.set (colOf C A1 B1 key) (Z1.y, Z1.t, Z1.f)) = [.ptr [.sl (nwP C (wdR k a b)) ((wordsP (wdR k a b) (encs k a b (l1.set (colOf C A1 B1 key) (Z1.y, Z1.t, Z1.f)))).map fun x : Nat => D.int .u64 x), .int .i64 C, .int .i64 (wdR k a b)] 0, .int .i64 k, .int .i64 a, .int .i64 b] := by simp [arrD, vecD, e1]
 have L1 : ((wordsP (wdR k a b) (encs k a b (l1.set (colOf C A1 B1 key) (Z1.y, Z1.t, Z1.f)))).map fun x : Nat => D.int .u64 x).length = nwP C (wdR k a b) := by simp [e1]
 have u1 : u64s (wordsP (wdR k a b) (encs k a b (l1.set (colOf C A1 B1 key) (Z1.y, Z1.t, Z1.f)))) = ((wordsP (wdR k a b) (encs k a b (l1.set (colOf C A1 B1 key) (Z1.y, Z1.t, Z1.f)))).map fun x : Nat => D.int .u64 x).map V.d := by simp [u64s]
 have D2 : arrD k a b (l2.set (colOf C A2 B2 key) (Z2.y, Z2.t, Z2.f)) = [.ptr [.sl (nwP C (wdR k a b)) ((wordsP (wdR k a b) (encs k a b (l2.set (colOf C A2 B2 key) (Z2.y, Z2.t, Z2.f)))).map fun x : Nat => D.int .u64 x), .int .i64 C, .int .i64 (wdR k a b)] 0, .int .i64 k, .int .i64 a, .int .i64 b] := by simp [arrD, vecD, e2]
 have L2 : ((wordsP (wdR k a b) (encs k a b (l2.set (colOf C A2 B2 key) (Z2.y, Z2.t, Z2.f)))).map fun x : Nat => D.int .u64 x).length = nwP C (wdR k a b) := by simp [e2]
 have u2 : u64s (wordsP (wdR k a b) (encs k a b (l2.set (colOf C A2 B2 key) (Z2.y, Z2.t, Z2.f)))) = ((wordsP (wdR k a b) (encs k a b (l2.set (colOf C A2 B2 key) (Z2.y, Z2.t, Z2.f)))).map fun x : Nat => D.int .u64 x).map V.d := by simp [u64s]
 have D3 : arrD k a b (l3.set (colOf C A3 B3 key) (Z3.y, Z3.t, Z3.f)) = [.ptr [.sl (nwP C (wdR k a b)) ((wordsP (wdR k a b) (encs k a b (l3.set (colOf C A3 B3 key) (Z3.y, Z3.t, Z3.f)))).map fun x : Nat => D.int .u64 x), .int .i64 C, .int .i64 (wdR k a b)] 0, .int .i64 k, .int .i64 a, .int .i64 b] := by simp [arrD, vecD, e3]
 have L3 : ((wordsP (wdR k a b) (encs k a b (l3.set (colOf C A3 B3 key) (Z3.y, Z3.t, Z3.f)))).map fun x : Nat => D.int .u64 x).length = nwP C (wdR k a b) := by simp [e3]
 have u3 : u64s (wordsP (wdR k a b) (encs k a b (l3.set (colOf C A3 B3 key) (Z3.y, Z3.t, Z3.f)))) = ((wordsP (wdR k a b) (encs k a b (l3.set (colOf C A3 B3 key) (Z3.y, Z3.t, Z3.f)))).map fun x : Nat => D.int .u64 x).map V.d := by simp [u64s]
 refine Eqn.gen [0, 1] o_5z (by simp) (by simp) (by rfl) (by decide) (by simp) (by intro ob hob; simp at hob; rcases hob with rfl | rfl; (split <;> simp [skO, skD]); simp [tapeO]) ?_
 have q1 : ¬ (2305843009213693951 : Int) ≤ key := by unfold hP at hk; omega
 have q2 : ¬ 2305843009213693951 ≤ key := by unfold hP at hk; omega
 have q3 : ¬ (n : Int) < 0 := by omega
 have q4 : ¬ (1048576 : Int) < n := by omega
 have q5 : ¬ 1048576 < n := by omega
 have q6 : IntKind.i64.wrap ((T : Int) + n) = ((T + n : Nat) : Int) := by rw [w64 (by omega) (by omega)]; omega
 have q7 : ¬ (1099511627776 : Int) < (T : Int) + n := by omega
 have q8 : ¬ 1099511627776 < T + n := by omega
 have es : ∀ rs : List Rw, rs.length = 4 → (skO 4 C k a b rs (T + n)) = ⟨125, [.d (.int .i64 (4 : Nat)), .d (.int .i64 C), .d (.int .i64 k), .d (.int .i64 a), .d (.int .i64 b), .d (.sl 4 (rowsD k a b rs)), .d (.int .i64 (T + n : Nat))]⟩ := by intro rs h; simp [skO, skD, h]
 have eo : skO 4 C k a b [⟨A0, B0, l0⟩, ⟨A1, B1, l1⟩, ⟨A2, B2, l2⟩, ⟨A3, B3, l3⟩] T = ⟨125, [.d (.int .i64 (4 : Nat)), .d (.int .i64 C), .d (.int .i64 k), .d (.int .i64 a), .d (.int .i64 b), .d (.sl 4 [.int .u64 A0, .int .u64 B0, .ptr (arrD k a b l0) 0, .int .u64 A1, .int .u64 B1, .ptr (arrD k a b l1) 0, .int .u64 A2, .int .u64 B2, .ptr (arrD k a b l2) 0, .int .u64 A3, .int .u64 B3, .ptr (arrD k a b l3) 0]), .d (.int .i64 T)]⟩ := by simp [skO, skD, rowsD, rowD]
 rw [eo] at hcl ⊢
 simp only [o_5y, arrO, arrV, arrB, vecO, vecB, hD, List.length_set, e0, e1, e2, e3] at hcl o0 o1 o2 o3 x0 x1 x2 x3 ⊢
 generalize hl0 : l0.set (colOf C A0 B0 key) (Z0.y, Z0.t, Z0.f) = m0 at *
 generalize colOf C A0 B0 key = col0 at *
 generalize arrD k a b l0 = AD0 at *
 obtain ⟨E0, Y0, T0, F0, P0, G0⟩ := Z0
 simp only at x0 hU
 generalize hl1 : l1.set (colOf C A1 B1 key) (Z1.y, Z1.t, Z1.f) = m1 at *
 generalize colOf C A1 B1 key = col1 at *
 generalize arrD k a b l1 = AD1 at *
 obtain ⟨E1, Y1, T1, F1, P1, G1⟩ := Z1
 simp only at x1 hU
 generalize hl2 : l2.set (colOf C A2 B2 key) (Z2.y, Z2.t, Z2.f) = m2 at *
 generalize colOf C A2 B2 key = col2 at *
 generalize arrD k a b l2 = AD2 at *
 obtain ⟨E2, Y2, T2, F2, P2, G2⟩ := Z2
 simp only at x2 hU
 generalize hl3 : l3.set (colOf C A3 B3 key) (Z3.y, Z3.t, Z3.f) = m3 at *
 generalize colOf C A3 B3 key = col3 at *
 generalize arrD k a b l3 = AD3 at *
 obtain ⟨E3, Y3, T3, F3, P3, G3⟩ := Z3
 simp only at x3 hU
 generalize nwP C (wdR k a b) = NW at *
 refine A10 (fs q1 (fs q2 (fs q3 (fs q4 (fs q5 (fs q6 (fs q7 q8))))))) ?_; try with_reducible exact tt
 refine CallS.g [0] (hcl) (R0 ?_); try with_reducible exact tt
 refine AW.rounds 5 ?_
 refine A01 o0 ?_; try with_reducible exact tt
 by_cases E00 : E0 = 0
 ·simp only [E00, if_true, u0] at x0
  generalize ((wordsP (wdR k a b) (encs k a b m0)).map fun x : Nat => D.int .u64 x) = WD0 at *
  refine CallS.g [4, 5, 6, 1] (x0) (R0 ?_); try with_reducible exact tt
  refine A01 o1 ?_; try with_reducible exact tt
  by_cases E10 : E1 = 0
  ·simp only [E10, if_true, u1] at x1
   generalize ((wordsP (wdR k a b) (encs k a b m1)).map fun x : Nat => D.int .u64 x) = WD1 at *
   refine CallS.g [7, 8, 9, 1] (x1) (R0 ?_); try with_reducible exact tt
   refine A01 o2 ?_; try with_reducible exact tt
   by_cases E20 : E2 = 0
   ·simp only [E20, if_true, u2] at x2
    generalize ((wordsP (wdR k a b) (encs k a b m2)).map fun x : Nat => D.int .u64 x) = WD2 at *
    refine CallS.g [10, 11, 12, 1] (x2) (R0 ?_); try with_reducible exact tt
    refine A01 o3 ?_; try with_reducible exact tt
    by_cases E30 : E3 = 0
    ·simp only [E30, if_true, u3] at x3
     generalize ((wordsP (wdR k a b) (encs k a b m3)).map fun x : Nat => D.int .u64 x) = WD3 at *
     refine CallS.g [13, 14, 15, 1] (x3) (R0 ?_); try with_reducible exact tt
     simp only [updC, if_true, E00, E10, E20, E30] at hU
     subst hU
     simp only [if_true]
     rw [es _ rfl]
     simp only [rowsD, rowD, List.flatMap_cons, List.flatMap_nil, List.append_nil, List.cons_append, List.nil_append, D0, D1, D2, D3]
     have t0 : WD0.take NW = WD0 := List.take_of_length_le (by omega)
     have t1 : WD1.take NW = WD1 := List.take_of_length_le (by omega)
     have t2 : WD2.take NW = WD2 := List.take_of_length_le (by omega)
     have t3 : WD3.take NW = WD3 := List.take_of_length_le (by omega)
     generalize wdR k a b = w at *
     refine AW.freeze 6 1 ⟨44, WD0.map V.d⟩ WD0 (by simp) rfl ?_
     simp [frzH, t0]
     refine AW.freeze 5 1 ⟨226, [.d (.sl NW WD0), .d (.int .i64 C), .d (.int .i64 w)]⟩ [.sl NW WD0, .int .i64 C, .int .i64 w] (by rfl) rfl ?_
     simp [frzH]
     refine AW.freeze 4 1 ⟨166, [.d (.ptr [.sl NW WD0, .int .i64 C, .int .i64 w] 0), .d (.int .i64 k), .d (.int .i64 a), .d (.int .i64 b)]⟩ [.ptr [.sl NW WD0, .int .i64 C, .int .i64 w] 0, .int .i64 k, .int .i64 a, .int .i64 b] (by rfl) rfl ?_
     simp [frzH]
     refine AW.freeze 9 1 ⟨44, WD1.map V.d⟩ WD1 (by simp) rfl ?_
     simp [frzH, t1]
     refine AW.freeze 8 1 ⟨226, [.d (.sl NW WD1), .d (.int .i64 C), .d (.int .i64 w)]⟩ [.sl NW WD1, .int .i64 C, .int .i64 w] (by rfl) rfl ?_
     simp [frzH]
     refine AW.freeze 7 1 ⟨166, [.d (.ptr [.sl NW WD1, .int .i64 C, .int .i64 w] 0), .d (.int .i64 k), .d (.int .i64 a), .d (.int .i64 b)]⟩ [.ptr [.sl NW WD1, .int .i64 C, .int .i64 w] 0, .int .i64 k, .int .i64 a, .int .i64 b] (by rfl) rfl ?_
     simp [frzH]
     refine AW.freeze 12 1 ⟨44, WD2.map V.d⟩ WD2 (by simp) rfl ?_
     simp [frzH, t2]
     refine AW.freeze 11 1 ⟨226, [.d (.sl NW WD2), .d (.int .i64 C), .d (.int .i64 w)]⟩ [.sl NW WD2, .int .i64 C, .int .i64 w] (by rfl) rfl ?_
     simp [frzH]
     refine AW.freeze 10 1 ⟨166, [.d (.ptr [.sl NW WD2, .int .i64 C, .int .i64 w] 0), .d (.int .i64 k), .d (.int .i64 a), .d (.int .i64 b)]⟩ [.ptr [.sl NW WD2, .int .i64 C, .int .i64 w] 0, .int .i64 k, .int .i64 a, .int .i64 b] (by rfl) rfl ?_
     simp [frzH]
     refine AW.freeze 15 1 ⟨44, WD3.map V.d⟩ WD3 (by simp) rfl ?_
     simp [frzH, t3]
     refine AW.freeze 14 1 ⟨226, [.d (.sl NW WD3), .d (.int .i64 C), .d (.int .i64 w)]⟩ [.sl NW WD3, .int .i64 C, .int .i64 w] (by rfl) rfl ?_
     simp [frzH]
     refine AW.freeze 13 1 ⟨166, [.d (.ptr [.sl NW WD3, .int .i64 C, .int .i64 w] 0), .d (.int .i64 k), .d (.int .i64 a), .d (.int .i64 b)]⟩ [.ptr [.sl NW WD3, .int .i64 C, .int .i64 w] 0, .int .i64 k, .int .i64 a, .int .i64 b] (by rfl) rfl ?_
     simp [frzH]
     refine AW.freeze 3 3 ⟨130, [.int .u64 A0, .int .u64 B0, .ptr [.ptr [.sl NW WD0, .int .i64 C, .int .i64 w] 0, .int .i64 k, .int .i64 a, .int .i64 b] 0, .int .u64 A1, .int .u64 B1, .ptr [.ptr [.sl NW WD1, .int .i64 C, .int .i64 w] 0, .int .i64 k, .int .i64 a, .int .i64 b] 0, .int .u64 A2, .int .u64 B2, .ptr [.ptr [.sl NW WD2, .int .i64 C, .int .i64 w] 0, .int .i64 k, .int .i64 a, .int .i64 b] 0, .int .u64 A3, .int .u64 B3, .ptr [.ptr [.sl NW WD3, .int .i64 C, .int .i64 w] 0, .int .i64 k, .int .i64 a, .int .i64 b] 0].map V.d⟩ [.int .u64 A0, .int .u64 B0, .ptr [.ptr [.sl NW WD0, .int .i64 C, .int .i64 w] 0, .int .i64 k, .int .i64 a, .int .i64 b] 0, .int .u64 A1, .int .u64 B1, .ptr [.ptr [.sl NW WD1, .int .i64 C, .int .i64 w] 0, .int .i64 k, .int .i64 a, .int .i64 b] 0, .int .u64 A2, .int .u64 B2, .ptr [.ptr [.sl NW WD2, .int .i64 C, .int .i64 w] 0, .int .i64 k, .int .i64 a, .int .i64 b] 0, .int .u64 A3, .int .u64 B3, .ptr [.ptr [.sl NW WD3, .int .i64 C, .int .i64 w] 0, .int .i64 k, .int .i64 a, .int .i64 b] 0] (by rfl) rfl ?_
     simp [frzH]
     refine A10 q6 ?_; try with_reducible exact tt
    ·simp only [if_neg E30] at x3
     simp only [updC, if_true, if_neg E30, E00, E10, E20] at hU
     refine CallS.g [13, 14, 15, 1] (x3) (R0 ?_); try with_reducible exact tt
     subst hU
     simp only [if_neg E30]
     refine A10 E30 ?_; try with_reducible exact tt
   ·simp only [if_neg E20] at x2
    simp only [updC, if_true, if_neg E20, E00, E10] at hU
    refine CallS.g [10, 11, 12, 1] (x2) (R0 ?_); try with_reducible exact tt
    subst hU
    simp only [if_neg E20]
    refine A10 E20 ?_; try with_reducible exact tt
  ·simp only [if_neg E10] at x1
   simp only [updC, if_true, if_neg E10, E00] at hU
   refine CallS.g [7, 8, 9, 1] (x1) (R0 ?_); try with_reducible exact tt
   subst hU
   simp only [if_neg E10]
   refine A10 E10 ?_; try with_reducible exact tt
 ·simp only [if_neg E00] at x0
  simp only [updC, if_true, if_neg E00] at hU
  refine CallS.g [4, 5, 6, 1] (x0) (R0 ?_); try with_reducible exact tt
  subst hU
  simp only [if_neg E00]
  refine A10 E00 ?_; try with_reducible exact tt
end
end Go.Proofs.YtlelpbaeplcfiaaGreatDoor.Am
namespace Go.Proofs.YtlelpbaeplcfiaaGreatDoor.Am
section
open Go.RowKit
theorem o_tn {R C k a b T : Nat} (hg : GoodR k a b) (g1 : 1 ≤ C) (g2 : C ≤ 64) (rs : List Rw) (hR : rs.length = R) (h1 : 1 ≤ R) (h4 : R ≤ 4) (hr : ∀ r ∈ rs, GoodRow C k a b r) (cs : List Bool) (key n p : Nat) (d : Bool) (hk : key < hP) (hn : n ≤ 1048576) (hT : T + n ≤ 1099511627776) (hp : p ≤ cs.length) (hc : cs.length ≤ 4000000) (U : UR) (hU : U = updM cs C k a b key n rs p d) :
  Eqn Tryz.prog o_5x [.p 0 0, .p 1 0, .d (.int .u64 key), .d (.int .i64 n)] [skO R C k a b rs T, tapeO cs p d] (.d (.int .i64 U.e)) [if U.e = 0 then skO R C k a b U.rs (T + n) else skO R C k a b rs T, tapeO cs U.p U.d] := by
 subst hR
 match rs, h1, h4, hr, hU with
 | [⟨A0, B0, l0⟩], _, _, hr, hU =>
  have h0 := hr _ (List.mem_cons_self)
  have h := o_sj (T := T) hg g1 g2 A0 B0 l0 h0 cs key n p d hk hn hT hp hc _ rfl
  obtain ⟨Z, hZ⟩ : ∃ Z, Z = updR cs C k a b key n ⟨A0, B0, l0⟩ p d := ⟨_, rfl⟩
  rw [show addRM cs k a b n (l0.getD (colOf C A0 B0 key) (0, 0, false)).1 (l0.getD (colOf C A0 B0 key) (0, 0, false)).2.1 (l0.getD (colOf C A0 B0 key) (0, 0, false)).2.2 p d = Z from hZ.symm] at h
  simp only [updM] at hU
  rw [← hZ] at hU
  subst hU
  unfold updC
  by_cases he : Z.e = 0
  ·rw [if_pos he] at h
   simp only [if_pos he, if_true]
   rw [he] at h
   exact h
  ·rw [if_neg he] at h
   simp only [if_neg he]
   exact h
 | [⟨A0, B0, l0⟩, ⟨A1, B1, l1⟩], _, _, hr, hU => exact o_ti hg g1 g2 A0 B0 A1 B1 l0 l1 (hr _ (by simp)) (hr _ (by simp)) cs key n p d hk hn hT hp hc U hU
 | [⟨A0, B0, l0⟩, ⟨A1, B1, l1⟩, ⟨A2, B2, l2⟩], _, _, hr, hU => exact o_tk hg g1 g2 A0 B0 A1 B1 A2 B2 l0 l1 l2 (hr _ (by simp)) (hr _ (by simp)) (hr _ (by simp)) cs key n p d hk hn hT hp hc U hU
 | [⟨A0, B0, l0⟩, ⟨A1, B1, l1⟩, ⟨A2, B2, l2⟩, ⟨A3, B3, l3⟩], _, _, hr, hU => exact o_tm hg g1 g2 A0 B0 A1 B1 A2 B2 A3 B3 l0 l1 l2 l3 (hr _ (by simp)) (hr _ (by simp)) (hr _ (by simp)) (hr _ (by simp)) cs key n p d hk hn hT hp hc U hU

theorem o_to {R C k a b T : Nat} (rs : List Rw) : Eqn Tryz.prog o_6f [.p 0 0] [skO R C k a b rs T] (.d (.int .i64 T)) [skO R C k a b rs T] := by
 refine Eqn.gen [0] o_6h (by simp) (by simp) (by rfl) (by decide) (by simp) (by simp [skO, skD]) ?_
 simp only [o_6g, skO, skD, List.map_cons, List.map_nil]
 refine A00 ?_; try with_reducible exact tt
end
end Go.Proofs.YtlelpbaeplcfiaaGreatDoor.Am
namespace Go.Proofs.YtlelpbaeplcfiaaGreatDoor.Am
section
open Go.RowKit
theorem o_tp {I : Nat → Prop} {w : World} {α : Type} (f : α → List D) (g : α → List Value) (h : ∀ a, D.reps I w (f a) (g a)) : ∀ l : List α, D.reps I w (l.flatMap f) (l.map g).flatten
 | [] => by simp
 | a :: l => by
  rw [List.flatMap_cons, List.map_cons, List.flatten_cons]
  exact D.reps_append (h a) (o_tp f g h l)
theorem o_tq {W : World} {v : Value} {s : Nat} {α : Type} {l : List α} (f : α → List D) (g : α → List Value) (hg : ∀ a, ∀ u ∈ g a, u.oneCell' = true) (hr : ∀ a, D.reps (fun b => b < W.heap.size) W (f a) (g a)) (h : Cells W v s l.length (l.map g).flatten) : V.rep (memW W) (.d (.sl l.length (l.flatMap f))) v := by
 rw [V.rep_d]
 unfold D.rep
 obtain ⟨h1, p, cap, rfl, h2, h3, h4⟩ := h
 refine ⟨p, cap, rfl, h2, h3, (l.map g).flatten, fun u hu => ?_, o_tp f g hr l, ?_⟩
 ·obtain ⟨x, hx, hu⟩ := List.mem_flatten.1 hu
  obtain ⟨a, -, rfl⟩ := List.mem_map.1 hx
  exact hg a u hu
 ·rcases h4 with ⟨rfl, h5, h6⟩ | ⟨b, o, rfl, hb, hc⟩
  ·left
   have : l = [] := List.eq_nil_of_length_eq_zero h5
   subst this
   exact ⟨rfl, h6, rfl⟩
  ·exact .inr ⟨b, o, rfl, .inr hb, hc⟩
end
end Go.Proofs.YtlelpbaeplcfiaaGreatDoor.Am
namespace Go.Proofs.YtlelpbaeplcfiaaGreatDoor.Am
section
open Go.RowKit
theorem o_tr : ∀ {L : List Int}, (∀ a ∈ L, (Lit.int .u64 a).wf = true) → ∃ ws : List Nat, L = ws.map (fun n : Nat => (n : Int)) ∧ ∀ x ∈ ws, x < 18446744073709551616
 | [], _ => ⟨[], rfl, by simp⟩
 | a :: L, h => by
  obtain ⟨ws, rfl, hw⟩ := o_tr (L := L) fun b hb => h b (List.mem_cons_of_mem _ hb)
  have ha := h a (List.mem_cons_self)
  unfold Lit.wf at ha
  simp only [Bool.and_eq_true, decide_eq_true_eq] at ha
  have h0 : (0 : Int) ≤ a := ha.1
  have h1 : a ≤ 18446744073709551615 := ha.2
  refine ⟨a.toNat :: ws, by simp [Int.toNat_of_nonneg h0], fun x hx => ?_⟩
  rcases List.mem_cons.1 hx with rfl | hx
  ·omega
  ·exact hw x hx
theorem o_ts : ∀ {L : List (Int × Int)}, (∀ a ∈ L, (Lit.int .u64 a.1).wf = true ∧ (Lit.int .i64 a.2).wf = true) → ∃ us : List (Nat × Int), L = us.map (fun u => ((u.1 : Int), u.2)) ∧ ∀ u ∈ us, u.1 < 18446744073709551616
 | [], _ => ⟨[], rfl, by simp⟩
 | (a, b) :: L, h => by
  obtain ⟨us, rfl, hw⟩ := o_ts (L := L) fun b hb => h b (List.mem_cons_of_mem _ hb)
  have ha := (h (a, b) (List.mem_cons_self)).1
  unfold Lit.wf at ha
  simp only [Bool.and_eq_true, decide_eq_true_eq] at ha
  have h0 : (0 : Int) ≤ a := ha.1
  have h1 : a ≤ 18446744073709551615 := ha.2
  refine ⟨(a.toNat, b) :: us, by simp [Int.toNat_of_nonneg h0], fun x hx => ?_⟩
  rcases List.mem_cons.1 hx with rfl | hx
  ·simp only; omega
  ·exact hw x hx
theorem o_tt {W : World} {v : Value} {s n : Nat} {l : List Value} (h : Cells W v s n l) : v.oneCell' = true := by
 obtain ⟨_, p, cap, rfl, _⟩ := h; rfl
end
end Go.Proofs.YtlelpbaeplcfiaaGreatDoor.Am
namespace Go.Proofs.YtlelpbaeplcfiaaGreatDoor.Am
section
def exitQ {β : Type} (id N : Nat) (T1 : β → List V) (H1 : β → List (Option Ob)) (R2 : β → Prop) (Q : Exit → List V → List (Option Ob) → Prop) : Exit → List V → List (Option Ob) → Prop
 | .exit j, T, H => if j = id then ∃ b, R2 b ∧ wk N T (T1 b) ∧ wkH N H (H1 b) else Q (.exit j) T H
 | .normal, _, _ => False
 | e, T, H => Q e T H
attribute [simp] exitQ
end
end Go.Proofs.YtlelpbaeplcfiaaGreatDoor.Am
namespace Go.Proofs.YtlelpbaeplcfiaaGreatDoor.Am
section
open Go.RowKit
def aloneV (l : List ST) : List V := l.flatMap fun s => [.d (.int .i64 s.1), .d (.int .i64 s.2.1), .d (.bool s.2.2)]
@[simp] theorem o_tu (n : Nat) (l : List ST) : V.lowl n (aloneV l) = true := by induction l <;> simp_all [aloneV]

def actsL (l : List (Int × Int)) : List D := l.flatMap fun a => [.int .i64 a.1, .int .i64 a.2]
end
end Go.Proofs.YtlelpbaeplcfiaaGreatDoor.Am
namespace Go.Proofs.YtlelpbaeplcfiaaGreatDoor.Am
section
open Go.RowKit
theorem o_tv {cs : List Bool} {C k a b key n : Nat} (hg : GoodR k a b) (hC : 1 ≤ C) (hc : cs.length ≤ 4000000) : ∀ (rs : List Rw) (p : Nat) (d : Bool), (∀ r ∈ rs, GoodRow C k a b r) → p ≤ cs.length →
  (updM cs C k a b key n rs p d).p ≤ cs.length ∧ ((updM cs C k a b key n rs p d).e = 0 → (updM cs C k a b key n rs p d).rs.length = rs.length ∧ (∀ r ∈ (updM cs C k a b key n rs p d).rs, GoodRow C k a b r) ∧ (updM cs C k a b key n rs p d).rs.map (fun r => (r.a, r.b)) = rs.map fun r => (r.a, r.b))
 | [], p, d, _, hp => ⟨hp, fun _ => ⟨rfl, by simp [updM], rfl⟩⟩
 | r :: rs, p, d, h, hp => by
  obtain ⟨h1, h2, h3, h4⟩ := h r (by simp)
  have hcol : colOf C r.a r.b key < r.l.length := by rw [h3]; exact Nat.mod_lt _ (by omega)
  have hw := o_o2 (cs := cs) (n := n) (p := p) (d := d) hg (o_rc h4 hcol) hp hc
  have hu : addRM cs k a b n (r.l.getD (colOf C r.a r.b key) (0, 0, false)).1 (r.l.getD (colOf C r.a r.b key) (0, 0, false)).2.1 (r.l.getD (colOf C r.a r.b key) (0, 0, false)).2.2 p d = updR cs C k a b key n r p d := rfl
  rw [hu] at hw
  have ih := o_tv (key := key) (n := n) hg hC hc rs (updR cs C k a b key n r p d).p (updR cs C k a b key n r p d).d (fun x hx => h x (by simp [hx])) hw.1
  rw [updM]
  generalize updM cs C k a b key n rs (updR cs C k a b key n r p d).p (updR cs C k a b key n r p d).d = U at *
  generalize updR cs C k a b key n r p d = Z at *
  unfold updC
  by_cases he : Z.e = 0
  ·rw [if_pos he]
   refine ⟨ih.1, fun h0 => ?_⟩
   obtain ⟨i1, i2, i3⟩ := ih.2 h0
   refine ⟨by simp [i1], fun x hx => ?_, by simp [i3]⟩
   rcases List.mem_cons.1 hx with rfl | hx
   ·exact ⟨h1, h2, by simpa using h3, o_ri h4 _ (hw.2 he)⟩
   ·exact i2 x hx
  ·rw [if_neg he]
   exact ⟨hw.1, fun h0 => absurd h0 he⟩

structure BS where
 rs : List Rw
 T : Nat
 p : Nat
 d : Bool
def bN (z : Int) : Nat := (bits BinOp.and IntKind.i64 z 7).toNat
def bstep (cs : List Bool) (C k a b : Nat) (s : BS) (u : Nat × Int) : BS :=
 if (updM cs C k a b (u.1 % hP) (bN u.2) s.rs s.p s.d).e = 0 then ⟨(updM cs C k a b (u.1 % hP) (bN u.2) s.rs s.p s.d).rs, s.T + bN u.2, (updM cs C k a b (u.1 % hP) (bN u.2) s.rs s.p s.d).p, (updM cs C k a b (u.1 % hP) (bN u.2) s.rs s.p s.d).d⟩
 else ⟨s.rs, s.T, (updM cs C k a b (u.1 % hP) (bN u.2) s.rs s.p s.d).p, (updM cs C k a b (u.1 % hP) (bN u.2) s.rs s.p s.d).d⟩
def bldM (cs : List Bool) (C k a b : Nat) (us : List (Nat × Int)) (rs : List Rw) (i : Nat) : BS := (us.take i).foldl (bstep cs C k a b) ⟨rs, 0, 0, false⟩
def BGood (cs : List Bool) (C k a b : Nat) (rs : List Rw) (i : Nat) (s : BS) : Prop := s.rs.length = rs.length ∧ (∀ r ∈ s.rs, GoodRow C k a b r) ∧ (s.rs.map fun r => (r.a, r.b)) = (rs.map fun r => (r.a, r.b)) ∧ s.T ≤ 7 * i ∧ s.p ≤ cs.length
theorem o_tw {C k a b : Nat} (hg : GoodR k a b) (x : Nat × Nat) (h : x.1 < hP ∧ x.2 < hP) : GoodRow C k a b (newRow C x) := ⟨h.1, h.2, by simp [newRow], o_rh hg C⟩
end
end Go.Proofs.YtlelpbaeplcfiaaGreatDoor.Am
namespace Go.Proofs.YtlelpbaeplcfiaaGreatDoor.Am
section
open Go.RowKit
def updP (cs : List Bool) (C k a b key n : Nat) : List Rw → Nat → Bool → Nat → Nat × Bool
 | r :: rs, p, d, j + 1 => updP cs C k a b key n rs (updR cs C k a b key n r p d).p (updR cs C k a b key n r p d).d j
 | _, p, d, _ => (p, d)
@[simp] theorem o_tx {cs : List Bool} {C k a b key n : Nat} (rs : List Rw) (p : Nat) (d : Bool) : updP cs C k a b key n rs p d 0 = (p, d) := by
 unfold updP; cases rs <;> rfl
def updZ (cs : List Bool) (C k a b key n : Nat) (rs : List Rw) (p : Nat) (d : Bool) (j : Nat) : TR :=
 updR cs C k a b key n (rs.getD j ⟨0, 0, []⟩) (updP cs C k a b key n rs p d j).1 (updP cs C k a b key n rs p d j).2
theorem o_ty {cs : List Bool} {C k a b key n : Nat} (r : Rw) (rs : List Rw) (p : Nat) (d : Bool) (j : Nat) : updZ cs C k a b key n (r :: rs) p d (j + 1) = updZ cs C k a b key n rs (updZ cs C k a b key n (r :: rs) p d 0).p (updZ cs C k a b key n (r :: rs) p d 0).d j := by
 unfold updZ; rw [updP]; simp
theorem o_tz {cs : List Bool} {C k a b key n : Nat} : ∀ (rs : List Rw) (p : Nat) (d : Bool) (j : Nat), j < rs.length → updP cs C k a b key n rs p d (j + 1) = ((updZ cs C k a b key n rs p d j).p, (updZ cs C k a b key n rs p d j).d)
 | r :: rs, p, d, 0, _ => by rw [updP]; simp [updZ]
 | r :: rs, p, d, j + 1, h => by
  rw [updP, o_tz rs _ _ j (by simpa using h), o_ty]; simp [updZ]
def updL (C key : Nat) (r : Rw) (Z : TR) : List ST := r.l.set (colOf C r.a r.b key) (Z.y, Z.t, Z.f)
theorem o_u0 {cs : List Bool} {C k a b key n : Nat} : ∀ (rs : List Rw) (p : Nat) (d : Bool), (updM cs C k a b key n rs p d).e = 0 →
  (updM cs C k a b key n rs p d).rs.length = rs.length ∧ ((updM cs C k a b key n rs p d).p, (updM cs C k a b key n rs p d).d) = updP cs C k a b key n rs p d rs.length ∧ ∀ j, j < rs.length → (updZ cs C k a b key n rs p d j).e = 0 ∧ (updM cs C k a b key n rs p d).rs.getD j ⟨0, 0, []⟩ = ⟨(rs.getD j ⟨0, 0, []⟩).a, (rs.getD j ⟨0, 0, []⟩).b, updL C key (rs.getD j ⟨0, 0, []⟩) (updZ cs C k a b key n rs p d j)⟩
 | [], p, d, _ => ⟨rfl, rfl, by simp⟩
 | r :: rs, p, d, he => by
  rw [updM] at he ⊢
  have h0 : updZ cs C k a b key n (r :: rs) p d 0 = updR cs C k a b key n r p d := by simp [updZ]
  have hc := fun j => o_ty (cs := cs) (C := C) (k := k) (a := a) (b := b) (key := key) (n := n) r rs p d j
  rw [h0] at hc
  rw [List.length_cons, updP]
  have ih := o_u0 (cs := cs) (C := C) (k := k) (a := a) (b := b) (key := key) (n := n) rs (updR cs C k a b key n r p d).p (updR cs C k a b key n r p d).d
  generalize updM cs C k a b key n rs (updR cs C k a b key n r p d).p (updR cs C k a b key n r p d).d = U at *
  generalize updR cs C k a b key n r p d = Z at *
  unfold updC at he ⊢
  by_cases hz : Z.e = 0
  ·rw [if_pos hz] at he ⊢
   obtain ⟨i1, i2, i3⟩ := ih he
   refine ⟨by simp [i1], i2, fun j hj => ?_⟩
   cases j with
   | zero => rw [h0]; exact ⟨hz, rfl⟩
   | succ j => rw [hc j]; exact i3 j (by simpa using hj)
  ·rw [if_neg hz] at he
   exact absurd he hz
theorem o_u1 {cs : List Bool} {C k a b key n : Nat} : ∀ (rs : List Rw) (p : Nat) (d : Bool) (j : Nat), j < rs.length → (∀ i, i < j → (updZ cs C k a b key n rs p d i).e = 0) → (updZ cs C k a b key n rs p d j).e ≠ 0 →
  (updM cs C k a b key n rs p d).e = (updZ cs C k a b key n rs p d j).e ∧ (updM cs C k a b key n rs p d).p = (updZ cs C k a b key n rs p d j).p ∧ (updM cs C k a b key n rs p d).d = (updZ cs C k a b key n rs p d j).d
 | r :: rs, p, d, j, hr, h, he => by
  rw [updM]
  have h0 : updZ cs C k a b key n (r :: rs) p d 0 = updR cs C k a b key n r p d := by simp [updZ]
  have hc := fun j => o_ty (cs := cs) (C := C) (k := k) (a := a) (b := b) (key := key) (n := n) r rs p d j
  rw [h0] at hc
  cases j with
  | zero =>
   rw [h0] at he ⊢
   unfold updC
   rw [if_neg he]
   exact ⟨rfl, rfl, rfl⟩
  | succ j =>
   have hz : (updR cs C k a b key n r p d).e = 0 := by have := h 0 (by omega); rwa [h0] at this
   have ih := o_u1 (cs := cs) (C := C) (k := k) (a := a) (b := b) (key := key) (n := n) rs (updR cs C k a b key n r p d).p (updR cs C k a b key n r p d).d j (by simpa using hr) (fun i hi => by have := h (i + 1) (by omega); rwa [hc i] at this) (by rwa [hc j] at he)
   unfold updC
   rw [if_pos hz, hc j]
   exact ih
theorem o_u2 {cs : List Bool} {C k a b key n : Nat} : ∀ (rs : List Rw) (p : Nat) (d : Bool), (∀ j, j < rs.length → (updZ cs C k a b key n rs p d j).e = 0) → (updM cs C k a b key n rs p d).e = 0
 | [], p, d, _ => rfl
 | r :: rs, p, d, h => by
  rw [updM]
  have h0 : updZ cs C k a b key n (r :: rs) p d 0 = updR cs C k a b key n r p d := by simp [updZ]
  have hc := fun j => o_ty (cs := cs) (C := C) (k := k) (a := a) (b := b) (key := key) (n := n) r rs p d j
  rw [h0] at hc
  have hz : (updR cs C k a b key n r p d).e = 0 := by have := h 0 (by simp); rwa [h0] at this
  unfold updC
  rw [if_pos hz]
  exact o_u2 rs _ _ (fun j hj => by have := h (j + 1) (by simpa using hj); rwa [hc j] at this)
theorem o_u3 {cs : List Bool} {C k a b key n : Nat} {rs : List Rw} {p : Nat} {d : Bool} (hg : GoodR k a b) (hC : 1 ≤ C) (hc : cs.length ≤ 4000000) (hr : ∀ r ∈ rs, GoodRow C k a b r) (hp : p ≤ cs.length) : ∀ j, j ≤ rs.length → (updP cs C k a b key n rs p d j).1 ≤ cs.length
 | 0, _ => by simpa using hp
 | j + 1, h => by
  have ih := o_u3 (d := d) (key := key) (n := n) hg hC hc hr hp j (by omega)
  rw [o_tz rs p d j (by omega)]
  have e1 : rs.getD j ⟨0, 0, []⟩ = rs[j] := by simp [List.getD, show j < rs.length by omega]
  obtain ⟨-, -, l1, w1⟩ := hr rs[j] (List.getElem_mem _)
  unfold updZ
  rw [e1]
  exact (o_o2 hg (o_rc w1 (show colOf C rs[j].a rs[j].b key < rs[j].l.length by rw [l1]; exact Nat.mod_lt _ (by omega))) ih hc).1
theorem o_u4 {R C k a b T : Nat} (rs : List Rw) (cs : List Bool) (key : Nat) (n : Int) (p : Nat) (d : Bool) (h : hP ≤ key ∨ n < 0 ∨ 1048576 < n) :
  Eqn Tryz.prog o_5x [.p 0 0, .p 1 0, .d (.int .u64 key), .d (.int .i64 n)] [skO R C k a b rs T, tapeO cs p d] (.d (.int .i64 2)) [skO R C k a b rs T, tapeO cs p d] := by
 refine Eqn.gen [0, 1] o_5z (by simp) (by simp) (by rfl) (by decide) (by simp) (by simp [skO, skD, tapeO]) ?_
 simp only [o_5y, skO, skD, List.map_cons, List.map_nil]
 generalize rowsD k a b rs = RD at *
 unfold hP at h
 by_cases h1 : 2305843009213693951 ≤ key
 ·have h1' : (2305843009213693951 : Int) ≤ key := by omega
  refine A10 (fs h1 h1') ?_; try with_reducible exact tt
 ·have h1' : ¬ (2305843009213693951 : Int) ≤ key := by omega
  by_cases h2 : n < 0
  ·refine A10 (fs h1 (fs h1' h2)) ?_; try with_reducible exact tt
  ·have h3 : 1048576 < n := by omega
   refine A10 (fs h1 (fs h1' (fs h2 h3))) ?_; try with_reducible exact tt
theorem o_u5 {R C k a b T : Nat} (rs : List Rw) (i : Nat) (j : Int) (h : rs.length ≤ i) (hi : i ≤ 100) :
  Eqn Tryz.prog o_6c [.p 0 0, .d (.int .i64 i), .d (.int .i64 j)] [skO R C k a b rs T] (.tup [.d (.agg [.int .i64 0, .int .i64 0, .bool false]), .d (.int .i64 1)]) [skO R C k a b rs T] := by
 refine Eqn.gen [0] o_6e (by simp) (by simp) (by rfl) (by decide) (by simp) (by simp [skO, skD]) ?_
 simp only [o_6d, skO, skD, List.map_cons, List.map_nil]
 generalize rowsD k a b rs = RD at *
 have g1 : ¬ (i : Int) < 0 := by omega
 have g2 : (rs.length : Int) ≤ i := by omega
 refine A10 (fs g1 (fs g2 h)) ?_; try with_reducible exact tt
theorem o_u6 {k a b : Nat} (l : List ST) (i : Nat) (hi : l.length ≤ i) (hi2 : i ≤ 1000) :
  Eqn Tryz.prog o_9f [.d (.ptr (arrD k a b l) 0), .d (.int .i64 i)] [] (.tup [.d (.agg [.int .i64 0, .int .i64 0, .bool false]), .d (.int .i64 1)]) [] := by
 refine Eqn.pure o_9h Plain.ok ?_
 have hg := o_qz (wdR k a b) (encs k a b l) i (.inr (by simp; omega))
 simp only [o_9g, arrD, o_r8] at hg ⊢
 generalize vecD (wdR k a b) (encs k a b l) = VD at *
 refine A01 hg ?_; try with_reducible exact tt
theorem o_u7 {R C k a b T : Nat} (rs : List Rw) (i j : Nat) (hi : i < rs.length) (hn : rs.length ≤ 4) (h : rs[i].l.length ≤ j) (hj : j ≤ 1000) :
  Eqn Tryz.prog o_6c [.p 0 0, .d (.int .i64 i), .d (.int .i64 j)] [skO R C k a b rs T] (.tup [.d (.agg [.int .i64 0, .int .i64 0, .bool false]), .d (.int .i64 1)]) [skO R C k a b rs T] := by
 refine Eqn.gen [0] o_6e (by simp) (by simp) (by rfl) (by decide) (by simp) (by simp [skO, skD]) ?_
 have hgt := o_u6 (k := k) (a := a) (b := b) rs[i].l j h hj
 have hgr := o_ta k a b rs i hi
 have hrl := o_t9 k a b rs
 have hg2 : ∀ h : i * 3 + 2 < (rowsD k a b rs).length, (rowsD k a b rs)[i * 3 + 2] = .ptr (arrD k a b rs[i].l) 0 := by
  intro h
  have := congrArg (fun l => l[2]?) hgr
  simp only [List.getElem?_take, List.getElem?_drop] at this
  rw [if_pos (by omega), List.getElem?_eq_getElem h] at this
  simpa using this
 simp only [o_6d, skO, skD, List.map_cons, List.map_nil] at hgt ⊢
 generalize rowsD k a b rs = RD at *
 generalize arrD k a b rs[i].l = AD at *
 have g1 : ¬ (i : Int) < 0 := by omega
 have g2 : (i : Int) < rs.length := by omega
 have g3 : ¬ (rs.length : Int) ≤ i := by omega
 have g4 : ¬ rs.length ≤ i := by omega
 have g5 : i * 3 < rs.length * 3 := by omega
 have g6 : i * 3 + 2 < rs.length * 3 := by omega
 refine A11 (fs g1 (fs g2 (fs g3 (fs g4 (fs g5 (fs g6 (fs hi (fs hg2 hrl)))))))) hgt ?_; try with_reducible exact tt
end
end Go.Proofs.YtlelpbaeplcfiaaGreatDoor.Am
namespace Go.Proofs.YtlelpbaeplcfiaaGreatDoor.Am
section
open Go.RowKit
theorem o_u8 {C k a b T : Nat} (hg : GoodR k a b) (g1 : 1 ≤ C) (g2 : C ≤ 64) (A0 B0 : Nat) (l0 : List ST) (h0 : GoodRow C k a b ⟨A0, B0, l0⟩) :
  Eqn Tryz.prog o_5u [.p 0 0] [skO 1 C k a b [⟨A0, B0, l0⟩] T] (.p 1 0) [skO 1 C k a b [⟨A0, B0, l0⟩] T, skO 1 C k a b [⟨A0, B0, l0⟩] T] := by
 obtain ⟨-, -, e0, -⟩ := h0
 simp only at e0
 refine Eqn.gen [0, 1] o_5w (by simp) (by simp) (by rfl) (by decide) (by simp) (by simp [skO, skD]) ?_
 have hc := o_sh 1 [.int .u64 A0, .int .u64 B0, .ptr (arrD k a b l0) 0] (by omega) rfl (by omega)
 have d0 := o_rz l0 hg (by omega) (by omega)
 have D0 : arrD k a b l0 = [.ptr [.sl (nwP C (wdR k a b)) ((wordsP (wdR k a b) (encs k a b l0)).map fun x : Nat => D.int .u64 x), .int .i64 C, .int .i64 (wdR k a b)] 0, .int .i64 k, .int .i64 a, .int .i64 b] := by simp [arrD, vecD, e0]
 have L0 : ((wordsP (wdR k a b) (encs k a b l0)).map fun x : Nat => D.int .u64 x).length = nwP C (wdR k a b) := by simp [e0]
 have u0 : u64s (wordsP (wdR k a b) (encs k a b l0)) = ((wordsP (wdR k a b) (encs k a b l0)).map fun x : Nat => D.int .u64 x).map V.d := by simp [u64s]
 simp only [o_5v, skO, skD, rowsD, rowD, List.flatMap_cons, List.flatMap_nil, List.append_nil, List.cons_append, List.nil_append, List.map_cons, List.map_nil, List.length_cons, List.length_nil, arrO, arrV, arrB, vecO, vecB, e0, D0, u0] at hc d0 ⊢
 generalize ((wordsP (wdR k a b) (encs k a b l0)).map fun x : Nat => D.int .u64 x) = WD0 at *
 generalize nwP C (wdR k a b) = NW at *
 have t0 : WD0.take NW = WD0 := List.take_of_length_le (by omega)
 generalize wdR k a b = w at *
 clear D0 u0
 refine G0 ?_; try with_reducible exact tt
 refine CallS.g [] (hc) (R0 ?_); try with_reducible exact tt
 refine AW.rounds 2 ?_
 refine A00 ?_; try with_reducible exact tt
 refine CallS.g [] (d0) (R0 ?_); try with_reducible exact tt
 refine AW.freeze 6 1 ⟨44, WD0.map V.d⟩ WD0 (by simp) rfl ?_
 simp [frzH, t0]
 refine AW.freeze 5 1 ⟨226, [.d (.sl NW WD0), .d (.int .i64 C), .d (.int .i64 w)]⟩ [.sl NW WD0, .int .i64 C, .int .i64 w] (by rfl) rfl ?_
 simp [frzH]
 refine AW.freeze 4 1 ⟨166, [.d (.ptr [.sl NW WD0, .int .i64 C, .int .i64 w] 0), .d (.int .i64 k), .d (.int .i64 a), .d (.int .i64 b)]⟩ [.ptr [.sl NW WD0, .int .i64 C, .int .i64 w] 0, .int .i64 k, .int .i64 a, .int .i64 b] (by rfl) rfl ?_
 simp [frzH]
 refine AW.freeze 2 3 ⟨130, [.int .u64 A0, .int .u64 B0, .ptr [.ptr [.sl NW WD0, .int .i64 C, .int .i64 w] 0, .int .i64 k, .int .i64 a, .int .i64 b] 0].map V.d⟩ [.int .u64 A0, .int .u64 B0, .ptr [.ptr [.sl NW WD0, .int .i64 C, .int .i64 w] 0, .int .i64 k, .int .i64 a, .int .i64 b] 0] (by rfl) rfl ?_
 simp [frzH]
 refine A00 ?_; try with_reducible exact tt

theorem o_u9 {C k a b T : Nat} (hg : GoodR k a b) (g1 : 1 ≤ C) (g2 : C ≤ 64) (A0 B0 A1 B1 : Nat) (l0 l1 : List ST) (h0 : GoodRow C k a b ⟨A0, B0, l0⟩) (h1 : GoodRow C k a b ⟨A1, B1, l1⟩) :
  Eqn Tryz.prog o_5u [.p 0 0] [skO 2 C k a b [⟨A0, B0, l0⟩, ⟨A1, B1, l1⟩] T] (.p 1 0) [skO 2 C k a b [⟨A0, B0, l0⟩, ⟨A1, B1, l1⟩] T, skO 2 C k a b [⟨A0, B0, l0⟩, ⟨A1, B1, l1⟩] T] := by
 obtain ⟨-, -, e0, -⟩ := h0
 simp only at e0
 obtain ⟨-, -, e1, -⟩ := h1
 simp only at e1
 refine Eqn.gen [0, 1] o_5w (by simp) (by simp) (by rfl) (by decide) (by simp) (by simp [skO, skD]) ?_
 have hc := o_sh 2 [.int .u64 A0, .int .u64 B0, .ptr (arrD k a b l0) 0, .int .u64 A1, .int .u64 B1, .ptr (arrD k a b l1) 0] (by omega) rfl (by omega)
 have d0 := o_rz l0 hg (by omega) (by omega)
 have D0 : arrD k a b l0 = [.ptr [.sl (nwP C (wdR k a b)) ((wordsP (wdR k a b) (encs k a b l0)).map fun x : Nat => D.int .u64 x), .int .i64 C, .int .i64 (wdR k a b)] 0, .int .i64 k, .int .i64 a, .int .i64 b] := by simp [arrD, vecD, e0]
 have L0 : ((wordsP (wdR k a b) (encs k a b l0)).map fun x : Nat => D.int .u64 x).length = nwP C (wdR k a b) := by simp [e0]
 have u0 : u64s (wordsP (wdR k a b) (encs k a b l0)) = ((wordsP (wdR k a b) (encs k a b l0)).map fun x : Nat => D.int .u64 x).map V.d := by simp [u64s]
 have d1 := o_rz l1 hg (by omega) (by omega)
 have D1 : arrD k a b l1 = [.ptr [.sl (nwP C (wdR k a b)) ((wordsP (wdR k a b) (encs k a b l1)).map fun x : Nat => D.int .u64 x), .int .i64 C, .int .i64 (wdR k a b)] 0, .int .i64 k, .int .i64 a, .int .i64 b] := by simp [arrD, vecD, e1]
 have L1 : ((wordsP (wdR k a b) (encs k a b l1)).map fun x : Nat => D.int .u64 x).length = nwP C (wdR k a b) := by simp [e1]
 have u1 : u64s (wordsP (wdR k a b) (encs k a b l1)) = ((wordsP (wdR k a b) (encs k a b l1)).map fun x : Nat => D.int .u64 x).map V.d := by simp [u64s]
 simp only [o_5v, skO, skD, rowsD, rowD, List.flatMap_cons, List.flatMap_nil, List.append_nil, List.cons_append, List.nil_append, List.map_cons, List.map_nil, List.length_cons, List.length_nil, arrO, arrV, arrB, vecO, vecB, e0, e1, D0, D1, u0, u1] at hc d0 d1 ⊢
 generalize ((wordsP (wdR k a b) (encs k a b l0)).map fun x : Nat => D.int .u64 x) = WD0 at *
 generalize ((wordsP (wdR k a b) (encs k a b l1)).map fun x : Nat => D.int .u64 x) = WD1 at *
 generalize nwP C (wdR k a b) = NW at *
 have t0 : WD0.take NW = WD0 := List.take_of_length_le (by omega)
 have t1 : WD1.take NW = WD1 := List.take_of_length_le (by omega)
 generalize wdR k a b = w at *
 clear D0 u0 D1 u1
 refine G0 ?_; try with_reducible exact tt
 refine CallS.g [] (hc) (R0 ?_); try with_reducible exact tt
 refine AW.rounds 3 ?_
 refine A00 ?_; try with_reducible exact tt
 refine CallS.g [] (d0) (R0 ?_); try with_reducible exact tt
 refine A00 ?_; try with_reducible exact tt
 refine CallS.g [] (d1) (R0 ?_); try with_reducible exact tt
 refine AW.freeze 6 1 ⟨44, WD0.map V.d⟩ WD0 (by simp) rfl ?_
 simp [frzH, t0]
 refine AW.freeze 5 1 ⟨226, [.d (.sl NW WD0), .d (.int .i64 C), .d (.int .i64 w)]⟩ [.sl NW WD0, .int .i64 C, .int .i64 w] (by rfl) rfl ?_
 simp [frzH]
 refine AW.freeze 4 1 ⟨166, [.d (.ptr [.sl NW WD0, .int .i64 C, .int .i64 w] 0), .d (.int .i64 k), .d (.int .i64 a), .d (.int .i64 b)]⟩ [.ptr [.sl NW WD0, .int .i64 C, .int .i64 w] 0, .int .i64 k, .int .i64 a, .int .i64 b] (by rfl) rfl ?_
 simp [frzH]
 refine AW.freeze 10 1 ⟨44, WD1.map V.d⟩ WD1 (by simp) rfl ?_
 simp [frzH, t1]
 refine AW.freeze 9 1 ⟨226, [.d (.sl NW WD1), .d (.int .i64 C), .d (.int .i64 w)]⟩ [.sl NW WD1, .int .i64 C, .int .i64 w] (by rfl) rfl ?_
 simp [frzH]
 refine AW.freeze 8 1 ⟨166, [.d (.ptr [.sl NW WD1, .int .i64 C, .int .i64 w] 0), .d (.int .i64 k), .d (.int .i64 a), .d (.int .i64 b)]⟩ [.ptr [.sl NW WD1, .int .i64 C, .int .i64 w] 0, .int .i64 k, .int .i64 a, .int .i64 b] (by rfl) rfl ?_
 simp [frzH]
 refine AW.freeze 2 3 ⟨130, [.int .u64 A0, .int .u64 B0, .ptr [.ptr [.sl NW WD0, .int .i64 C, .int .i64 w] 0, .int .i64 k, .int .i64 a, .int .i64 b] 0, .int .u64 A1, .int .u64 B1, .ptr [.ptr [.sl NW WD1, .int .i64 C, .int .i64 w] 0, .int .i64 k, .int .i64 a, .int .i64 b] 0].map V.d⟩ [.int .u64 A0, .int .u64 B0, .ptr [.ptr [.sl NW WD0, .int .i64 C, .int .i64 w] 0, .int .i64 k, .int .i64 a, .int .i64 b] 0, .int .u64 A1, .int .u64 B1, .ptr [.ptr [.sl NW WD1, .int .i64 C, .int .i64 w] 0, .int .i64 k, .int .i64 a, .int .i64 b] 0] (by rfl) rfl ?_
 simp [frzH]
 refine A00 ?_; try with_reducible exact tt

theorem o_ua {C k a b T : Nat} (hg : GoodR k a b) (g1 : 1 ≤ C) (g2 : C ≤ 64) (A0 B0 A1 B1 A2 B2 : Nat) (l0 l1 l2 : List ST) (h0 : GoodRow C k a b ⟨A0, B0, l0⟩) (h1 : GoodRow C k a b ⟨A1, B1, l1⟩) (h2 : GoodRow C k a b ⟨A2, B2, l2⟩) :
  Eqn Tryz.prog o_5u [.p 0 0] [skO 3 C k a b [⟨A0, B0, l0⟩, ⟨A1, B1, l1⟩, ⟨A2, B2, l2⟩] T] (.p 1 0) [skO 3 C k a b [⟨A0, B0, l0⟩, ⟨A1, B1, l1⟩, ⟨A2, B2, l2⟩] T, skO 3 C k a b [⟨A0, B0, l0⟩, ⟨A1, B1, l1⟩, ⟨A2, B2, l2⟩] T] := by
 obtain ⟨-, -, e0, -⟩ := h0
 simp only at e0
 obtain ⟨-, -, e1, -⟩ := h1
 simp only at e1
 obtain ⟨-, -, e2, -⟩ := h2
 simp only at e2
 refine Eqn.gen [0, 1] o_5w (by simp) (by simp) (by rfl) (by decide) (by simp) (by simp [skO, skD]) ?_
 have hc := o_sh 3 [.int .u64 A0, .int .u64 B0, .ptr (arrD k a b l0) 0, .int .u64 A1, .int .u64 B1, .ptr (arrD k a b l1) 0, .int .u64 A2, .int .u64 B2, .ptr (arrD k a b l2) 0] (by omega) rfl (by omega)
 have d0 := o_rz l0 hg (by omega) (by omega)
 have D0 : arrD k a b l0 = [.ptr [.sl (nwP C (wdR k a b)) ((wordsP (wdR k a b) (encs k a b l0)).map fun x : Nat => D.int .u64 x), .int .i64 C, .int .i64 (wdR k a b)] 0, .int .i64 k, .int .i64 a, .int .i64 b] := by simp [arrD, vecD, e0]
 have L0 : ((wordsP (wdR k a b) (encs k a b l0)).map fun x : Nat => D.int .u64 x).length = nwP C (wdR k a b) := by simp [e0]
 have u0 : u64s (wordsP (wdR k a b) (encs k a b l0)) = ((wordsP (wdR k a b) (encs k a b l0)).map fun x : Nat => D.int .u64 x).map V.d := by simp [u64s]
 have d1 := o_rz l1 hg (by omega) (by omega)
 have D1 : arrD k a b l1 = [.ptr [.sl (nwP C (wdR k a b)) ((wordsP (wdR k a b) (encs k a b l1)).map fun x : Nat => D.int .u64 x), .int .i64 C, .int .i64 (wdR k a b)] 0, .int .i64 k, .int .i64 a, .int .i64 b] := by simp [arrD, vecD, e1]
 have L1 : ((wordsP (wdR k a b) (encs k a b l1)).map fun x : Nat => D.int .u64 x).length = nwP C (wdR k a b) := by simp [e1]
 have u1 : u64s (wordsP (wdR k a b) (encs k a b l1)) = ((wordsP (wdR k a b) (encs k a b l1)).map fun x : Nat => D.int .u64 x).map V.d := by simp [u64s]
 have d2 := o_rz l2 hg (by omega) (by omega)
 have D2 : arrD k a b l2 = [.ptr [.sl (nwP C (wdR k a b)) ((wordsP (wdR k a b) (encs k a b l2)).map fun x : Nat => D.int .u64 x), .int .i64 C, .int .i64 (wdR k a b)] 0, .int .i64 k, .int .i64 a, .int .i64 b] := by simp [arrD, vecD, e2]
 have L2 : ((wordsP (wdR k a b) (encs k a b l2)).map fun x : Nat => D.int .u64 x).length = nwP C (wdR k a b) := by simp [e2]
 have u2 : u64s (wordsP (wdR k a b) (encs k a b l2)) = ((wordsP (wdR k a b) (encs k a b l2)).map fun x : Nat => D.int .u64 x).map V.d := by simp [u64s]
 simp only [o_5v, skO, skD, rowsD, rowD, List.flatMap_cons, List.flatMap_nil, List.append_nil, List.cons_append, List.nil_append, List.map_cons, List.map_nil, List.length_cons, List.length_nil, arrO, arrV, arrB, vecO, vecB, e0, e1, e2, D0, D1, D2, u0, u1, u2] at hc d0 d1 d2 ⊢
 generalize ((wordsP (wdR k a b) (encs k a b l0)).map fun x : Nat => D.int .u64 x) = WD0 at *
 generalize ((wordsP (wdR k a b) (encs k a b l1)).map fun x : Nat => D.int .u64 x) = WD1 at *
 generalize ((wordsP (wdR k a b) (encs k a b l2)).map fun x : Nat => D.int .u64 x) = WD2 at *
 generalize nwP C (wdR k a b) = NW at *
 have t0 : WD0.take NW = WD0 := List.take_of_length_le (by omega)
 have t1 : WD1.take NW = WD1 := List.take_of_length_le (by omega)
 have t2 : WD2.take NW = WD2 := List.take_of_length_le (by omega)
 generalize wdR k a b = w at *
 clear D0 u0 D1 u1 D2 u2
 refine G0 ?_; try with_reducible exact tt
 refine CallS.g [] (hc) (R0 ?_); try with_reducible exact tt
 refine AW.rounds 4 ?_
 refine A00 ?_; try with_reducible exact tt
 refine CallS.g [] (d0) (R0 ?_); try with_reducible exact tt
 refine A00 ?_; try with_reducible exact tt
 refine CallS.g [] (d1) (R0 ?_); try with_reducible exact tt
 refine A00 ?_; try with_reducible exact tt
 refine CallS.g [] (d2) (R0 ?_); try with_reducible exact tt
 refine AW.freeze 6 1 ⟨44, WD0.map V.d⟩ WD0 (by simp) rfl ?_
 simp [frzH, t0]
 refine AW.freeze 5 1 ⟨226, [.d (.sl NW WD0), .d (.int .i64 C), .d (.int .i64 w)]⟩ [.sl NW WD0, .int .i64 C, .int .i64 w] (by rfl) rfl ?_
 simp [frzH]
 refine AW.freeze 4 1 ⟨166, [.d (.ptr [.sl NW WD0, .int .i64 C, .int .i64 w] 0), .d (.int .i64 k), .d (.int .i64 a), .d (.int .i64 b)]⟩ [.ptr [.sl NW WD0, .int .i64 C, .int .i64 w] 0, .int .i64 k, .int .i64 a, .int .i64 b] (by rfl) rfl ?_
 simp [frzH]
 refine AW.freeze 10 1 ⟨44, WD1.map V.d⟩ WD1 (by simp) rfl ?_
 simp [frzH, t1]
 refine AW.freeze 9 1 ⟨226, [.d (.sl NW WD1), .d (.int .i64 C), .d (.int .i64 w)]⟩ [.sl NW WD1, .int .i64 C, .int .i64 w] (by rfl) rfl ?_
 simp [frzH]
 refine AW.freeze 8 1 ⟨166, [.d (.ptr [.sl NW WD1, .int .i64 C, .int .i64 w] 0), .d (.int .i64 k), .d (.int .i64 a), .d (.int .i64 b)]⟩ [.ptr [.sl NW WD1, .int .i64 C, .int .i64 w] 0, .int .i64 k, .int .i64 a, .int .i64 b] (by rfl) rfl ?_
 simp [frzH]
 refine AW.freeze 14 1 ⟨44, WD2.map V.d⟩ WD2 (by simp) rfl ?_
 simp [frzH, t2]
 refine AW.freeze 13 1 ⟨226, [.d (.sl NW WD2), .d (.int .i64 C), .d (.int .i64 w)]⟩ [.sl NW WD2, .int .i64 C, .int .i64 w] (by rfl) rfl ?_
 simp [frzH]
 refine AW.freeze 12 1 ⟨166, [.d (.ptr [.sl NW WD2, .int .i64 C, .int .i64 w] 0), .d (.int .i64 k), .d (.int .i64 a), .d (.int .i64 b)]⟩ [.ptr [.sl NW WD2, .int .i64 C, .int .i64 w] 0, .int .i64 k, .int .i64 a, .int .i64 b] (by rfl) rfl ?_
 simp [frzH]
 refine AW.freeze 2 3 ⟨130, [.int .u64 A0, .int .u64 B0, .ptr [.ptr [.sl NW WD0, .int .i64 C, .int .i64 w] 0, .int .i64 k, .int .i64 a, .int .i64 b] 0, .int .u64 A1, .int .u64 B1, .ptr [.ptr [.sl NW WD1, .int .i64 C, .int .i64 w] 0, .int .i64 k, .int .i64 a, .int .i64 b] 0, .int .u64 A2, .int .u64 B2, .ptr [.ptr [.sl NW WD2, .int .i64 C, .int .i64 w] 0, .int .i64 k, .int .i64 a, .int .i64 b] 0].map V.d⟩ [.int .u64 A0, .int .u64 B0, .ptr [.ptr [.sl NW WD0, .int .i64 C, .int .i64 w] 0, .int .i64 k, .int .i64 a, .int .i64 b] 0, .int .u64 A1, .int .u64 B1, .ptr [.ptr [.sl NW WD1, .int .i64 C, .int .i64 w] 0, .int .i64 k, .int .i64 a, .int .i64 b] 0, .int .u64 A2, .int .u64 B2, .ptr [.ptr [.sl NW WD2, .int .i64 C, .int .i64 w] 0, .int .i64 k, .int .i64 a, .int .i64 b] 0] (by rfl) rfl ?_
 simp [frzH]
 refine A00 ?_; try with_reducible exact tt

theorem o_ub {C k a b T : Nat} (hg : GoodR k a b) (g1 : 1 ≤ C) (g2 : C ≤ 64) (A0 B0 A1 B1 A2 B2 A3 B3 : Nat) (l0 l1 l2 l3 : List ST) (h0 : GoodRow C k a b ⟨A0, B0, l0⟩) (h1 : GoodRow C k a b ⟨A1, B1, l1⟩) (h2 : GoodRow C k a b ⟨A2, B2, l2⟩) (h3 : GoodRow C k a b ⟨A3, B3, l3⟩) :
  Eqn Tryz.prog o_5u [.p 0 0] [skO 4 C k a b [⟨A0, B0, l0⟩, ⟨A1, B1, l1⟩, ⟨A2, B2, l2⟩, ⟨A3, B3, l3⟩] T] (.p 1 0) [skO 4 C k a b [⟨A0, B0, l0⟩, ⟨A1, B1, l1⟩, ⟨A2, B2, l2⟩, ⟨A3, B3, l3⟩] T, skO 4 C k a b [⟨A0, B0, l0⟩, ⟨A1, B1, l1⟩, ⟨A2, B2, l2⟩, ⟨A3, B3, l3⟩] T] := by
 obtain ⟨-, -, e0, -⟩ := h0
 simp only at e0
 obtain ⟨-, -, e1, -⟩ := h1
 simp only at e1
 obtain ⟨-, -, e2, -⟩ := h2
 simp only at e2
 obtain ⟨-, -, e3, -⟩ := h3
 simp only at e3
 refine Eqn.gen [0, 1] o_5w (by simp) (by simp) (by rfl) (by decide) (by simp) (by simp [skO, skD]) ?_
 have hc := o_sh 4 [.int .u64 A0, .int .u64 B0, .ptr (arrD k a b l0) 0, .int .u64 A1, .int .u64 B1, .ptr (arrD k a b l1) 0, .int .u64 A2, .int .u64 B2, .ptr (arrD k a b l2) 0, .int .u64 A3, .int .u64 B3, .ptr (arrD k a b l3) 0] (by omega) rfl (by omega)
 have d0 := o_rz l0 hg (by omega) (by omega)
 have D0 : arrD k a b l0 = [.ptr [.sl (nwP C (wdR k a b)) ((wordsP (wdR k a b) (encs k a b l0)).map fun x : Nat => D.int .u64 x), .int .i64 C, .int .i64 (wdR k a b)] 0, .int .i64 k, .int .i64 a, .int .i64 b] := by simp [arrD, vecD, e0]
 have L0 : ((wordsP (wdR k a b) (encs k a b l0)).map fun x : Nat => D.int .u64 x).length = nwP C (wdR k a b) := by simp [e0]
 have u0 : u64s (wordsP (wdR k a b) (encs k a b l0)) = ((wordsP (wdR k a b) (encs k a b l0)).map fun x : Nat => D.int .u64 x).map V.d := by simp [u64s]
 have d1 := o_rz l1 hg (by omega) (by omega)
 have D1 : arrD k a b l1 = [.ptr [.sl (nwP C (wdR k a b)) ((wordsP (wdR k a b) (encs k a b l1)).map fun x : Nat => D.int .u64 x), .int .i64 C, .int .i64 (wdR k a b)] 0, .int .i64 k, .int .i64 a, .int .i64 b] := by simp [arrD, vecD, e1]
 have L1 : ((wordsP (wdR k a b) (encs k a b l1)).map fun x : Nat => D.int .u64 x).length = nwP C (wdR k a b) := by simp [e1]
 have u1 : u64s (wordsP (wdR k a b) (encs k a b l1)) = ((wordsP (wdR k a b) (encs k a b l1)).map fun x : Nat => D.int .u64 x).map V.d := by simp [u64s]
 have d2 := o_rz l2 hg (by omega) (by omega)
 have D2 : arrD k a b l2 = [.ptr [.sl (nwP C (wdR k a b)) ((wordsP (wdR k a b) (encs k a b l2)).map fun x : Nat => D.int .u64 x), .int .i64 C, .int .i64 (wdR k a b)] 0, .int .i64 k, .int .i64 a, .int .i64 b] := by simp [arrD, vecD, e2]
 have L2 : ((wordsP (wdR k a b) (encs k a b l2)).map fun x : Nat => D.int .u64 x).length = nwP C (wdR k a b) := by simp [e2]
 have u2 : u64s (wordsP (wdR k a b) (encs k a b l2)) = ((wordsP (wdR k a b) (encs k a b l2)).map fun x : Nat => D.int .u64 x).map V.d := by simp [u64s]
 have d3 := o_rz l3 hg (by omega) (by omega)
 have D3 : arrD k a b l3 = [.ptr [.sl (nwP C (wdR k a b)) ((wordsP (wdR k a b) (encs k a b l3)).map fun x : Nat => D.int .u64 x), .int .i64 C, .int .i64 (wdR k a b)] 0, .int .i64 k, .int .i64 a, .int .i64 b] := by simp [arrD, vecD, e3]
 have L3 : ((wordsP (wdR k a b) (encs k a b l3)).map fun x : Nat => D.int .u64 x).length = nwP C (wdR k a b) := by simp [e3]
 have u3 : u64s (wordsP (wdR k a b) (encs k a b l3)) = ((wordsP (wdR k a b) (encs k a b l3)).map fun x : Nat => D.int .u64 x).map V.d := by simp [u64s]
 simp only [o_5v, skO, skD, rowsD, rowD, List.flatMap_cons, List.flatMap_nil, List.append_nil, List.cons_append, List.nil_append, List.map_cons, List.map_nil, List.length_cons, List.length_nil, arrO, arrV, arrB, vecO, vecB, e0, e1, e2, e3, D0, D1, D2, D3, u0, u1, u2, u3] at hc d0 d1 d2 d3 ⊢
 generalize ((wordsP (wdR k a b) (encs k a b l0)).map fun x : Nat => D.int .u64 x) = WD0 at *
 generalize ((wordsP (wdR k a b) (encs k a b l1)).map fun x : Nat => D.int .u64 x) = WD1 at *
 generalize ((wordsP (wdR k a b) (encs k a b l2)).map fun x : Nat => D.int .u64 x) = WD2 at *
 generalize ((wordsP (wdR k a b) (encs k a b l3)).map fun x : Nat => D.int .u64 x) = WD3 at *
 generalize nwP C (wdR k a b) = NW at *
 have t0 : WD0.take NW = WD0 := List.take_of_length_le (by omega)
 have t1 : WD1.take NW = WD1 := List.take_of_length_le (by omega)
 have t2 : WD2.take NW = WD2 := List.take_of_length_le (by omega)
 have t3 : WD3.take NW = WD3 := List.take_of_length_le (by omega)
 generalize wdR k a b = w at *
 clear D0 u0 D1 u1 D2 u2 D3 u3
 refine G0 ?_; try with_reducible exact tt
 refine CallS.g [] (hc) (R0 ?_); try with_reducible exact tt
 refine AW.rounds 5 ?_
 refine A00 ?_; try with_reducible exact tt
 refine CallS.g [] (d0) (R0 ?_); try with_reducible exact tt
 refine A00 ?_; try with_reducible exact tt
 refine CallS.g [] (d1) (R0 ?_); try with_reducible exact tt
 refine A00 ?_; try with_reducible exact tt
 refine CallS.g [] (d2) (R0 ?_); try with_reducible exact tt
 refine A00 ?_; try with_reducible exact tt
 refine CallS.g [] (d3) (R0 ?_); try with_reducible exact tt
 refine AW.freeze 6 1 ⟨44, WD0.map V.d⟩ WD0 (by simp) rfl ?_
 simp [frzH, t0]
 refine AW.freeze 5 1 ⟨226, [.d (.sl NW WD0), .d (.int .i64 C), .d (.int .i64 w)]⟩ [.sl NW WD0, .int .i64 C, .int .i64 w] (by rfl) rfl ?_
 simp [frzH]
 refine AW.freeze 4 1 ⟨166, [.d (.ptr [.sl NW WD0, .int .i64 C, .int .i64 w] 0), .d (.int .i64 k), .d (.int .i64 a), .d (.int .i64 b)]⟩ [.ptr [.sl NW WD0, .int .i64 C, .int .i64 w] 0, .int .i64 k, .int .i64 a, .int .i64 b] (by rfl) rfl ?_
 simp [frzH]
 refine AW.freeze 10 1 ⟨44, WD1.map V.d⟩ WD1 (by simp) rfl ?_
 simp [frzH, t1]
 refine AW.freeze 9 1 ⟨226, [.d (.sl NW WD1), .d (.int .i64 C), .d (.int .i64 w)]⟩ [.sl NW WD1, .int .i64 C, .int .i64 w] (by rfl) rfl ?_
 simp [frzH]
 refine AW.freeze 8 1 ⟨166, [.d (.ptr [.sl NW WD1, .int .i64 C, .int .i64 w] 0), .d (.int .i64 k), .d (.int .i64 a), .d (.int .i64 b)]⟩ [.ptr [.sl NW WD1, .int .i64 C, .int .i64 w] 0, .int .i64 k, .int .i64 a, .int .i64 b] (by rfl) rfl ?_
 simp [frzH]
 refine AW.freeze 14 1 ⟨44, WD2.map V.d⟩ WD2 (by simp) rfl ?_
 simp [frzH, t2]
 refine AW.freeze 13 1 ⟨226, [.d (.sl NW WD2), .d (.int .i64 C), .d (.int .i64 w)]⟩ [.sl NW WD2, .int .i64 C, .int .i64 w] (by rfl) rfl ?_
 simp [frzH]
 refine AW.freeze 12 1 ⟨166, [.d (.ptr [.sl NW WD2, .int .i64 C, .int .i64 w] 0), .d (.int .i64 k), .d (.int .i64 a), .d (.int .i64 b)]⟩ [.ptr [.sl NW WD2, .int .i64 C, .int .i64 w] 0, .int .i64 k, .int .i64 a, .int .i64 b] (by rfl) rfl ?_
 simp [frzH]
 refine AW.freeze 18 1 ⟨44, WD3.map V.d⟩ WD3 (by simp) rfl ?_
 simp [frzH, t3]
 refine AW.freeze 17 1 ⟨226, [.d (.sl NW WD3), .d (.int .i64 C), .d (.int .i64 w)]⟩ [.sl NW WD3, .int .i64 C, .int .i64 w] (by rfl) rfl ?_
 simp [frzH]
 refine AW.freeze 16 1 ⟨166, [.d (.ptr [.sl NW WD3, .int .i64 C, .int .i64 w] 0), .d (.int .i64 k), .d (.int .i64 a), .d (.int .i64 b)]⟩ [.ptr [.sl NW WD3, .int .i64 C, .int .i64 w] 0, .int .i64 k, .int .i64 a, .int .i64 b] (by rfl) rfl ?_
 simp [frzH]
 refine AW.freeze 2 3 ⟨130, [.int .u64 A0, .int .u64 B0, .ptr [.ptr [.sl NW WD0, .int .i64 C, .int .i64 w] 0, .int .i64 k, .int .i64 a, .int .i64 b] 0, .int .u64 A1, .int .u64 B1, .ptr [.ptr [.sl NW WD1, .int .i64 C, .int .i64 w] 0, .int .i64 k, .int .i64 a, .int .i64 b] 0, .int .u64 A2, .int .u64 B2, .ptr [.ptr [.sl NW WD2, .int .i64 C, .int .i64 w] 0, .int .i64 k, .int .i64 a, .int .i64 b] 0, .int .u64 A3, .int .u64 B3, .ptr [.ptr [.sl NW WD3, .int .i64 C, .int .i64 w] 0, .int .i64 k, .int .i64 a, .int .i64 b] 0].map V.d⟩ [.int .u64 A0, .int .u64 B0, .ptr [.ptr [.sl NW WD0, .int .i64 C, .int .i64 w] 0, .int .i64 k, .int .i64 a, .int .i64 b] 0, .int .u64 A1, .int .u64 B1, .ptr [.ptr [.sl NW WD1, .int .i64 C, .int .i64 w] 0, .int .i64 k, .int .i64 a, .int .i64 b] 0, .int .u64 A2, .int .u64 B2, .ptr [.ptr [.sl NW WD2, .int .i64 C, .int .i64 w] 0, .int .i64 k, .int .i64 a, .int .i64 b] 0, .int .u64 A3, .int .u64 B3, .ptr [.ptr [.sl NW WD3, .int .i64 C, .int .i64 w] 0, .int .i64 k, .int .i64 a, .int .i64 b] 0] (by rfl) rfl ?_
 simp [frzH]
 refine A00 ?_; try with_reducible exact tt

theorem o_uc {R C k a b T : Nat} (hg : GoodR k a b) (g1 : 1 ≤ C) (g2 : C ≤ 64) (rs : List Rw) (hR : rs.length = R) (h1 : 1 ≤ R) (h4 : R ≤ 4) (hr : ∀ r ∈ rs, GoodRow C k a b r) :
  Eqn Tryz.prog o_5u [.p 0 0] [skO R C k a b rs T] (.p 1 0) [skO R C k a b rs T, skO R C k a b rs T] := by
 subst hR
 match rs, h1, h4, hr with
 | [⟨A0, B0, l0⟩], _, _, hr => exact o_u8 hg g1 g2 A0 B0 l0 (hr _ (by simp))
 | [⟨A0, B0, l0⟩, ⟨A1, B1, l1⟩], _, _, hr => exact o_u9 hg g1 g2 A0 B0 A1 B1 l0 l1 (hr _ (by simp)) (hr _ (by simp))
 | [⟨A0, B0, l0⟩, ⟨A1, B1, l1⟩, ⟨A2, B2, l2⟩], _, _, hr => exact o_ua hg g1 g2 A0 B0 A1 B1 A2 B2 l0 l1 l2 (hr _ (by simp)) (hr _ (by simp)) (hr _ (by simp))
 | [⟨A0, B0, l0⟩, ⟨A1, B1, l1⟩, ⟨A2, B2, l2⟩, ⟨A3, B3, l3⟩], _, _, hr => exact o_ub hg g1 g2 A0 B0 A1 B1 A2 B2 A3 B3 l0 l1 l2 l3 (hr _ (by simp)) (hr _ (by simp)) (hr _ (by simp)) (hr _ (by simp))
end
end Go.Proofs.YtlelpbaeplcfiaaGreatDoor.Am
namespace Go.Proofs.YtlelpbaeplcfiaaGreatDoor.Am
section
open Go.RowKit
end
end Go.Proofs.YtlelpbaeplcfiaaGreatDoor.Am
namespace Go.Proofs.YtlelpbaeplcfiaaGreatDoor.Am
section
open Go.RowKit
def stL (l : List ST) : List D := l.flatMap fun s => [.int .i64 s.1, .int .i64 s.2.1, .bool s.2.2]
end
end Go.Proofs.YtlelpbaeplcfiaaGreatDoor.Am
namespace Go.Proofs.YtlelpbaeplcfiaaGreatDoor.Am
section
open Go.RowKit
abbrev RawS := Int × Int × Bool
def rawL (l : List RawS) : List D := l.flatMap fun s => [.int .i64 s.1, .int .i64 s.2.1, .bool s.2.2]
abbrev stV (l : List ST) : List V := (stL l).map .d
@[simp] theorem o_ud (n : Nat) (l : List ST) : V.lowl n (stV l) = true := o_4n n _
@[simp] theorem o_ue (θ : Nat → Nat) (l : List ST) : V.rens θ (stV l) = stV l := o_4m θ _

def upTo (l : List ST) (i : Nat) : List ST := l.take i ++ List.replicate (l.length - i) (0, 0, false)
end
end Go.Proofs.YtlelpbaeplcfiaaGreatDoor.Am
namespace Go.Proofs.YtlelpbaeplcfiaaGreatDoor.Am
section
open Go.RowKit
def packBits (w : Nat) (xs : List Nat) : List Bool := xs.flatMap fun x => bitsW x w
end
end Go.Proofs.YtlelpbaeplcfiaaGreatDoor.Am
namespace Go.Proofs.YtlelpbaeplcfiaaGreatDoor.Am
section
open Go.RowKit
structure MR where
 e : Int
 l : List ST
 p : Nat
 d : Bool
def mergeUp (cs : List Bool) (k a b : Nat) (l m : List ST) (p : Nat) (d : Bool) : Nat → MR
 | 0 => ⟨0, [], p, d⟩
 | i + 1 =>
  let S := mergeUp cs k a b l m p d i
  if S.e = 0 then
   let R := mergeRM cs k a b (l.getD i (0, 0, false)).1 (l.getD i (0, 0, false)).2.1 (l.getD i (0, 0, false)).2.2 (m.getD i (0, 0, false)).1 (m.getD i (0, 0, false)).2.1 (m.getD i (0, 0, false)).2.2 S.p S.d
   if R.e = 0 then ⟨0, S.l ++ [(R.y, R.t, R.f)], R.p, R.d⟩ else ⟨R.e, S.l, R.p, R.d⟩
  else S
def twin (l acc : List ST) : List ST := acc ++ l.drop acc.length
end
end Go.Proofs.YtlelpbaeplcfiaaGreatDoor.Am
namespace Go.Proofs.YtlelpbaeplcfiaaGreatDoor.Am
section
open Go.RowKit
theorem o_uf {k a b : Nat} (l m : List ST) (hg : GoodR k a b) (h1 : wells k a b l) (h2 : wells k a b m) (hl : 1 ≤ l.length) (hln : l.length ≤ 256) (hm : 1 ≤ m.length) (hmn : m.length ≤ 256) :
  Eqn Tryz.prog o_86 [.d (.ptr (arrD k a b l) 0), .d (.ptr (arrD k a b m) 0)] [] (.d (.bool (decide (l = m)))) [] := by
 refine Eqn.pure o_88 Plain.ok ?_
 have hs := o_rn (wdR k a b) (wdR k a b) (encs k a b l) (encs k a b m) (by simpa using (o_rs hg hl hln).2) (by simpa using (o_rs hg hm hmn).2)
 have he : (decide ((encs k a b l).length = (encs k a b m).length ∧ wdR k a b = wdR k a b ∧ wordsP (wdR k a b) (encs k a b l) = wordsP (wdR k a b) (encs k a b m))) = decide (l = m) := by
  rw [decide_eq_decide, ← o_rr hg h1 h2]; simp
 rw [he] at hs
 simp only [o_87, arrD, o_r8] at hs ⊢
 generalize decide (l = m) = eq at *
 generalize vecD (wdR k a b) (encs k a b m) = VM at *
 generalize vecD (wdR k a b) (encs k a b l) = VL at *
 refine A01 hs ?_; try with_reducible exact tt

theorem o_ug (ws vs : List (Nat × Nat)) (hn : ws.length ≤ 4000) (hm : vs.length ≤ 4000) : Eqn Tryz.prog o_bf [.d (.sl ws.length (hashesD ws)), .d (.sl vs.length (hashesD vs))] [] (.d (.bool (decide (ws = vs)))) [] := by
 refine Eqn.pure o_bh Plain.ok ?_
 simp only [o_bg]
 by_cases hl : ws.length = vs.length
 ·have hlp : (ws.length : Int) = vs.length := by omega
  refine A10 hlp ?_; try with_reducible exact tt
  refine AW.loopT (α := Nat) 0 (fun s => [(13, .d (.int .i64 (s : Int)))]) (fun s => []) (fun s => s ≤ ws.length ∧ ws.take s = vs.take s) (fun s => ws.length - s) 0 ?_ ?_ ⟨Nat.zero_le _, by simp⟩ ?_ ?_ ?_
  ·simp
  ·simp
  ·simp
  ·simp
  rintro i ⟨hi, he⟩
  simp
  by_cases hi' : i < ws.length
  ·have h1 : (i : Int) < ws.length := by omega
   have h1v : (i : Int) < vs.length := by omega
   have hiv : i < vs.length := by omega
   have ew : IntKind.i64.wrap ((i : Int) + 1) = ((i + 1 : Nat) : Int) := by rw [w64 (by omega) (by omega)]; omega
   have g1 := o_sf ws i hi'
   have g2 := o_sf vs i hiv
   have b1 : i * 2 + 2 ≤ ws.length * 2 := by omega
   have b2 : i * 2 + 2 ≤ vs.length * 2 := by omega
   have l1 := o_sg ws
   have l2 := o_sg vs
   by_cases heq : ws[i] = vs[i]
   ·rw [← heq] at g2
    generalize hashesD ws = WD at *
    generalize hashesD vs = VD at *
    refine A10 (fs hi' (fs h1 (fs h1v (fs hiv (fs hlp (fs g1 (fs g2 (fs b1 (fs b2 (fs l1 (fs l2 ew))))))))))) ?_; try with_reducible exact tt
    refine ⟨i + 1, ⟨by omega, ?_⟩, by omega, by simp⟩
    rw [List.take_add_one, List.take_add_one, he, List.getElem?_eq_getElem hi', List.getElem?_eq_getElem hiv, heq]
   ·have hne : ¬ ((ws[i].1 : Int) = vs[i].1 ∧ (ws[i].2 : Int) = vs[i].2) := fun h => heq (Prod.ext (by omega) (by omega))
    have hne2 : ((ws[i].1 : Int) = vs[i].1) → ¬ ((ws[i].2 : Int) = vs[i].2) := fun h k => hne ⟨h, k⟩
    have hfin : decide (ws = vs) = false := by
     rw [decide_eq_false_iff_not]
     rintro rfl
     exact heq rfl
    rw [hfin]
    generalize hashesD ws = WD at *
    generalize hashesD vs = VD at *
    generalize ws[i].1 = x1 at *
    generalize ws[i].2 = x2 at *
    generalize vs[i].1 = y1 at *
    generalize vs[i].2 = y2 at *
    by_cases hx : (x1 : Int) = y1
    ·have hy := hne2 hx
     have hx' : x1 = y1 := by omega
     have hy' : ¬ x2 = y2 := by omega
     subst hx'
     refine A10 (fs hi' (fs h1 (fs h1v (fs hiv (fs hlp (fs g1 (fs g2 (fs b1 (fs b2 (fs l1 (fs l2 (fs hy hy')))))))))))) ?_; try with_reducible exact tt
    ·have hx' : ¬ x1 = y1 := by omega
     refine A10 (fs hi' (fs h1 (fs h1v (fs hiv (fs hlp (fs g1 (fs g2 (fs b1 (fs b2 (fs l1 (fs l2 (fs hx hx')))))))))))) ?_; try with_reducible exact tt
  ·have hi2 : i = ws.length := by omega
   subst hi2
   rw [List.take_length, hl, List.take_length] at he
   subst he
   refine A00 ?_; try with_reducible exact tt
 ·have hlp : ¬ (ws.length : Int) = vs.length := by omega
  have hfin : decide (ws = vs) = false := by
   rw [decide_eq_false_iff_not]
   rintro rfl
   exact hl rfl
  rw [hfin]
  refine A10 (fs hlp hl) ?_; try with_reducible exact tt
end
end Go.Proofs.YtlelpbaeplcfiaaGreatDoor.Am
namespace Go.Proofs.YtlelpbaeplcfiaaGreatDoor.Am
section
open Go.RowKit
end
end Go.Proofs.YtlelpbaeplcfiaaGreatDoor.Am
namespace Go.Proofs.YtlelpbaeplcfiaaGreatDoor.Am
section
open Go.RowKit
def hsOf (rs : List Rw) : List (Nat × Nat) := rs.map fun r => (r.a, r.b)
theorem o_uh {R C k a b T V : Nat} (rs ms : List Rw) (h0 : 1 ≤ rs.length) (hn : rs.length ≤ 4) (m0 : 1 ≤ ms.length) (mn : ms.length ≤ 4) :
  Eqn Tryz.prog o_89 [.p 0 0, .p 1 0] [skO R C k a b rs T, skO R C k a b ms V] (.d (.bool (decide (rs.map (fun r => (r.a, r.b)) = ms.map fun r => (r.a, r.b))))) [skO R C k a b rs T, skO R C k a b ms V] := by
 refine Eqn.gen [0, 1] o_8b (by simp) (by simp) (by rfl) (by decide) (by simp) (by simp [skO, skD]) ?_
 have h1 := o_tb (R := R) (C := C) (k := k) (a := a) (b := b) (T := T) rs h0 hn
 have h2 := o_tb (R := R) (C := C) (k := k) (a := a) (b := b) (T := V) ms m0 mn
 have he := o_ug (rs.map fun r => (r.a, r.b)) (ms.map fun r => (r.a, r.b)) (by simp; omega) (by simp; omega)
 have l1 := o_sg (rs.map fun r => (r.a, r.b))
 have l2 := o_sg (ms.map fun r => (r.a, r.b))
 have t1 : (hashesD (rs.map fun r => (r.a, r.b))).take (rs.length * 2) = hashesD (rs.map fun r => (r.a, r.b)) := List.take_of_length_le (by rw [l1]; simp)
 have t2 : (hashesD (ms.map fun r => (r.a, r.b))).take (ms.length * 2) = hashesD (ms.map fun r => (r.a, r.b)) := List.take_of_length_le (by rw [l2]; simp)
 simp only [o_8a, skO, skD, List.map_cons, List.map_nil, List.length_map] at h1 h2 he ⊢
 generalize decide (rs.map (fun r => (r.a, r.b)) = ms.map fun r => (r.a, r.b)) = eq at *
 generalize hashesD (rs.map fun r => (r.a, r.b)) = H1 at *
 generalize hashesD (ms.map fun r => (r.a, r.b)) = H2 at *
 generalize rowsD k a b rs = R1 at *
 generalize rowsD k a b ms = R2 at *
 rw [← t1, ← t2] at he
 refine A00 ?_; try with_reducible exact tt
 refine CallS.g [0] (h1) (R0 ?_); try with_reducible exact tt
 refine CallS.g [1] (h2) (R0 ?_); try with_reducible exact tt
 refine CallS.ro [(2, 2, H1), (3, 2, H2)] (he) (R0 ?_) (hok := by first | (simp [frzOK, frzH, t1, t2, o_rt]; done) | (simp [frzOK, frzH, t1, t2, o_rt]; rfl)); try with_reducible exact tt
theorem o_ui {k a b : Nat} (A B A' B' : Nat) (l m : List ST) (hg : GoodR k a b) (h1 : wells k a b l) (h2 : wells k a b m) (hl : 1 ≤ l.length) (hln : l.length ≤ 256) (hm : 1 ≤ m.length) (hmn : m.length ≤ 256) :
  Eqn Tryz.prog o_83 [.d (.agg [.int .u64 A, .int .u64 B, .ptr (arrD k a b l) 0]), .d (.agg [.int .u64 A', .int .u64 B', .ptr (arrD k a b m) 0])] [] (.d (.bool (decide (l = m)))) [] := by
 refine Eqn.pure o_85 Plain.ok ?_
 have hs := o_uf l m hg h1 h2 hl hln hm hmn
 simp only [o_84]
 generalize decide (l = m) = eq at *
 generalize arrD k a b l = AL at *
 generalize arrD k a b m = AM at *
 refine A01 hs ?_; try with_reducible exact tt
theorem o_uj {C k a b : Nat} (rs ms : List Rw) (hg : GoodR k a b) (hC : 1 ≤ C) (hC2 : C ≤ 64) (hr : ∀ r ∈ rs, GoodRow C k a b r) (hm : ∀ r ∈ ms, GoodRow C k a b r) (hn : rs.length ≤ 4) (hl : rs.length = ms.length) :
  Eqn Tryz.prog o_8c [.d (.sl rs.length (rowsD k a b rs)), .d (.sl ms.length (rowsD k a b ms)), .fn (.func o_83) []] [] (.d (.bool (decide (rs.map Rw.l = ms.map Rw.l)))) [] := by
 refine Eqn.pure o_8e Plain.ok ?_
 have hlp : (rs.length : Int) = ms.length := by omega
 have hg1 := o_ta k a b rs
 have hg2 := o_ta k a b ms
 have l1 := o_t9 k a b rs
 have l2 := o_t9 k a b ms
 simp only [o_8d]
 generalize rowsD k a b rs = RD at *
 generalize rowsD k a b ms = MD at *
 refine A10 (fs hlp hl) ?_; try with_reducible exact tt
 refine AW.loopT (α := Nat) 0 (fun s => [(17, .d (.int .i64 (s : Int)))]) (fun s => []) (fun s => s ≤ rs.length ∧ (rs.map Rw.l).take s = (ms.map Rw.l).take s) (fun s => rs.length - s) 0 ?_ ?_ ⟨Nat.zero_le _, by simp⟩ ?_ ?_ ?_
 ·simp
 ·simp
 ·simp
 ·simp
 rintro i ⟨hi, he⟩
 simp
 by_cases hi' : i < rs.length
 ·have p1 : (i : Int) < rs.length := by omega
  have pp2 : (i : Int) < ms.length := by omega
  have hiv : i < ms.length := by omega
  have ew : IntKind.i64.wrap ((i : Int) + 1) = ((i + 1 : Nat) : Int) := by rw [w64 (by omega) (by omega)]; omega
  have g1 := hg1 i hi'
  have g2 := hg2 i hiv
  have b1 : i * 3 + 3 ≤ rs.length * 3 := by omega
  have b2 : i * 3 + 3 ≤ ms.length * 3 := by omega
  obtain ⟨-, -, c1, w1⟩ := hr rs[i] (List.getElem_mem _)
  obtain ⟨-, -, c2, w2⟩ := hm ms[i] (List.getElem_mem _)
  have hsc := o_ui rs[i].a rs[i].b ms[i].a ms[i].b rs[i].l ms[i].l hg w1 w2 (by omega) (by omega) (by omega) (by omega)
  have hnx : rs[i].l = ms[i].l → (rs.map Rw.l).take (i + 1) = (ms.map Rw.l).take (i + 1) := fun h => by
   rw [List.take_add_one, List.take_add_one, he, List.getElem?_map, List.getElem?_map, List.getElem?_eq_getElem hi', List.getElem?_eq_getElem hiv, Option.map_some, Option.map_some, h]
  have hno : ¬ rs[i].l = ms[i].l → decide (rs.map Rw.l = ms.map Rw.l) = false := fun h => by
   rw [decide_eq_false_iff_not]
   intro h2
   have := congrArg (fun l => l[i]?) h2
   simp only [List.getElem?_map, List.getElem?_eq_getElem hi', List.getElem?_eq_getElem hiv, Option.map_some, Option.some.injEq] at this
   exact h this
  by_cases heq : rs[i].l = ms[i].l
  ·rw [decide_eq_true heq] at hsc
   replace hnx := hnx heq
   clear hno
   generalize arrD k a b rs[i].l = AL at *
   generalize arrD k a b ms[i].l = AM at *
   refine A10 (fs hi' (fs p1 (fs pp2 (fs hiv (fs g1 (fs g2 (fs b1 (fs b2 (fs l1 l2))))))))) ?_; try with_reducible exact tt
   refine CallS.pu (hsc) (R1 ew ?_); try with_reducible exact tt
   refine A10 ew ?_; try with_reducible exact tt
   exact ⟨i + 1, ⟨by omega, hnx⟩, by omega, Sub1.int (by omega)⟩
  ·rw [decide_eq_false heq] at hsc
   rw [hno heq]
   generalize arrD k a b rs[i].l = AL at *
   generalize arrD k a b ms[i].l = AM at *
   refine A10 (fs hi' (fs p1 (fs pp2 (fs hiv (fs g1 (fs g2 (fs b1 (fs b2 (fs l1 l2))))))))) ?_; try with_reducible exact tt
   refine CallS.pu (hsc) (R0 ?_); try with_reducible exact tt
   refine A00 ?_; try with_reducible exact tt
 ·have hi2 : i = rs.length := by omega
  subst hi2
  rw [List.take_of_length_le (by simp), List.take_of_length_le (by simp; omega)] at he
  rw [decide_eq_true he]
  refine A10 (fs hlp hl) ?_; try with_reducible exact tt
theorem o_uk : ∀ {rs ms : List Rw}, rs.map (fun r => (r.a, r.b)) = ms.map (fun r => (r.a, r.b)) → rs.map Rw.l = ms.map Rw.l → rs = ms
 | [], [], _, _ => rfl
 | [], m :: ms, h, _ => by simp at h
 | r :: rs, [], h, _ => by simp at h
 | ⟨a, b, l⟩ :: rs, ⟨c, d, m⟩ :: ms, h, g => by
  simp only [List.map_cons, List.cons.injEq, Prod.mk.injEq] at h g
  obtain ⟨⟨rfl, rfl⟩, h⟩ := h
  obtain ⟨rfl, g⟩ := g
  rw [o_uk h g]
instance : DecidableEq Rw := fun x y => decidable_of_iff (x.a = y.a ∧ x.b = y.b ∧ x.l = y.l) (by cases x; cases y; simp)
theorem o_ul {R C k a b T V : Nat} (rs ms : List Rw) (hg : GoodR k a b) (hC : 1 ≤ C) (hC2 : C ≤ 64) (hr : ∀ r ∈ rs, GoodRow C k a b r) (hm : ∀ r ∈ ms, GoodRow C k a b r) (h1 : 1 ≤ rs.length) (hn : rs.length ≤ 4) (hl : rs.length = ms.length) :
  Eqn Tryz.prog o_60 [.p 0 0, .p 1 0] [skO R C k a b rs T, skO R C k a b ms V] (.d (.bool (decide (rs = ms ∧ T = V)))) [skO R C k a b rs T, skO R C k a b ms V] := by
 refine Eqn.gen [0, 1] o_62 (by simp) (by simp) (by rfl) (by decide) (by simp) (by simp [skO, skD]) ?_
 have ha := o_uh (R := R) (C := C) (k := k) (a := a) (b := b) (T := T) (V := V) rs ms h1 hn (by omega) (by omega)
 have he := o_uj rs ms hg hC hC2 hr hm hn hl
 simp only [o_61, skO, skD, List.map_cons, List.map_nil, ← hl] at ha he ⊢
 have hlp : (rs.length : Int) = ms.length := by omega
 by_cases q1 : rs.map (fun r => (r.a, r.b)) = ms.map fun r => (r.a, r.b)
 ·rw [decide_eq_true q1] at ha
  by_cases q2 : T = V
  ·subst q2
   by_cases q3 : rs.map Rw.l = ms.map Rw.l
   ·rw [decide_eq_true q3] at he
    rw [decide_eq_true (show rs = ms ∧ T = T from ⟨o_uk q1 q3, rfl⟩)]
    generalize rowsD k a b rs = RD at *
    generalize rowsD k a b ms = MD at *
    refine A00 ?_; try with_reducible exact tt
    refine CallS.g [0, 1] (ha) (R0 ?_); try with_reducible exact tt
    refine CallS.pu (he) (R0 ?_); try with_reducible exact tt
   ·rw [decide_eq_false q3] at he
    rw [decide_eq_false (show ¬ (rs = ms ∧ T = T) from fun h => q3 (by rw [h.1]))]
    generalize rowsD k a b rs = RD at *
    generalize rowsD k a b ms = MD at *
    refine A00 ?_; try with_reducible exact tt
    refine CallS.g [0, 1] (ha) (R0 ?_); try with_reducible exact tt
    refine CallS.pu (he) (R0 ?_); try with_reducible exact tt
  ·rw [decide_eq_false (show ¬ (rs = ms ∧ T = V) from fun h => q2 h.2)]
   have q2' : ¬ (T : Int) = V := by omega
   generalize rowsD k a b rs = RD at *
   generalize rowsD k a b ms = MD at *
   refine A00 ?_; try with_reducible exact tt
   refine CallS.g [0, 1] (ha) (R1 (fs q2 q2') ?_); try with_reducible exact tt
 ·rw [decide_eq_false q1] at ha
  rw [decide_eq_false (show ¬ (rs = ms ∧ T = V) from fun h => q1 (by rw [h.1]))]
  generalize rowsD k a b rs = RD at *
  generalize rowsD k a b ms = MD at *
  refine A00 ?_; try with_reducible exact tt
  refine CallS.g [0, 1] (ha) (R0 ?_); try with_reducible exact tt
end
end Go.Proofs.YtlelpbaeplcfiaaGreatDoor.Am
namespace Go.Proofs.YtlelpbaeplcfiaaGreatDoor.Am
section
def dval : List Nat → Nat
 | [] => 0
 | x :: l => x + 10000 * dval l
def dsmall (ws : List Nat) : Prop := ∀ x ∈ ws, x < 10000

theorem o_um : ∀ (a b : List Nat), dval (a ++ b) = dval a + 10000 ^ a.length * dval b := by
 intro a
 induction a with
 | nil => intro b; simp [dval]
 | cons x a ih => intro b; simp only [List.cons_append, dval, List.length_cons]; rw [ih, Nat.pow_succ, Nat.mul_add, ← Nat.mul_assoc, Nat.mul_comm 10000 (10000 ^ a.length)]; omega
theorem o_un : ∀ n, dval (List.replicate n 0) = 0 := by
 intro n
 induction n with
 | zero => rfl
 | succ n ih => rw [List.replicate_succ, dval, ih]
theorem o_uo : ∀ {ws : List Nat}, dsmall ws → dval ws < 10000 ^ ws.length := by
 intro ws
 induction ws with
 | nil => intro _; simp [dval]
 | cons x l ih =>
  intro h
  have h1 := h x (by simp)
  have h2 := ih (fun y hy => h y (by simp [hy]))
  rw [dval, List.length_cons, Nat.pow_succ]
  omega

theorem o_up (ws : List Nat) : ∀ n, n ≤ ws.length → dval (ws.take (trimN ws n)) = dval (ws.take n) := by
 intro n
 induction n with
 | zero => intro _; rfl
 | succ n ih =>
  intro h
  unfold trimN
  split
  ·rename_i h0
   rw [ih (by omega), o_hx _ _ (by omega), o_um, h0]
   simp [dval]
  ·rfl
theorem dsmall.take {ws : List Nat} (h : dsmall ws) (n : Nat) : dsmall (ws.take n) := fun x hx => h x (List.mem_of_mem_take hx)

theorem o_uq {ws : List Nat} (h : dsmall ws) (ht : top1 ws) (h0 : dval ws = 0) : ws = [] := by
 rcases ws.eq_nil_or_concat with rfl | ⟨l, x, rfl⟩
 ·rfl
 ·exfalso
  have := ht l.length (by simp)
  simp at this
  simp [o_um, dval] at h0
  rcases Nat.mul_eq_zero.1 h0.2 with h | h
  ·exact absurd h (Nat.pos_iff_ne_zero.1 (Nat.pow_pos (by decide)))
  ·exact this h

theorem o_ur : ∀ {a b : List Nat}, dsmall a → dsmall b → top1 a → top1 b → dval a = dval b → a = b := by
 intro a
 induction a with
 | nil => intro b _ hb _ tb h; exact (o_uq hb tb h.symm).symm
 | cons x a ih =>
  intro b ha hb ta tb h
  cases b with
  | nil => exact absurd (o_uq ha ta h) (by simp)
  | cons y b =>
   have h1 := ha x (by simp)
   have h2 := hb y (by simp)
   simp only [dval] at h
   have e : x = y := by omega
   subst e
   have e2 : dval a = dval b := by omega
   have e3 : a = b := ih (fun z hz => ha z (by simp [hz])) (fun z hz => hb z (by simp [hz])) (fun k hk => by have := ta (k + 1) (by simp [hk]); simpa using this) (fun k hk => by have := tb (k + 1) (by simp [hk]); simpa using this) e2
   rw [e3]

theorem o_us : ∀ {ws : List Nat} {m : Nat}, top1 ws → dval ws < 10000 ^ m → ws.length ≤ m := by
 intro ws
 induction ws with
 | nil => intro m _ _; exact Nat.zero_le _
 | cons x l ih =>
  intro m ht h
  cases m with
  | zero =>
   exfalso
   rw [Nat.pow_zero] at h
   rw [dval] at h
   cases l with
   | nil =>
    have := ht 0 rfl
    simp [dval] at this h
    omega
   | cons y l =>
    have hw : dval (y :: l) = 0 := by omega
    have : (y :: l).length ≤ 0 := ih (m := 0) (fun k hk => by have := ht (k + 1) (by simp [hk]); simpa using this) (by rw [hw]; decide)
    simp at this
  | succ m =>
   rw [List.length_cons]
   have : l.length ≤ m := by
    cases l with
    | nil => exact Nat.zero_le _
    | cons y l =>
     refine ih (fun k hk => by have := ht (k + 1) (by simp [hk]); simpa using this) ?_
     rw [dval, Nat.pow_succ] at h
     omega
   omega

theorem o_ut (f : Nat → Nat) (n : Nat) : dval ((List.range (n + 1)).map f) = dval ((List.range n).map f) + 10000 ^ n * f n := by
 rw [List.range_succ, List.map_append, o_um]
 simp [dval]
theorem o_uu (l : List Nat) (n : Nat) : dval (l.take (n + 1)) = dval (l.take n) + 10000 ^ n * l.getD n 0 := by
 by_cases h : n < l.length
 ·rw [o_hx _ _ h, o_um, List.length_take, Nat.min_eq_left (Nat.le_of_lt h)]
  simp [dval]
 ·rw [List.take_of_length_le (by omega), List.take_of_length_le (by omega)]
  simp [List.getD, List.getElem?_eq_none (show l.length ≤ n by omega)]

def carryD (a b : List Nat) : Nat → Nat
 | 0 => 0
 | n + 1 => (a.getD n 0 + b.getD n 0 + carryD a b n) / 10000
def addD (a b : List Nat) (n : Nat) : Nat := (a.getD n 0 + b.getD n 0 + carryD a b n) % 10000

theorem dsmall.getD {l : List Nat} (h : dsmall l) (n : Nat) : l.getD n 0 < 10000 := by
 by_cases hn : n < l.length
 ·rw [List.getD, List.getElem?_eq_getElem hn]; exact h _ (List.getElem_mem hn)
 ·simp [List.getD, List.getElem?_eq_none (show l.length ≤ n by omega)]
theorem o_uv {a b : List Nat} (ha : dsmall a) (hb : dsmall b) : ∀ n, carryD a b n ≤ 1 := by
 intro n
 induction n with
 | zero => exact Nat.zero_le _
 | succ n ih =>
  have h1 := ha.getD n
  have h2 := hb.getD n
  simp only [carryD]
  omega
theorem o_uw (a b : List Nat) : ∀ n, dval ((List.range n).map (addD a b)) + 10000 ^ n * carryD a b n = dval (a.take n) + dval (b.take n) := by
 intro n
 induction n with
 | zero => simp [dval, carryD]
 | succ n ih =>
  rw [o_ut, o_uu, o_uu]
  have := Nat.div_add_mod (a.getD n 0 + b.getD n 0 + carryD a b n) 10000
  simp only [addD, carryD]
  rw [Nat.pow_succ]
  generalize 10000 ^ n = P at *
  generalize (a.getD n 0 + b.getD n 0 + carryD a b n) / 10000 = q at *
  generalize (a.getD n 0 + b.getD n 0 + carryD a b n) % 10000 = r at *
  have e : P * (10000 * q + r) = P * a.getD n 0 + P * b.getD n 0 + P * carryD a b n := by rw [this]; simp [Nat.mul_add]
  rw [Nat.mul_add, ← Nat.mul_assoc] at e
  omega

def borrowD (a b : List Nat) : Nat → Nat
 | 0 => 0
 | n + 1 => if a.getD n 0 < b.getD n 0 + borrowD a b n then 1 else 0
def subD (a b : List Nat) (n : Nat) : Nat := (a.getD n 0 + 10000 - b.getD n 0 - borrowD a b n) % 10000
theorem o_ux (a b : List Nat) : ∀ n, borrowD a b n ≤ 1 := by
 intro n
 cases n with
 | zero => exact Nat.zero_le _
 | succ n => simp only [borrowD]; split <;> omega
theorem o_uy {a b : List Nat} (ha : dsmall a) (hb : dsmall b) : ∀ n, dval ((List.range n).map (subD a b)) + dval (b.take n) = dval (a.take n) + 10000 ^ n * borrowD a b n := by
 intro n
 induction n with
 | zero => simp [dval, borrowD]
 | succ n ih =>
  rw [o_ut, o_uu, o_uu]
  have h1 := ha.getD n
  have h2 := hb.getD n
  have h3 := o_ux a b n
  have e : subD a b n + b.getD n 0 + borrowD a b n = a.getD n 0 + 10000 * borrowD a b (n + 1) := by
   simp only [subD, borrowD]
   split <;> omega
  rw [Nat.pow_succ, Nat.mul_assoc]
  generalize 10000 ^ n = P at *
  have e2 : P * subD a b n + P * b.getD n 0 + P * borrowD a b n = P * a.getD n 0 + P * (10000 * borrowD a b (n + 1)) := by rw [← Nat.mul_add, ← Nat.mul_add, e, Nat.mul_add]
  omega
theorem o_uz {f : Nat → Nat} (h : ∀ i, f i < 10000) (n : Nat) : dsmall ((List.range n).map f) := by
 intro x hx
 obtain ⟨i, _, rfl⟩ := List.mem_map.1 hx
 exact h i
theorem o_v0 (a b : List Nat) (i : Nat) : addD a b i < 10000 := Nat.mod_lt _ (by decide)
theorem o_v1 (a b : List Nat) (i : Nat) : subD a b i < 10000 := Nat.mod_lt _ (by decide)

theorem o_v2 {a b : List Nat} (ha : dsmall a) (hb : top1 b) (h : a.length < b.length) : dval a < dval b := by
 refine Nat.lt_of_lt_of_le (o_uo ha) ?_
 apply Nat.le_of_not_lt
 intro hlt
 have := o_us hb hlt
 omega
theorem o_v3 {l : List Nat} (h : dsmall l) (n : Nat) : dval (l.take n) < 10000 ^ n := by
 have := o_uo (h.take n)
 rw [List.length_take] at this
 exact Nat.lt_of_lt_of_le this (Nat.pow_le_pow_right (by decide) (Nat.min_le_left _ _))
theorem o_v4 {a b : List Nat} (ha : dsmall a) (hb : dsmall b) : ∀ n, cmpN a b n = if dval (a.take n) < dval (b.take n) then -1 else if dval (b.take n) < dval (a.take n) then 1 else 0 := by
 intro n
 induction n with
 | zero => simp [cmpN, dval]
 | succ n ih =>
  rw [o_uu, o_uu]
  have h1 := o_v3 ha n
  have h2 := o_v3 hb n
  simp only [cmpN]
  generalize 10000 ^ n = P at *
  generalize a.getD n 0 = x at *
  generalize b.getD n 0 = y at *
  by_cases hxy : x < y
  ·rw [if_pos hxy, if_pos]
   have : P * (x + 1) ≤ P * y := Nat.mul_le_mul_left _ hxy
   rw [Nat.mul_add] at this
   omega
  ·rw [if_neg hxy]
   by_cases hyx : y < x
   ·have : P * (y + 1) ≤ P * x := Nat.mul_le_mul_left _ hyx
    rw [Nat.mul_add] at this
    rw [if_pos hyx, if_neg (by omega), if_pos (by omega)]
   ·obtain rfl : x = y := by omega
    rw [if_neg hyx, ih]
    simp only [Nat.add_lt_add_iff_right]

def decsF : Nat → Nat → List Nat
 | 0, _ => []
 | f + 1, n => if n = 0 then [] else (n % 10000) :: decsF f (n / 10000)
def decs (n : Nat) : List Nat := decsF n n

theorem o_v5 : ∀ (f n : Nat), n ≤ f → dval (decsF f n) = n ∧ dsmall (decsF f n) ∧ top1 (decsF f n)
 | 0, n, h => by
  obtain rfl : n = 0 := by omega
  exact ⟨rfl, by simp [dsmall, decsF], by intro k hk; simp [decsF] at hk⟩
 | f + 1, n, h => by
  by_cases h0 : n = 0
  ·subst h0
   simp only [decsF, if_true]
   exact ⟨rfl, by simp [dsmall], by intro k hk; simp at hk⟩
  ·obtain ⟨h1, h2, h3⟩ := o_v5 f (n / 10000) (by omega)
   simp only [decsF, if_neg h0]
   refine ⟨by simp only [dval, h1]; omega, fun x hx => ?_, fun k hk => ?_⟩
   ·rcases List.mem_cons.1 hx with rfl | hx
    ·omega
    ·exact h2 x hx
   ·cases hl : decsF f (n / 10000) with
    | nil =>
     rw [hl] at h1 hk
     simp [dval] at h1 hk
     subst hk
     simp; omega
    | cons y r =>
     rw [hl] at hk h3
     simp at hk
     subst hk
     have := h3 r.length rfl
     simpa using this
theorem o_v6 (n : Nat) : dval (decs n) = n := (o_v5 n n (Nat.le_refl _)).1
theorem o_v7 (n : Nat) : dsmall (decs n) := (o_v5 n n (Nat.le_refl _)).2.1
theorem o_v8 (n : Nat) : top1 (decs n) := (o_v5 n n (Nat.le_refl _)).2.2
theorem o_v9 {ws : List Nat} (h : dsmall ws) (ht : top1 ws) : decs (dval ws) = ws := o_ur (o_v7 _) h (o_v8 _) ht (o_v6 _)
theorem o_va {n : Nat} : decs n = [] ↔ n = 0 := by
 constructor
 ·intro h; have := o_v6 n; rw [h] at this; exact this.symm
 ·rintro rfl; rfl


def sizeD (n : Nat) : Nat := (decs n).length
end
end Go.Proofs.YtlelpbaeplcfiaaGreatDoor.Am
namespace Go.Proofs.YtlelpbaeplcfiaaGreatDoor.Am
section
open Go.RowKit
def dsD (l : List Nat) : List D := l.map fun x : Nat => D.int .i64 x
def nD (n : Nat) : D := .sl (sizeD n) (dsD (decs n))
theorem o_vb (l : List Nat) : (dsD l).length = l.length := by simp [dsD]
theorem o_vc (l : List Nat) (i : Nat) (h : i < l.length) : (dsD l)[i]? = some (.int .i64 (l.getD i 0 : Nat)) := by simp [dsD, h]
theorem o_vd : decs 0 = [] := rfl
theorem o_ve : nD 0 = .sl 0 [] := rfl

theorem o_vf (l : List Nat) (hs : dsmall l) (hn : l.length ≤ 1000000) : Eqn Tryz.prog o_bo [.d (.sl l.length (dsD l))] [] (.d (nD (dval l))) [] := by
 refine Eqn.pure o_bq Plain.ok ?_
 have hlen := o_vb l
 have hget := o_vc l
 have htk : ∀ i, i ≤ l.length → trimN l i = trimN l l.length → trimN l i = i → D.sl i ((dsD l).take i) = nD (dval l) := by
  intro i hi h1 h2
  have h3 := o_up l l.length (Nat.le_refl _)
  have h4 := o_hz l l.length (Nat.le_refl _)
  rw [← h1, h2, List.take_length] at h3
  rw [← h1, h2] at h4
  have h5 := o_v9 (hs.take i) h4
  rw [h3] at h5
  unfold nD sizeD dsD
  rw [h5, List.length_take, Nat.min_eq_left hi, List.map_take]
 have htk' : ∀ i, i ≤ l.length → trimN l i = trimN l l.length → trimN l i = i → D.sl i ((l.map fun x : Nat => D.int .i64 x).take i) = nD (dval l) := htk
 simp only [o_bp, dsD]
 clear hlen hget htk
 generalize nD (dval l) = N at *
 refine A00 ?_; try with_reducible exact tt
 refine AW.loopT (α := Nat) 0 (fun i => [(3, .d (.int .i64 (i : Nat)))]) (fun i => []) (fun i => i ≤ l.length ∧ trimN l i = trimN l l.length) (fun i => i) l.length ?_ ?_ ⟨Nat.le_refl _, rfl⟩ ?_ ?_ ?_
 ·simp
 ·simp
 ·simp
 ·simp
 rintro i ⟨hi, ht⟩
 simp
 rcases i with _ | m
 ·have hf := htk' 0 hi ht rfl
  refine A00 ?_; try with_reducible exact tt
  exact Sub1.of (by rw [← hf]; simp)
 ·have hm : m < l.length := by omega
  have hm2 : ¬ l.length ≤ m := by omega
  have hge : l.getD m 0 = l[m] := by simp [List.getD, hm]
  have ew : IntKind.i64.wrap (m : Int) = (m : Int) := w64 (by omega) (by omega)
  by_cases h0 : l[m] = 0
  ·have ht2 : trimN l m = trimN l l.length := by rw [← ht, trimN, if_pos (by rw [hge]; exact h0)]
   refine A10 (fs hm (fs hm2 (fs hi (fs h0 ew)))) ?_; try with_reducible exact tt
   exact ⟨m, ⟨by omega, ht2⟩, by omega, Sub1.refl _⟩
  ·have hf := htk' (m + 1) hi ht (by rw [trimN, if_neg (by rw [hge]; exact h0)])
   have h0' : ¬ ((l[m] : Nat) : Int) = 0 := by omega
   refine A10 (fs hm (fs hm2 (fs hi (fs h0 (fs h0' ew))))) ?_; try with_reducible exact tt
   exact Sub1.of (by rw [hf])
theorem o_vg {m : Nat} (h : m ≠ 0) : decs m = (m % 10000) :: decs (m / 10000) := by
 obtain ⟨k, rfl⟩ : ∃ k, m = k + 1 := ⟨m - 1, by omega⟩
 conv => lhs; unfold decs
 rw [decsF, if_neg h]
 obtain ⟨h1, h2, h3⟩ := o_v5 k ((k + 1) / 10000) (by omega)
 rw [o_ur h2 (o_v7 _) h3 (o_v8 _) (by rw [h1, o_v6])]
theorem o_vh (l : List Nat) (x : Nat) : (dsD (l ++ [x])).map V.d = (dsD l).map V.d ++ [.d (.int .i64 x)] := by simp [dsD]

theorem o_vi (n : Nat) (hn : n < 9223372036854775808) : Eqn Tryz.prog o_al [.d (.int .i64 n)] [] (.d (nD n)) [] := by
 refine Eqn.pure o_an Plain.ok ?_
 have hsz : (decs n).length ≤ 5 := o_us (o_v8 n) (by rw [o_v6]; omega)
 simp only [o_am]
 refine A00 ?_; try with_reducible exact tt
 refine AW.loopG (α := List Nat × Nat) (fun s => setS (List.replicate 14 .junk) [(0, .d (.int .i64 (s.2 : Nat))), (3, if s.1 = [] then .d .nilsl else .own 0 1 s.1.length)]) (fun s => if s.1 = [] then [] else [some ⟨3, (dsD s.1).map .d⟩]) (fun s => s.1 ++ decs s.2 = decs n ∧ s.2 ≤ n) (fun s => s.2) ([], n) ?_ ⟨rfl, Nat.le_refl _⟩ ?_ ?_ ?_
 ·intro i hi; split <;> simp
 ·simp
 ·simp
 rintro ⟨pre, m⟩ ⟨hp, hm⟩
 simp only at hp hm
 have hpl : pre.length ≤ 5 := by rw [← hp, List.length_append] at hsz; omega
 by_cases h0 : m = 0
 ·subst h0
  rw [o_vd, List.append_nil] at hp
  subst hp
  by_cases hpe : decs n = []
  ·have hn0 := o_va.1 hpe
   subst hn0
   rw [if_pos hpe, if_pos hpe]
   simp
   refine A00 ?_; try with_reducible exact tt
   exact Sub1.nil
  ·rw [if_neg hpe, if_neg hpe]
   have htk : (dsD (decs n)).take (decs n).length = dsD (decs n) := List.take_of_length_le (by rw [o_vb]; omega)
   simp
   refine AW.freeze 0 1 ⟨3, (dsD (decs n)).map .d⟩ (dsD (decs n)) (by simp) rfl ?_
   simp [frzH, htk]
   refine A00 ?_; try with_reducible exact tt
   exact Sub1.refl _
 ·have hst := o_vg h0
  rw [hst, List.append_cons] at hp
  have hmp : 0 < m := by omega
  have hmp' : (0 : Int) < m := by omega
  have e1 : (m : Int).tmod 10000 = ((m % 10000 : Nat) : Int) := by rw [Int.tmod_eq_emod_of_nonneg (by omega)]; omega
  have e2 : (m : Int).tdiv 10000 = ((m / 10000 : Nat) : Int) := by rw [Int.tdiv_eq_ediv_of_nonneg (by omega)]; omega
  have hlt : m / 10000 < m := by omega
  have hle : m / 10000 ≤ n := by omega
  have hsn := o_vh pre (m % 10000)
  clear hst
  generalize m % 10000 = x at *
  generalize m / 10000 = y at *
  by_cases hpe : pre = []
  ·subst hpe
   simp
   refine A10 (fs hmp (fs hmp' (fs e1 e2))) ?_; try with_reducible exact tt
   refine ⟨[x], y, 0, 1, by simp, ⟨hp, hle⟩, hlt, ?_, ?_⟩
   ·simp [swT, swH, sw, Ob.sw, V.ren, V.rens]
   ·simp [swT, swH, sw, Ob.sw, V.ren, V.rens, dsD]
  ·rw [if_neg hpe, if_neg hpe]
   simp
   have hlen := o_vb pre
   refine A10 (fs hmp (fs hmp' (fs e1 (fs e2 (fs hlen hpl))))) ?_; try with_reducible exact tt
   refine ⟨pre ++ [x], y, 0, 2, by simp, ⟨hp, hle⟩, hlt, ?_, ?_⟩
   ·simp [swT, swH, sw, Ob.sw, V.ren, V.rens]
   ·simp [swT, swH, sw, Ob.sw, V.ren, V.rens, hsn]
end
end Go.Proofs.YtlelpbaeplcfiaaGreatDoor.Am
namespace Go.Proofs.YtlelpbaeplcfiaaGreatDoor.Am
section
open Go.RowKit
theorem o_vj (f : Nat → Nat) (i : Nat) : dsD ((List.range (i + 1)).map f) = dsD ((List.range i).map f) ++ [.int .i64 (f i)] := by
 rw [List.range_succ, List.map_append]; simp [dsD]
set_option maxHeartbeats 1000000 in
theorem o_vk (a b : List Nat) (ha : dsmall a) (hb : dsmall b) (hla : a.length ≤ 100000) (hlb : b.length ≤ 100000) : Eqn Tryz.prog o_8i [.d (.sl a.length (dsD a)), .d (.sl b.length (dsD b))] [] (.d (nD (dval a + dval b))) [] := by
 refine Eqn.pure o_8k Plain.ok ?_
 obtain ⟨F, hF⟩ : ∃ F : Nat → List D, F = fun i => dsD ((List.range i).map (addD a b)) := ⟨_, rfl⟩
 have hFl : ∀ i, (F i).length = i := by intro i; rw [hF]; simp [dsD]
 have hFs : ∀ i, F (i + 1) = F i ++ [.int .i64 (addD a b i)] := by intro i; rw [hF]; exact o_vj _ i
 have hF0 : F 0 = [] := by rw [hF]; rfl
 have htr : ∀ i, i ≤ 200001 → Eqn Tryz.prog o_bo [.d (.sl i (F i))] [] (.d (nD (dval ((List.range i).map (addD a b))))) [] := by
  intro i hi
  have := o_vf ((List.range i).map (addD a b)) (o_uz (o_v0 a b) i) (by simp; omega)
  rw [hF]
  simpa using this
 have hcl := o_uv ha hb
 have hval := o_uw a b
 clear hF
 simp only [o_8j, dsD]
 refine A00 ?_; try with_reducible exact tt
 refine AW.loopG (α := Nat) (fun i => setS (List.replicate 53 .junk) [(0, .d (.sl a.length (a.map fun x : Nat => D.int .i64 x))), (1, .d (.sl b.length (b.map fun x : Nat => D.int .i64 x))), (5, if i = 0 then .d .nilsl else .own 0 1 i), (6, .d (.int .i64 (carryD a b i : Nat))), (7, .d (.int .i64 (i : Nat)))]) (fun i => if i = 0 then [] else [some ⟨3, (F i).map .d⟩]) (fun i => i ≤ max a.length b.length + 1) (fun i => max a.length b.length + 1 - i) 0 ?_ (Nat.zero_le _) ?_ ?_ ?_
 ·intro i hi; split <;> simp
 ·simp [carryD]
 ·simp
 rintro i hi
 have hc1 := hcl i
 have hqb := hcl (i + 1)
 have hsn := hFs i
 have hqd : carryD a b (i + 1) = (a.getD i 0 + b.getD i 0 + carryD a b i) / 10000 := rfl
 have hrd : addD a b i = (a.getD i 0 + b.getD i 0 + carryD a b i) % 10000 := rfl
 have g1 := ha.getD i
 have g2 := hb.getD i
 have ew : IntKind.i64.wrap ((i : Int) + 1) = (i : Int) + 1 := w64 (by omega) (by omega)
 have e3 : ((a.getD i 0 + b.getD i 0 + carryD a b i : Nat) : Int).tmod 10000 = (addD a b i : Int) := by rw [Int.tmod_eq_emod_of_nonneg (by omega), hrd]; omega
 have e4 : ((a.getD i 0 + b.getD i 0 + carryD a b i : Nat) : Int).tdiv 10000 = (carryD a b (i + 1) : Int) := by rw [Int.tdiv_eq_ediv_of_nonneg (by omega), hqd]; omega
 by_cases pa : i < a.length
 ·have ga : a[i] = a.getD i 0 := by simp [List.getD, pa]
  by_cases pb : i < b.length
  ·have gb : b[i] = b.getD i 0 := by simp [List.getD, pb]
   have e1 : IntKind.i64.wrap ((carryD a b i : Int) + (a.getD i 0 : Nat)) = (carryD a b i : Int) + (a.getD i 0 : Nat) := w64 (by omega) (by omega)
   have e2 : IntKind.i64.wrap ((carryD a b i : Int) + (a.getD i 0 : Nat) + (b.getD i 0 : Nat)) = ((a.getD i 0 + b.getD i 0 + carryD a b i : Nat) : Int) := by rw [w64 (by omega) (by omega)]; omega
   clear hqd hrd
   generalize a.getD i 0 + b.getD i 0 + carryD a b i = s at *
   generalize a.getD i 0 = ai at *
   generalize b.getD i 0 = bi at *
   have hii : (i : Int) < a.length := by omega
   have hij : (i : Int) < b.length := by omega
   have hl := hFl i
   clear hval htr
   generalize carryD a b i = c at *
   generalize hq : carryD a b (i + 1) = q at *
   have e5 : IntKind.i64.wrap (q : Int) = (q : Int) := w64 (by omega) (by omega)
   generalize addD a b i = r at *
   by_cases hi0 : i = 0
   ·rw [if_pos hi0, if_pos hi0]
    rw [hi0] at hsn
    rw [hF0] at hsn
    have hq1 : carryD a b 1 = q := by rw [← hq, hi0]
    simp
    refine A10 (fs pa (fs pb (fs hii (fs hij (fs ga (fs gb (fs e1 (fs e2 (fs e3 (fs e4 (fs e5 (fs ew hl)))))))))))) ?_; try with_reducible exact tt
    refine ⟨i + 1, 0, 1, by simp, by omega, by omega, ?_, ?_⟩
    ·simp [swT, swH, sw, Ob.sw, V.ren, V.rens, hi0, hq1]
    ·simp [swT, swH, sw, Ob.sw, V.ren, V.rens, hi0, hsn]
   ·rw [if_neg hi0, if_neg hi0]
    simp
    refine A10 (fs pa (fs pb (fs hii (fs hij (fs ga (fs gb (fs e1 (fs e2 (fs e3 (fs e4 (fs e5 (fs ew hl)))))))))))) ?_; try with_reducible exact tt
    refine ⟨i + 1, 0, 2, by simp, by omega, by omega, ?_, ?_⟩
    ·simp [swT, swH, sw, Ob.sw, V.ren, V.rens, hq]
    ·simp [swT, swH, sw, Ob.sw, V.ren, V.rens, hsn]
  ·have gb : b.getD i 0 = 0 := by simp [List.getD, List.getElem?_eq_none (show b.length ≤ i by omega)]
   have e1 : IntKind.i64.wrap ((carryD a b i : Int) + (a.getD i 0 : Nat)) = ((a.getD i 0 + b.getD i 0 + carryD a b i : Nat) : Int) := by rw [w64 (by omega) (by omega)]; omega
   clear hqd hrd
   generalize a.getD i 0 + b.getD i 0 + carryD a b i = s at *
   generalize a.getD i 0 = ai at *
   generalize b.getD i 0 = bi at *
   have hii : (i : Int) < a.length := by omega
   have hij : ¬ (i : Int) < b.length := by omega
   have hl := hFl i
   clear hval htr
   generalize carryD a b i = c at *
   generalize hq : carryD a b (i + 1) = q at *
   have e5 : IntKind.i64.wrap (q : Int) = (q : Int) := w64 (by omega) (by omega)
   generalize addD a b i = r at *
   by_cases hi0 : i = 0
   ·rw [if_pos hi0, if_pos hi0]
    rw [hi0] at hsn
    rw [hF0] at hsn
    have hq1 : carryD a b 1 = q := by rw [← hq, hi0]
    simp
    refine A10 (fs pa (fs pb (fs hii (fs hij (fs ga (fs e1 (fs e3 (fs e4 (fs e5 (fs ew hl)))))))))) ?_; try with_reducible exact tt
    refine ⟨i + 1, 0, 1, by simp, by omega, by omega, ?_, ?_⟩
    ·simp [swT, swH, sw, Ob.sw, V.ren, V.rens, hi0, hq1]
    ·simp [swT, swH, sw, Ob.sw, V.ren, V.rens, hi0, hsn]
   ·rw [if_neg hi0, if_neg hi0]
    simp
    refine A10 (fs pa (fs pb (fs hii (fs hij (fs ga (fs e1 (fs e3 (fs e4 (fs e5 (fs ew hl)))))))))) ?_; try with_reducible exact tt
    refine ⟨i + 1, 0, 2, by simp, by omega, by omega, ?_, ?_⟩
    ·simp [swT, swH, sw, Ob.sw, V.ren, V.rens, hq]
    ·simp [swT, swH, sw, Ob.sw, V.ren, V.rens, hsn]
 ·have ga : a.getD i 0 = 0 := by simp [List.getD, List.getElem?_eq_none (show a.length ≤ i by omega)]
  have hii : ¬ (i : Int) < a.length := by omega
  by_cases pb : i < b.length
  ·have gb : b[i] = b.getD i 0 := by simp [List.getD, pb]
   have e1 : IntKind.i64.wrap ((carryD a b i : Int) + (b.getD i 0 : Nat)) = ((a.getD i 0 + b.getD i 0 + carryD a b i : Nat) : Int) := by rw [w64 (by omega) (by omega)]; omega
   clear hqd hrd
   generalize a.getD i 0 + b.getD i 0 + carryD a b i = s at *
   generalize a.getD i 0 = ai at *
   generalize b.getD i 0 = bi at *
   have hij : (i : Int) < b.length := by omega
   have hl := hFl i
   clear hval htr
   generalize carryD a b i = c at *
   generalize hq : carryD a b (i + 1) = q at *
   have e5 : IntKind.i64.wrap (q : Int) = (q : Int) := w64 (by omega) (by omega)
   generalize addD a b i = r at *
   by_cases hi0 : i = 0
   ·rw [if_pos hi0, if_pos hi0]
    rw [hi0] at hsn
    rw [hF0] at hsn
    have hq1 : carryD a b 1 = q := by rw [← hq, hi0]
    simp
    refine A10 (fs pa (fs pb (fs hii (fs hij (fs gb (fs e1 (fs e3 (fs e4 (fs e5 (fs ew hl)))))))))) ?_; try with_reducible exact tt
    refine ⟨i + 1, 0, 1, by simp, by omega, by omega, ?_, ?_⟩
    ·simp [swT, swH, sw, Ob.sw, V.ren, V.rens, hi0, hq1]
    ·simp [swT, swH, sw, Ob.sw, V.ren, V.rens, hi0, hsn]
   ·rw [if_neg hi0, if_neg hi0]
    simp
    refine A10 (fs pa (fs pb (fs hii (fs hij (fs gb (fs e1 (fs e3 (fs e4 (fs e5 (fs ew hl)))))))))) ?_; try with_reducible exact tt
    refine ⟨i + 1, 0, 2, by simp, by omega, by omega, ?_, ?_⟩
    ·simp [swT, swH, sw, Ob.sw, V.ren, V.rens, hq]
    ·simp [swT, swH, sw, Ob.sw, V.ren, V.rens, hsn]
  ·have gb : b.getD i 0 = 0 := by simp [List.getD, List.getElem?_eq_none (show b.length ≤ i by omega)]
   have hij : ¬ (i : Int) < b.length := by omega
   simp only [ga, gb, Nat.zero_add] at e3 e4 hqd
   by_cases hc0 : 0 < carryD a b i
   ·have hc0' : (0 : Int) < carryD a b i := by omega
    have hlt : i < max a.length b.length + 1 := by
     rcases Nat.lt_or_ge i (max a.length b.length + 1) with h | h
     ·exact h
     ·exfalso
      obtain ⟨j, rfl⟩ : ∃ j, i = j + 1 := ⟨i - 1, by omega⟩
      have h1 := hcl j
      have h2 : carryD a b (j + 1) = (a.getD j 0 + b.getD j 0 + carryD a b j) / 10000 := rfl
      have h3 : a.getD j 0 = 0 := by simp [List.getD, List.getElem?_eq_none (show a.length ≤ j by omega)]
      have h4 : b.getD j 0 = 0 := by simp [List.getD, List.getElem?_eq_none (show b.length ≤ j by omega)]
      omega
    clear hqd hrd
    have hl := hFl i
    clear hval htr
    generalize carryD a b i = c at *
    generalize hq : carryD a b (i + 1) = q at *
    have e5 : IntKind.i64.wrap (q : Int) = (q : Int) := w64 (by omega) (by omega)
    generalize addD a b i = r at *
    by_cases hi0 : i = 0
    ·rw [if_pos hi0, if_pos hi0]
     rw [hi0] at hsn
     rw [hF0] at hsn
     have hq1 : carryD a b 1 = q := by rw [← hq, hi0]
     simp
     refine A10 (fs pa (fs pb (fs hii (fs hij (fs hc0 (fs hc0' (fs e3 (fs e4 (fs e5 (fs ew hl)))))))))) ?_; try with_reducible exact tt
     refine ⟨i + 1, 0, 1, by simp, by omega, by omega, ?_, ?_⟩
     ·simp [swT, swH, sw, Ob.sw, V.ren, V.rens, hi0, hq1]
     ·simp [swT, swH, sw, Ob.sw, V.ren, V.rens, hi0, hsn]
    ·rw [if_neg hi0, if_neg hi0]
     simp
     refine A10 (fs pa (fs pb (fs hii (fs hij (fs hc0 (fs hc0' (fs e3 (fs e4 (fs e5 (fs ew hl)))))))))) ?_; try with_reducible exact tt
     refine ⟨i + 1, 0, 2, by simp, by omega, by omega, ?_, ?_⟩
     ·simp [swT, swH, sw, Ob.sw, V.ren, V.rens, hq]
     ·simp [swT, swH, sw, Ob.sw, V.ren, V.rens, hsn]
   ·have hc0' : ¬ (0 : Int) < carryD a b i := by omega
    have hcz : carryD a b i = 0 := by omega
    have hv := hval i
    rw [hcz, Nat.mul_zero, Nat.add_zero, List.take_of_length_le (by omega), List.take_of_length_le (by omega)] at hv
    have ht := htr i (by omega)
    rw [hv] at ht
    clear e3 e4 hqd hrd hval htr
    generalize carryD a b i = c at *
    by_cases hi0 : i = 0
    ·rw [if_pos hi0, if_pos hi0]
     subst hi0
     rw [hF0] at ht
     replace ht : Eqn Tryz.prog o_bo [.d .nilsl] [] (.d (nD (dval a + dval b))) [] := ht.sub (Subs.cons Sub1.nil (Subs.refl _))
     simp
     refine A11 (fs pa (fs pb (fs hii (fs hij (fs hc0 hc0'))))) ht ?_; try with_reducible exact tt
    ·rw [if_neg hi0, if_neg hi0]
     have htk : (F i).take i = F i := List.take_of_length_le (by rw [hFl]; exact Nat.le_refl _)
     simp
     refine AW.freeze 0 1 ⟨3, (F i).map .d⟩ (F i) (by simp) rfl ?_
     simp [frzH, htk]
     refine A11 (fs pa (fs pb (fs hii (fs hij (fs hc0 hc0'))))) ht ?_; try with_reducible exact tt
theorem o_vl (x y : Nat) (hx : sizeD x ≤ 100000) (hy : sizeD y ≤ 100000) : Eqn Tryz.prog o_8i [.d (nD x), .d (nD y)] [] (.d (nD (x + y))) [] := by
 have := o_vk (decs x) (decs y) (o_v7 x) (o_v7 y) hx hy
 rwa [o_v6, o_v6] at this
end
end Go.Proofs.YtlelpbaeplcfiaaGreatDoor.Am
namespace Go.Proofs.YtlelpbaeplcfiaaGreatDoor.Am
section
open Go.RowKit
theorem o_vm (x y : Nat) (hx : sizeD x ≤ 1000000) (hy : sizeD y ≤ 1000000) : Eqn Tryz.prog o_cx [.d (nD x), .d (nD y)] [] (.d (.int .i64 (cmpZ x y))) [] := by
 refine Eqn.pure o_cz Plain.ok ?_
 unfold sizeD at hx hy
 have ha := o_v7 x
 have hb := o_v7 y
 have ta := o_v8 x
 have tb := o_v8 y
 have va := o_v6 x
 have vb := o_v6 y
 simp only [o_cy, nD, sizeD, dsD]
 generalize decs x = a at *
 generalize decs y = b at *
 by_cases hl : a.length = b.length
 ·have hlp : (a.length : Int) = b.length := by omega
  have hc := o_v4 ha hb a.length
  rw [List.take_length, hl, List.take_length, va, vb] at hc
  replace hc : cmpN a b b.length = cmpZ x y := hc
  rw [← hc]
  have ew0 : IntKind.i64.wrap ((b.length : Int) - 1) = (b.length : Int) - 1 := w64 (by omega) (by omega)
  refine A10 (fs hl (fs hlp ew0)) ?_; try with_reducible exact tt
  refine AW.loopT (α := Nat) 0 (fun j => [(5, .d (.int .i64 ((j : Int) - 1)))]) (fun j => []) (fun j => j ≤ b.length ∧ cmpN a b j = cmpN a b b.length) (fun j => j) b.length ?_ ?_ ⟨Nat.le_refl _, rfl⟩ ?_ ?_ ?_
  ·simp
  ·simp
  ·simp
  ·simp
  rintro j ⟨hj, hje⟩
  rcases j with _ | m
  ·simp
   have h0 : cmpN a b b.length = 0 := by rw [← hje]; rfl
   rw [h0]
   refine A00 ?_; try with_reducible exact tt
  ·rw [cmpN] at hje
   have hm : m < a.length := by omega
   have hm2 : m < b.length := by omega
   have g1 : a.getD m 0 = a[m] := by simp [List.getD, hm]
   have g2 : b.getD m 0 = b[m] := by simp [List.getD, hm2]
   have ew : IntKind.i64.wrap ((m : Int) - 1) = (m : Int) - 1 := w64 (by omega) (by omega)
   have hmi : (m : Int) < b.length := by omega
   rw [g1, g2] at hje
   by_cases h1 : a[m] < b[m]
   ·rw [if_pos h1] at hje
    rw [← hje]
    have h1' : ((a[m] : Nat) : Int) < (b[m] : Nat) := by omega
    simp
    refine A10 (fs hm (fs hm2 (fs hmi (fs hl (fs hlp (fs h1 h1')))))) ?_; try with_reducible exact tt
   ·rw [if_neg h1] at hje
    have h1' : ¬ ((a[m] : Nat) : Int) < (b[m] : Nat) := by omega
    by_cases h2 : b[m] < a[m]
    ·rw [if_pos h2] at hje
     rw [← hje]
     have h2' : ((b[m] : Nat) : Int) < (a[m] : Nat) := by omega
     simp
     refine A10 (fs hm (fs hm2 (fs hmi (fs hl (fs hlp (fs h1 (fs h1' (fs h2 h2')))))))) ?_; try with_reducible exact tt
    ·rw [if_neg h2] at hje
     have h2' : ¬ ((b[m] : Nat) : Int) < (a[m] : Nat) := by omega
     simp
     refine A10 (fs hm (fs hm2 (fs hmi (fs hl (fs hlp (fs h1 (fs h1' (fs h2 (fs h2' ew))))))))) ?_; try with_reducible exact tt
     exact ⟨m, ⟨by omega, hje⟩, by omega, Sub1.refl _⟩
 ·have hlp : ¬ (a.length : Int) = b.length := by omega
  by_cases h1 : a.length < b.length
  ·have h1' : (a.length : Int) < b.length := by omega
   have h3 := o_v2 ha tb h1
   rw [va, vb] at h3
   rw [show cmpZ x y = -1 by unfold cmpZ; rw [if_pos h3]]
   refine A10 (fs hl (fs hlp (fs h1 h1'))) ?_; try with_reducible exact tt
  ·have h1' : ¬ (a.length : Int) < b.length := by omega
   have h3 := o_v2 hb ta (show b.length < a.length by omega)
   rw [va, vb] at h3
   rw [show cmpZ x y = 1 by unfold cmpZ; rw [if_neg (by omega), if_pos h3]]
   refine A10 (fs hl (fs hlp (fs h1 h1'))) ?_; try with_reducible exact tt

set_option maxHeartbeats 1000000 in
theorem o_vn (x y : Nat) (hxy : y ≤ x) (hx : sizeD x ≤ 100000) (hy : sizeD y ≤ 100000) : Eqn Tryz.prog o_ec [.d (nD x), .d (nD y)] [] (.d (nD (x - y))) [] := by
 refine Eqn.pure o_ee Plain.ok ?_
 unfold sizeD at hx hy
 have ha := o_v7 x
 have hb := o_v7 y
 have tb := o_v8 y
 have ta := o_v8 x
 have va := o_v6 x
 have vb := o_v6 y
 have hll : (decs y).length ≤ (decs x).length := by
  rcases Nat.lt_or_ge (decs x).length (decs y).length with h | h
  ·have := o_v2 ha tb h
   omega
  ·exact h
 simp only [o_ed, nD, sizeD, dsD]
 generalize decs x = a at *
 generalize decs y = b at *
 have hval := o_uy ha hb a.length
 have hbl := o_ux a b
 rw [List.take_length, List.take_of_length_le hll, va, vb] at hval
 have hsz := o_v3 (l := (List.range a.length).map (subD a b)) (o_uz (o_v1 a b) a.length) a.length
 rw [List.take_of_length_le (by simp)] at hsz
 have hxa : dval a < 10000 ^ a.length := by have := o_v3 ha a.length; rwa [List.take_length] at this
 have hfin : dval ((List.range a.length).map (subD a b)) = x - y := by
  have h1 := hbl a.length
  rcases Nat.lt_or_ge (borrowD a b a.length) 1 with h | h
  ·have : borrowD a b a.length = 0 := by omega
   rw [this] at hval
   omega
  ·have : borrowD a b a.length = 1 := by omega
   rw [this] at hval
   omega
 obtain ⟨F, hF⟩ : ∃ F : Nat → List D, F = fun i => dsD ((List.range i).map (subD a b)) := ⟨_, rfl⟩
 have hFl : ∀ i, (F i).length = i := by intro i; rw [hF]; simp [dsD]
 have hFs : ∀ i, F (i + 1) = F i ++ [.int .i64 (subD a b i)] := by intro i; rw [hF]; exact o_vj _ i
 have hF0 : F 0 = [] := by rw [hF]; rfl
 have htr : Eqn Tryz.prog o_bo [.d (.sl a.length (F a.length))] [] (.d (nD (x - y))) [] := by
  have := o_vf ((List.range a.length).map (subD a b)) (o_uz (o_v1 a b) _) (by simp; omega)
  rw [hF, ← hfin]
  simpa using this
 clear hF hfin hxa hsz
 simp only [nD, sizeD, dsD] at htr
 generalize D.sl (decs (x - y)).length (List.map (fun x : Nat => D.int .i64 x) (decs (x - y))) = N at *
 refine A00 ?_; try with_reducible exact tt
 refine AW.loopG (α := Nat) (fun i => setS (List.replicate 41 .junk) [(0, .d (.sl a.length (a.map fun x : Nat => D.int .i64 x))), (1, .d (.sl b.length (b.map fun x : Nat => D.int .i64 x))), (5, if i = 0 then .d .nilsl else .own 0 1 i), (6, .d (.int .i64 (borrowD a b i : Nat))), (7, .d (.int .i64 (i : Nat)))]) (fun i => if i = 0 then [] else [some ⟨3, (F i).map .d⟩]) (fun i => i ≤ a.length) (fun i => a.length - i) 0 ?_ (Nat.zero_le _) ?_ ?_ ?_
 ·intro i hi; split <;> simp
 ·simp [borrowD]
 ·simp
 rintro i hi
 by_cases pa : i < a.length
 ·have hii : (i : Int) < a.length := by omega
  have hc1 := hbl i
  have hqb := hbl (i + 1)
  have hsn := hFs i
  have ga : a[i] = a.getD i 0 := by simp [List.getD, pa]
  have g1 := ha.getD i
  have g2 := hb.getD i
  have hqd : borrowD a b (i + 1) = if a.getD i 0 < b.getD i 0 + borrowD a b i then 1 else 0 := rfl
  have hrd : subD a b i = (a.getD i 0 + 10000 - b.getD i 0 - borrowD a b i) % 10000 := rfl
  have ew : IntKind.i64.wrap ((i : Int) + 1) = (i : Int) + 1 := w64 (by omega) (by omega)
  have e1 : IntKind.i64.wrap ((a.getD i 0 : Nat) - (borrowD a b i : Int)) = (a.getD i 0 : Nat) - (borrowD a b i : Int) := w64 (by omega) (by omega)
  by_cases pb : i < b.length
  ·have hij : (i : Int) < b.length := by omega
   have gb : b[i] = b.getD i 0 := by simp [List.getD, pb]
   by_cases hz : a.getD i 0 < b.getD i 0 + borrowD a b i
   ·have q0 : borrowD a b (i + 1) = 1 := by rw [hqd]; rw [if_pos hz]
    have e2 : IntKind.i64.wrap ((a.getD i 0 : Nat) - (borrowD a b i : Int) - (b.getD i 0 : Nat)) = (subD a b i : Int) - 10000 := by rw [w64 (by omega) (by omega), hrd]; omega
    have e3 : IntKind.i64.wrap ((subD a b i : Int) - 10000 + 10000) = (subD a b i : Int) := by rw [w64 (by omega) (by omega)]; omega
    have e3' : IntKind.i64.wrap (subD a b i : Int) = (subD a b i : Int) := w64 (by omega) (by omega)
    have e4 : (subD a b i : Int) - 10000 < 0 := by omega
    have e5 : (subD a b i : Int) < 10000 := by omega
    clear hqd hrd
    generalize a.getD i 0 = ai at *
    generalize b.getD i 0 = bi at *
    have hl := hFl i
    clear hval htr
    generalize hq : borrowD a b (i + 1) = q at *
    generalize borrowD a b i = c at *
    generalize subD a b i = r at *
    by_cases hi0 : i = 0
    ·rw [if_pos hi0, if_pos hi0]
     rw [hi0] at hsn
     rw [hF0] at hsn
     have hq1 : borrowD a b 1 = q := by rw [← hq, hi0]
     simp
     refine A10 (fs pa (fs pb (fs hii (fs hij (fs ga (fs gb (fs e1 (fs e2 (fs e3 (fs e3' (fs e4 (fs e5 (fs ew hl))))))))))))) ?_; try with_reducible exact tt
     refine ⟨i + 1, 0, 1, by simp, by omega, by omega, ?_, ?_⟩
     ·simp [swT, swH, sw, Ob.sw, V.ren, V.rens, hi0, hq1, q0]
     ·simp [swT, swH, sw, Ob.sw, V.ren, V.rens, hi0, hsn]
    ·rw [if_neg hi0, if_neg hi0]
     simp
     refine A10 (fs pa (fs pb (fs hii (fs hij (fs ga (fs gb (fs e1 (fs e2 (fs e3 (fs e3' (fs e4 (fs e5 (fs ew hl))))))))))))) ?_; try with_reducible exact tt
     refine ⟨i + 1, 0, 2, by simp, by omega, by omega, ?_, ?_⟩
     ·simp [swT, swH, sw, Ob.sw, V.ren, V.rens, hq, q0]
     ·simp [swT, swH, sw, Ob.sw, V.ren, V.rens, hsn]
   ·have q0 : borrowD a b (i + 1) = 0 := by rw [hqd]; rw [if_neg hz]
    have e2 : IntKind.i64.wrap ((a.getD i 0 : Nat) - (borrowD a b i : Int) - (b.getD i 0 : Nat)) = (subD a b i : Int) := by rw [w64 (by omega) (by omega), hrd]; omega
    have e4 : ¬ (subD a b i : Int) < 0 := by omega
    clear hqd hrd
    generalize a.getD i 0 = ai at *
    generalize b.getD i 0 = bi at *
    have hl := hFl i
    clear hval htr
    generalize hq : borrowD a b (i + 1) = q at *
    generalize borrowD a b i = c at *
    generalize subD a b i = r at *
    by_cases hi0 : i = 0
    ·rw [if_pos hi0, if_pos hi0]
     rw [hi0] at hsn
     rw [hF0] at hsn
     have hq1 : borrowD a b 1 = q := by rw [← hq, hi0]
     simp
     refine A10 (fs pa (fs pb (fs hii (fs hij (fs ga (fs gb (fs e1 (fs e2 (fs e4 (fs ew hl)))))))))) ?_; try with_reducible exact tt
     refine ⟨i + 1, 0, 1, by simp, by omega, by omega, ?_, ?_⟩
     ·simp [swT, swH, sw, Ob.sw, V.ren, V.rens, hi0, hq1, q0]
     ·simp [swT, swH, sw, Ob.sw, V.ren, V.rens, hi0, hsn]
    ·rw [if_neg hi0, if_neg hi0]
     simp
     refine A10 (fs pa (fs pb (fs hii (fs hij (fs ga (fs gb (fs e1 (fs e2 (fs e4 (fs ew hl)))))))))) ?_; try with_reducible exact tt
     refine ⟨i + 1, 0, 2, by simp, by omega, by omega, ?_, ?_⟩
     ·simp [swT, swH, sw, Ob.sw, V.ren, V.rens, hq, q0]
     ·simp [swT, swH, sw, Ob.sw, V.ren, V.rens, hsn]
  ·have hij : ¬ (i : Int) < b.length := by omega
   have gb : b.getD i 0 = 0 := by simp [List.getD, List.getElem?_eq_none (show b.length ≤ i by omega)]
   by_cases hz : a.getD i 0 < b.getD i 0 + borrowD a b i
   ·have q0 : borrowD a b (i + 1) = 1 := by rw [hqd]; rw [if_pos hz]
    have e2 : IntKind.i64.wrap ((a.getD i 0 : Nat) - (borrowD a b i : Int)) = (subD a b i : Int) - 10000 := by rw [w64 (by omega) (by omega), hrd]; omega
    have e3 : IntKind.i64.wrap ((subD a b i : Int) - 10000 + 10000) = (subD a b i : Int) := by rw [w64 (by omega) (by omega)]; omega
    have e3' : IntKind.i64.wrap (subD a b i : Int) = (subD a b i : Int) := w64 (by omega) (by omega)
    have e4 : (subD a b i : Int) - 10000 < 0 := by omega
    have e5 : (subD a b i : Int) < 10000 := by omega
    clear hqd hrd e1
    generalize a.getD i 0 = ai at *
    generalize b.getD i 0 = bi at *
    have hl := hFl i
    clear hval htr
    generalize hq : borrowD a b (i + 1) = q at *
    generalize borrowD a b i = c at *
    generalize subD a b i = r at *
    by_cases hi0 : i = 0
    ·rw [if_pos hi0, if_pos hi0]
     rw [hi0] at hsn
     rw [hF0] at hsn
     have hq1 : borrowD a b 1 = q := by rw [← hq, hi0]
     simp
     refine A10 (fs pa (fs pb (fs hii (fs hij (fs ga (fs e2 (fs e3 (fs e3' (fs e4 (fs e5 (fs ew hl))))))))))) ?_; try with_reducible exact tt
     refine ⟨i + 1, 0, 1, by simp, by omega, by omega, ?_, ?_⟩
     ·simp [swT, swH, sw, Ob.sw, V.ren, V.rens, hi0, hq1, q0]
     ·simp [swT, swH, sw, Ob.sw, V.ren, V.rens, hi0, hsn]
    ·rw [if_neg hi0, if_neg hi0]
     simp
     refine A10 (fs pa (fs pb (fs hii (fs hij (fs ga (fs e2 (fs e3 (fs e3' (fs e4 (fs e5 (fs ew hl))))))))))) ?_; try with_reducible exact tt
     refine ⟨i + 1, 0, 2, by simp, by omega, by omega, ?_, ?_⟩
     ·simp [swT, swH, sw, Ob.sw, V.ren, V.rens, hq, q0]
     ·simp [swT, swH, sw, Ob.sw, V.ren, V.rens, hsn]
   ·have q0 : borrowD a b (i + 1) = 0 := by rw [hqd]; rw [if_neg hz]
    have e2 : IntKind.i64.wrap ((a.getD i 0 : Nat) - (borrowD a b i : Int)) = (subD a b i : Int) := by rw [w64 (by omega) (by omega), hrd]; omega
    have e4 : ¬ (subD a b i : Int) < 0 := by omega
    clear hqd hrd e1
    generalize a.getD i 0 = ai at *
    generalize b.getD i 0 = bi at *
    have hl := hFl i
    clear hval htr
    generalize hq : borrowD a b (i + 1) = q at *
    generalize borrowD a b i = c at *
    generalize subD a b i = r at *
    by_cases hi0 : i = 0
    ·rw [if_pos hi0, if_pos hi0]
     rw [hi0] at hsn
     rw [hF0] at hsn
     have hq1 : borrowD a b 1 = q := by rw [← hq, hi0]
     simp
     refine A10 (fs pa (fs pb (fs hii (fs hij (fs ga (fs e2 (fs e4 (fs ew hl)))))))) ?_; try with_reducible exact tt
     refine ⟨i + 1, 0, 1, by simp, by omega, by omega, ?_, ?_⟩
     ·simp [swT, swH, sw, Ob.sw, V.ren, V.rens, hi0, hq1, q0]
     ·simp [swT, swH, sw, Ob.sw, V.ren, V.rens, hi0, hsn]
    ·rw [if_neg hi0, if_neg hi0]
     simp
     refine A10 (fs pa (fs pb (fs hii (fs hij (fs ga (fs e2 (fs e4 (fs ew hl)))))))) ?_; try with_reducible exact tt
     refine ⟨i + 1, 0, 2, by simp, by omega, by omega, ?_, ?_⟩
     ·simp [swT, swH, sw, Ob.sw, V.ren, V.rens, hq, q0]
     ·simp [swT, swH, sw, Ob.sw, V.ren, V.rens, hsn]
 ·have hi2 : i = a.length := by omega
  have hii : ¬ (i : Int) < a.length := by omega
  rw [← hi2] at htr
  clear hval
  generalize borrowD a b i = c at *
  by_cases hi0 : i = 0
  ·rw [if_pos hi0, if_pos hi0]
   rw [hi0, hF0] at htr
   replace htr : Eqn Tryz.prog o_bo [.d .nilsl] [] (.d N) [] := htr.sub (Subs.cons Sub1.nil (Subs.refl _))
   simp
   refine A11 (fs pa hii) htr ?_; try with_reducible exact tt
  ·rw [if_neg hi0, if_neg hi0]
   have htk : (F i).take i = F i := List.take_of_length_le (by rw [hFl]; exact Nat.le_refl _)
   simp
   refine AW.freeze 0 1 ⟨3, (F i).map .d⟩ (F i) (by simp) rfl ?_
   simp [frzH, htk]
   refine A11 (fs pa hii) htr ?_; try with_reducible exact tt
end
end Go.Proofs.YtlelpbaeplcfiaaGreatDoor.Am
namespace Go.Proofs.YtlelpbaeplcfiaaGreatDoor.Am
section
open Go.RowKit
theorem o_vo : ∀ (ws : List Nat) (j v : Nat), j < ws.length → dval (ws.set j v) + 10000 ^ j * ws.getD j 0 = dval ws + 10000 ^ j * v
 | [], j, v, h => by simp at h
 | x :: ws, 0, v, h => by simp [dval]; omega
 | x :: ws, j + 1, v, h => by
  have ih := o_vo ws j v (by simpa using h)
  simp only [List.set_cons_succ, dval, List.getD_cons_succ]
  rw [Nat.pow_succ]
  generalize 10000 ^ j = P at *
  generalize ws.getD j 0 = g at *
  have e1 : P * 10000 * g = 10000 * (P * g) := by rw [Nat.mul_comm P, Nat.mul_assoc]
  have e2 : P * 10000 * v = 10000 * (P * v) := by rw [Nat.mul_comm P, Nat.mul_assoc]
  rw [e1, e2]
  omega
theorem o_vp {l : List Nat} {i j v : Nat} (h : i ≠ j) : (l.set i v).getD j 0 = l.getD j 0 := by
 rw [List.getD_eq_getElem?_getD, List.getElem?_set_ne h, ← List.getD_eq_getElem?_getD]
theorem dsmall.set {l : List Nat} (h : dsmall l) (j v : Nat) (hv : v < 10000) : dsmall (l.set j v) := fun x hx => by
 rcases List.mem_or_eq_of_mem_set hx with h1 | h1
 ·exact h x h1
 ·rw [h1]; exact hv
theorem o_vq {V A c o x D1 D2 Bk bk P K : Nat} (hv : D1 + P * K * c = V + P * (A * Bk)) (hs : D2 + P * K * o = D1 + P * K * (x % 10000)) (hx : x = o + c + A * bk) : D2 + P * (K * 10000) * (x / 10000) = V + P * (A * (Bk + K * bk)) := by
 have h1 : 10000 * (x / 10000) + x % 10000 = o + c + A * bk := by rw [Nat.div_add_mod]; exact hx
 have h2 : P * K * (10000 * (x / 10000) + x % 10000) = P * K * (o + c + A * bk) := by rw [h1]
 have h3 : P * (K * 10000) * (x / 10000) = P * K * (10000 * (x / 10000)) := by
  rw [← Nat.mul_assoc P K 10000, Nat.mul_assoc (P * K)]
 have h4 : P * (A * (Bk + K * bk)) = P * (A * Bk) + P * K * (A * bk) := by
  rw [Nat.mul_add, Nat.mul_add, show A * (K * bk) = K * (A * bk) by rw [← Nat.mul_assoc, Nat.mul_comm A K, Nat.mul_assoc], ← Nat.mul_assoc P K]
 rw [Nat.mul_add] at h2
 rw [Nat.mul_add, Nat.mul_add] at h2
 rw [h3, h4]
 generalize P * K * (10000 * (x / 10000)) = t1 at *
 generalize P * K * (x % 10000) = t2 at *
 generalize P * K * o = t3 at *
 generalize P * K * c = t4 at *
 generalize P * K * (A * bk) = t5 at *
 generalize P * (A * Bk) = t6 at *
 omega

@[simp] theorem lowI (n : Nat) : ∀ l : List Nat, V.lowl n (l.map fun x : Nat => V.d (D.int .i64 x)) = true
 | [] => rfl
 | x :: l => by
  have := lowI n l
  simp only [List.map_cons, V.lowl, this]; rfl
@[simp] theorem lowR (n m : Nat) (x : D) : V.lowl n (List.replicate m (V.d x)) = true := by
 induction m with
 | zero => rfl
 | succ m ih => simp only [List.replicate_succ, V.lowl, ih]; rfl
set_option maxHeartbeats 2000000 in
theorem o_vr (a b : List Nat) (ha : dsmall a) (hb : dsmall b) (hla : a.length ≤ 100000) (hlb : b.length ≤ 100000) : Eqn Tryz.prog o_8l [.d (.sl a.length (dsD a)), .d (.sl b.length (dsD b))] [] (.d (nD (dval a * dval b))) [] := by
 refine Eqn.pure o_8n Plain.ok ?_
 obtain ⟨n, hn⟩ : ∃ n, n = a.length + b.length + 1 := ⟨_, rfl⟩
 have ew1 : IntKind.i64.wrap ((a.length : Int) + b.length) = (a.length : Int) + b.length := w64 (by omega) (by omega)
 have ew2 : IntKind.i64.wrap ((a.length : Int) + b.length + 1) = (n : Int) := by rw [w64 (by omega) (by omega)]; omega
 have hnb : (n : Int) * 8 ≤ 140737488355328 := by omega
 have hnb2 : n ≤ 17592186044416 := by omega
 simp only [o_8m, dsD]
 refine A10 (fs ew1 (fs ew2 (fs hnb hnb2))) ?_; try with_reducible exact tt
 have hrep : List.replicate n (V.d (D.int .i64 0)) = (List.replicate n 0).map fun x : Nat => V.d (D.int .i64 x) := by simp
 rw [hrep]
 refine AW.loopT (α := Nat × List Nat) 1 (fun s => [(6, .d (.int .i64 (s.1 : Nat)))]) (fun s => [(0, ⟨3, s.2.map fun x : Nat => V.d (D.int .i64 x)⟩)]) (fun s => s.1 ≤ a.length ∧ s.2.length = n ∧ dsmall s.2 ∧ dval s.2 = dval (a.take s.1) * dval b ∧ ∀ j, s.1 + b.length ≤ j → s.2.getD j 0 = 0) (fun s => a.length - s.1) (0, List.replicate n 0) ?_ ?_ ⟨Nat.zero_le _, by simp, by intro x hx; simp [List.mem_replicate] at hx; omega, by rw [o_un]; simp [dval], by intro j _; simp only [List.getD, List.getElem?_replicate]; split <;> rfl⟩ ?_ ?_ ?_
 ·simp
 ·simp
 ·simp
 ·simp
 rintro ⟨i, out⟩ ⟨hi, hol, hos, hov, hoz⟩
 simp only at hi hol hos hov hoz
 simp
 by_cases pa : i < a.length
 ·have hii : (i : Int) < a.length := by omega
  have ewi : IntKind.i64.wrap ((i : Int) + 1) = ((i + 1 : Nat) : Int) := by rw [w64 (by omega) (by omega)]; omega
  have g1 := ha.getD i
  have ga : a[i] = a.getD i 0 := by simp [List.getD, pa]
  have hta := o_uu a i
  have hal : ∀ j, i + max 0 b.length ≤ j → out.getD j 0 = 0 := fun j hj => hoz j (by omega)
  refine A10 (fs pa hii) ?_; try with_reducible exact tt
  refine AW.loopT (α := Nat × Nat × List Nat) 1 (fun s => [(8, .d (.int .i64 (s.1 : Nat))), (7, .d (.int .i64 (s.2.1 : Nat)))]) (fun s => [(0, ⟨3, s.2.2.map fun x : Nat => V.d (D.int .i64 x)⟩)]) (fun s => s.1 ≤ b.length + 1 ∧ s.2.1 ≤ 9999 ∧ (s.1 = b.length + 1 → s.2.1 = 0) ∧ s.2.2.length = n ∧ dsmall s.2.2 ∧ dval s.2.2 + 10000 ^ i * 10000 ^ s.1 * s.2.1 = dval out + 10000 ^ i * (a.getD i 0 * dval (b.take s.1)) ∧ ∀ j, i + max s.1 b.length ≤ j → s.2.2.getD j 0 = 0) (fun s => b.length + 1 - s.1) (0, 0, out) ?_ ?_ ⟨Nat.zero_le _, by simp, by simp, hol, hos, by simp [dval], hal⟩ ?_ ?_ ?_
  ·simp
  ·simp
  ·simp
  ·simp
  rintro ⟨k, c, o⟩ ⟨hk, hc, hck, hl, hs, hv, hz⟩
  simp only at hk hc hck hl hs hv hz
  simp
  have ewk : IntKind.i64.wrap ((k : Int) + 1) = ((k + 1 : Nat) : Int) := by rw [w64 (by omega) (by omega)]; omega
  have e99 : ∀ x : Nat, ((x : Int).tmod 10000 = ((x % 10000 : Nat) : Int)) ∧ ((x : Int).tdiv 10000 = ((x / 10000 : Nat) : Int)) := fun x => ⟨by rw [Int.tmod_eq_emod_of_nonneg (by omega)]; omega, by rw [Int.tdiv_eq_ediv_of_nonneg (by omega)]; omega⟩
  by_cases pb : k < b.length
  ·have hij : (k : Int) < b.length := by omega
   have g2 := hb.getD k
   have gb : b[k] = b.getD k 0 := by simp [List.getD, pb]
   have htb := o_uu b k
   obtain ⟨m, hm⟩ : ∃ m, m = i + k := ⟨_, rfl⟩
   have hmo : m < o.length := by omega
   have hmn : m < n := by omega
   have go := hs.getD m
   have gm : o[m] = o.getD m 0 := by simp [List.getD, hmo]
   have em : IntKind.i64.wrap ((i : Int) + k) = (m : Int) := by rw [w64 (by omega) (by omega)]; omega
   have hpm := Nat.mul_le_mul (show a.getD i 0 ≤ 9999 by omega) (show b.getD k 0 ≤ 9999 by omega)
   obtain ⟨p, hp⟩ : ∃ p, p = a.getD i 0 * b.getD k 0 := ⟨_, rfl⟩
   rw [← hp] at hpm
   have ep : IntKind.i64.wrap (((a.getD i 0 : Nat) : Int) * (b.getD k 0 : Nat)) = (p : Int) := by rw [hp, ← Int.natCast_mul]; exact w64 (by omega) (by rw [← hp]; omega)
   obtain ⟨x, hx⟩ : ∃ x, x = o.getD m 0 + c + p := ⟨_, rfl⟩
   have e1 : IntKind.i64.wrap ((o.getD m 0 : Nat) + (c : Int)) = (o.getD m 0 : Nat) + (c : Int) := w64 (by omega) (by omega)
   have e2 : IntKind.i64.wrap ((o.getD m 0 : Nat) + (c : Int) + p) = (x : Int) := by rw [w64 (by omega) (by omega)]; omega
   obtain ⟨e3, e4⟩ := e99 x
   have hds := o_vo o m (x % 10000) hmo
   rw [show 10000 ^ m = 10000 ^ i * 10000 ^ k by rw [hm, Nat.pow_add]] at hds
   have hst := o_vq (A := a.getD i 0) (bk := b.getD k 0) hv hds (by rw [hx, hp])
   have hset : (o.map fun x : Nat => V.d (D.int .i64 x)).set m (.d (.int .i64 (x % 10000 : Nat))) = (o.set m (x % 10000)).map fun x : Nat => V.d (D.int .i64 x) := by rw [List.map_set]
   have hs2 := hs.set m (x % 10000) (Nat.mod_lt _ (by decide))
   have hl2 : (o.set m (x % 10000)).length = n := by simpa using hl
   have hz2 : ∀ j, i + max (k + 1) b.length ≤ j → (o.set m (x % 10000)).getD j 0 = 0 := fun j hj => by rw [o_vp (by omega)]; exact hz j (by omega)
   have hxq : x / 10000 ≤ 9999 := by omega
   have e5 : IntKind.i64.wrap ((x / 10000 : Nat) : Int) = ((x / 10000 : Nat) : Int) := w64 (by omega) (by omega)
   rw [← htb] at hst
   clear hv hz hs hal hov hoz hta e99
   generalize o.set m (x % 10000) = o2 at *
   generalize x % 10000 = r at *
   generalize x / 10000 = q at *
   generalize a.getD i 0 = ai at *
   generalize b.getD k 0 = bk at *
   generalize o.getD m 0 = om at *
   refine A10 (fs pa (fs hii (fs pb (fs hij (fs ga (fs gb (fs hmo (fs hmn (fs hl (fs gm (fs em (fs ep (fs e1 (fs e2 (fs e3 (fs e4 (fs e5 (fs ewk hset)))))))))))))))))) ?_; try with_reducible exact tt
   exact ⟨k + 1, q, o2, ⟨by omega, hxq, by omega, hl2, hs2, hst, hz2⟩, by omega, ⟨Sub1.refl _, Sub1.int (by omega)⟩, Subs.refl _⟩
  ·have hij : ¬ (k : Int) < b.length := by omega
   by_cases hc0 : 0 < c
   ·have hc0' : (0 : Int) < c := by omega
    have hkb : k = b.length := by
     rcases Nat.lt_or_ge b.length k with h | h
     ·have := hck (by omega); omega
     ·omega
    obtain ⟨m, hm⟩ : ∃ m, m = i + k := ⟨_, rfl⟩
    have hmo : m < o.length := by omega
    have hmn : m < n := by omega
    have gz : o.getD m 0 = 0 := hz m (by omega)
    have gm : o[m] = 0 := by rw [← gz]; simp [List.getD, hmo]
    have em : IntKind.i64.wrap ((i : Int) + k) = (m : Int) := by rw [w64 (by omega) (by omega)]; omega
    have e2 : IntKind.i64.wrap (c : Int) = (c : Int) := w64 (by omega) (by omega)
    have e3 : (c : Int).tmod 10000 = (c : Int) := by rw [Int.tmod_eq_emod_of_nonneg (by omega)]; omega
    have e4 : (c : Int).tdiv 10000 = 0 := by rw [Int.tdiv_eq_ediv_of_nonneg (by omega)]; omega
    have hds := o_vo o m c hmo
    rw [gz, Nat.mul_zero, Nat.add_zero, show 10000 ^ m = 10000 ^ i * 10000 ^ k by rw [hm, Nat.pow_add]] at hds
    have hst : dval (o.set m c) + 10000 ^ i * 10000 ^ (k + 1) * 0 = dval out + 10000 ^ i * (a.getD i 0 * dval (b.take (k + 1))) := by
     rw [Nat.mul_zero, Nat.add_zero, hds, hv, List.take_of_length_le (by omega), List.take_of_length_le (by omega)]
    have hset : (o.map fun x : Nat => V.d (D.int .i64 x)).set m (.d (.int .i64 (c : Nat))) = (o.set m c).map fun x : Nat => V.d (D.int .i64 x) := by rw [List.map_set]
    have hs2 := hs.set m c (by omega)
    have hl2 : (o.set m c).length = n := by simpa using hl
    have hz2 : ∀ j, i + max (k + 1) b.length ≤ j → (o.set m c).getD j 0 = 0 := fun j hj => by rw [o_vp (by omega)]; exact hz j (by omega)
    clear hv hz hs hal hov hoz hta e99 hds
    generalize o.set m c = o2 at *
    generalize a.getD i 0 = ai at *
    refine A10 (fs pa (fs hii (fs pb (fs hij (fs hc0 (fs hc0' (fs hmo (fs hmn (fs hl (fs gm (fs em (fs e2 (fs e3 (fs e4 (fs ewk hset))))))))))))))) ?_; try with_reducible exact tt
    exact ⟨k + 1, 0, o2, ⟨by omega, by omega, fun _ => rfl, hl2, hs2, by rw [ga]; exact hst, hz2⟩, by omega, ⟨Sub1.int (by omega), Sub1.int (by omega)⟩, Subs.refl _⟩
   ·have hc0' : ¬ (0 : Int) < c := by omega
    have hcz : c = 0 := by omega
    rw [hcz, Nat.mul_zero, Nat.add_zero, List.take_of_length_le (by omega)] at hv
    have hnv : dval o = dval (a.take (i + 1)) * dval b := by
     rw [hv, hta, hov, Nat.add_mul, Nat.mul_assoc]
    have hnz : ∀ j, i + 1 + b.length ≤ j → o.getD j 0 = 0 := fun j hj => hz j (by omega)
    clear hv hz hal hov hoz hta e99
    refine A10 (fs pa (fs hii (fs pb (fs hij (fs hc0 (fs hc0' ewi)))))) ?_; try with_reducible exact tt
    exact ⟨i + 1, o, ⟨by omega, hl, hs, hnv, hnz⟩, by omega, Sub1.int (by omega), Subs.refl _⟩
 ·have hii : ¬ (i : Int) < a.length := by omega
  have hi2 : i = a.length := by omega
  rw [hi2, List.take_length] at hov
  have ht := o_vf out hos (by omega)
  rw [hov, hol] at ht
  have htk : (dsD out).take n = dsD out := List.take_of_length_le (by rw [o_vb]; omega)
  have hob : (out.map fun x : Nat => V.d (D.int .i64 x)) = (dsD out).map V.d := by simp [dsD]
  rw [hob]
  refine AW.freeze 0 1 ⟨3, (dsD out).map .d⟩ (dsD out) (by simp) rfl ?_
  simp [frzH, htk]
  refine A11 (fs pa hii) ht ?_; try with_reducible exact tt
theorem o_vs (x y : Nat) (hx : sizeD x ≤ 100000) (hy : sizeD y ≤ 100000) : Eqn Tryz.prog o_8l [.d (nD x), .d (nD y)] [] (.d (nD (x * y))) [] := by
 have := o_vr (decs x) (decs y) (o_v7 x) (o_v7 y) hx hy
 rwa [o_v6, o_v6] at this
end
end Go.Proofs.YtlelpbaeplcfiaaGreatDoor.Am
namespace Go.Proofs.YtlelpbaeplcfiaaGreatDoor.Am
section
open Go.RowKit
theorem o_vt {n m : Nat} (h : n < 10000 ^ m) : sizeD n ≤ m := o_us (o_v8 n) (by rw [o_v6]; exact h)
theorem o_vu {l : List Nat} {m : Nat} (h : m < l.length) : dval (l.drop m) = l.getD m 0 + 10000 * dval (l.drop (m + 1)) := by
 rw [List.drop_eq_getElem_cons h, dval]
 simp [List.getD, h]
theorem o_vv {l : List Nat} {m v : Nat} (h : m < l.length) : dval ((l.set m v).drop m) = v + 10000 * dval (l.drop (m + 1)) := by
 rw [o_vu (by simpa using h), List.drop_set_of_lt (by omega)]
 simp [List.getD, h]

set_option maxHeartbeats 2000000 in
theorem o_vw (x y N : Nat) (h0 : 0 < y) (hN : N ≤ 50000) (hx : x < 10000 ^ N) (hy : y < 10000 ^ N) : Eqn Tryz.prog o_bl [.d (nD x), .d (nD y)] [] (.tup [.d (nD (x / y)), .d (nD (x % y))]) [] := by
 refine Eqn.pure o_bn Plain.ok ?_
 have sx := o_vt hx
 have sy := o_vt hy
 have ha := o_v7 x
 have va := o_v6 x
 have hfin : ∀ q r, q * y + r = x → r < y → nD q = nD (x / y) ∧ nD r = nD (x % y) := by
  intro q r h1 h2
  rw [← h1, Nat.mul_comm q y, Nat.mul_add_div h0, Nat.div_eq_of_lt h2, Nat.mul_add_mod, Nat.mod_eq_of_lt h2]
  exact ⟨rfl, rfl⟩
 simp only [o_bm]
 rw [show nD x = .sl (decs x).length ((decs x).map fun x : Nat => D.int .i64 x) from rfl]
 unfold sizeD at sx
 generalize decs x = a at *
 rcases Nat.eq_zero_or_pos a.length with hz | hz
 ·have hx0 : x = 0 := by rw [← va, List.eq_nil_of_length_eq_zero hz]; rfl
  obtain ⟨f1, f2⟩ := hfin 0 0 (by rw [hx0]; simp) h0
  rw [← f1, ← f2]
  clear f1 f2 hfin
  have ha0 : a = [] := List.eq_nil_of_length_eq_zero hz
  subst ha0
  have ht := o_vf [] (by simp [dsmall]) (by simp)
  have hm : IntKind.i64.wrap (-1) = -1 := by decide
  have hm2 : IntKind.i64.wrap (0 - 1) = -1 := by decide
  rw [show dval [] = 0 from rfl, show D.sl ([] : List Nat).length (dsD []) = .sl 0 [] from rfl] at ht
  rw [o_ve] at ht ⊢
  refine A10 (fs hm hm2) ?_; try with_reducible exact tt
  refine AW.rounds 1 ?_
  refine AW.freeze 0 1 ⟨3, []⟩ [] (by simp) rfl ?_
  simp [frzH]
  refine A01 ht ?_; try with_reducible exact tt
  exact Sub1.tup (Subs.cons (Sub1.refl _) (Subs.cons Sub1.nil (Subs.refl _)))
 ·have hnb : (a.length : Int) * 8 ≤ 140737488355328 := by omega
  have hnb2 : a.length ≤ 17592186044416 := by omega
  have hnz : a.length ≠ 0 := by omega
  have ew0 : IntKind.i64.wrap ((a.length : Int) - 1) = (a.length : Int) - 1 := w64 (by omega) (by omega)
  refine A10 (fs hz (fs hnb (fs hnb2 (fs hnz ew0)))) ?_; try with_reducible exact tt
  have hrep : List.replicate a.length (V.d (D.int .i64 0)) = (List.replicate a.length 0).map fun x : Nat => V.d (D.int .i64 x) := by simp
  rw [hrep]
  refine AW.loopT (α := Nat × Nat × List Nat) 1 (fun s => [(8, .d (.int .i64 ((s.1 : Int) - 1))), (7, .d (nD s.2.1))]) (fun s => [(0, ⟨3, s.2.2.map fun x : Nat => V.d (D.int .i64 x)⟩)]) (fun s => s.1 ≤ a.length ∧ s.2.1 < y ∧ s.2.2.length = a.length ∧ dsmall s.2.2 ∧ dval (s.2.2.drop s.1) * y + s.2.1 = dval (a.drop s.1)) (fun s => s.1) (a.length, 0, List.replicate a.length 0) ?_ ?_ ⟨Nat.le_refl _, h0, by simp, by intro x hx; simp [List.mem_replicate] at hx; omega, by simp [dval]⟩ ?_ ?_ ?_
  ·simp
  ·simp
  ·simp
   exact Sub1.nil
  ·simp
  rintro ⟨j, r, out⟩ ⟨hj, hr, hol, hos, hov⟩
  simp only at hj hr hol hos hov
  rcases j with _ | m
  ·rw [List.drop_zero, List.drop_zero, va] at hov
   obtain ⟨f1, f2⟩ := hfin _ _ hov hr
   rw [← f1, ← f2]
   have ht := o_vf out hos (by omega)
   rw [hol] at ht
   have htk : (dsD out).take a.length = dsD out := List.take_of_length_le (by rw [o_vb]; omega)
   have hob : (out.map fun x : Nat => V.d (D.int .i64 x)) = (dsD out).map V.d := by simp [dsD]
   rw [hob]
   clear f1 f2 hfin
   simp
   refine AW.freeze 0 1 ⟨3, (dsD out).map .d⟩ (dsD out) (by simp) rfl ?_
   simp [frzH, htk]
   refine A01 ht ?_; try with_reducible exact tt
  ·have hm : m < a.length := by omega
   have hmo : m < out.length := by omega
   have ga : a[m] = a.getD m 0 := by simp [List.getD, hm]
   have gl := ha.getD m
   have hda := o_vu hm
   have ewm : IntKind.i64.wrap ((m : Int) - 1) = (m : Int) - 1 := w64 (by omega) (by omega)
   have hr2 : a.getD m 0 + 10000 * r < 10000 * y := by omega
   have hy1 : 10000 * y < 10000 ^ (N + 1) := by rw [Nat.pow_succ]; omega
   have sr := o_vt (Nat.lt_trans hr hy)
   have ht := o_vf (a.getD m 0 :: decs r) (fun x hx => by
    rcases List.mem_cons.1 hx with rfl | hx
    ·exact gl
    ·exact o_v7 r x hx) (by simp; unfold sizeD at sr; omega)
   rw [show dval (a.getD m 0 :: decs r) = a.getD m 0 + 10000 * r by rw [dval, o_v6]] at ht
   simp only [List.length_cons, dsD, List.map_cons] at ht
   generalize a.getD m 0 = am at *
   obtain ⟨r2, hr2d⟩ : ∃ r2, r2 = am + 10000 * r := ⟨_, rfl⟩
   rw [← hr2d] at ht hr2
   have hr2' := hr2
   simp
   by_cases hr0 : r = 0
   ·have ht0 : decs r = [] := by rw [hr0]; rfl
    rw [ht0] at ht
    rw [show nD r = .sl 0 [] by rw [hr0]; rfl]
    refine A10 (fs hm (fs ga ewm)) ?_; try with_reducible exact tt
    refine CallS.pf 2 1 ⟨3, [.d (.int .i64 am)]⟩ [.int .i64 am] (ht) (by first | rfl | (simp; done)) (R0 ?_); try with_reducible exact tt
    refine A00 ?_; try with_reducible exact tt
    refine AW.loopT (α := Nat × Nat) 3 (fun s => [(9, .d (.int .i64 (s.1 : Nat))), (10, .d (.int .i64 (s.2 : Nat)))]) (fun s => []) (fun s => s.1 < s.2 ∧ s.2 ≤ 10000 ∧ s.1 * y ≤ r2 ∧ r2 < s.2 * y) (fun s => s.2 - s.1) (0, 10000) ?_ ?_ ⟨by decide, by decide, by omega, hr2⟩ ?_ ?_ ?_
    ·simp
    ·simp
    ·simp
    ·simp
    rintro ⟨lo, hi⟩ ⟨h1, h2, h3, h4⟩
    simp only at h1 h2 h3 h4
    simp
    by_cases hs : 1 < hi - lo
    ·obtain ⟨mid, hmid⟩ : ∃ mid, mid = (lo + hi) / 2 := ⟨_, rfl⟩
     have w1 : IntKind.i64.wrap ((hi : Int) - lo) = ((hi - lo : Nat) : Int) := by rw [w64 (by omega) (by omega)]; omega
     have w2 : IntKind.i64.wrap ((lo : Int) + hi) = ((lo + hi : Nat) : Int) := by rw [w64 (by omega) (by omega)]; omega
     have w3 : ((lo : Int) + hi).tdiv 2 = (mid : Int) := by rw [Int.tdiv_eq_ediv_of_nonneg (by omega)]; omega
     have w4 : IntKind.i64.wrap (mid : Int) = (mid : Int) := w64 (by omega) (by omega)
     have hs' : (1 : Int) < ((hi - lo : Nat) : Int) := by omega
     have c1 := o_vi mid (by omega)
     have hym : y * mid < 10000 ^ (N + 1) := by
      refine Nat.lt_of_le_of_lt (Nat.mul_le_mul_left y (show mid ≤ 10000 by omega)) ?_
      rw [Nat.mul_comm]; exact hy1
     have c2 := o_vs y mid (by omega) (Nat.le_trans (o_vt (show mid < 10000 ^ 2 by omega)) (by omega))
     have c3 := o_vm (y * mid) r2 (Nat.le_trans (o_vt hym) (by omega)) (Nat.le_trans (o_vt (Nat.lt_trans hr2' hy1)) (by omega))
     have d1 : lo < mid ∧ mid < hi := by omega
     clear hmid
     by_cases hle : y * mid ≤ r2
     ·have hz : ¬ 0 < cmpZ (y * mid) r2 := by unfold cmpZ; split <;> (try split) <;> omega
      have hz' : cmpZ (y * mid) r2 ≤ 0 := by omega
      generalize cmpZ (y * mid) r2 = z at *
      generalize hq : hi - lo = q at *
      refine A13 (fs w1 (fs hs (fs hs' (fs w2 (fs w3 (fs w4 (fs hz hz'))))))) c1 c2 c3 ?_; try with_reducible exact tt
      exact ⟨mid, hi, ⟨by omega, h2, by rw [Nat.mul_comm]; exact hle, h4⟩, by omega, ⟨Sub1.refl _, Sub1.refl _⟩⟩
     ·have hz : 0 < cmpZ (y * mid) r2 := by unfold cmpZ; rw [if_neg (by omega), if_pos (by omega)]; decide
      have hz' : ¬ cmpZ (y * mid) r2 ≤ 0 := by omega
      generalize cmpZ (y * mid) r2 = z at *
      generalize hq : hi - lo = q at *
      refine A13 (fs w1 (fs hs (fs hs' (fs w2 (fs w3 (fs w4 (fs hz hz'))))))) c1 c2 c3 ?_; try with_reducible exact tt
      exact ⟨lo, mid, ⟨by omega, by omega, h3, by rw [Nat.mul_comm]; omega⟩, by omega, ⟨Sub1.refl _, Sub1.refl _⟩⟩
    ·have hhi : hi = lo + 1 := by omega
     subst hhi
     have w1 : IntKind.i64.wrap (((lo + 1 : Nat) : Int) - lo) = 1 := by rw [w64 (by omega) (by omega)]; omega
     have w1' : IntKind.i64.wrap ((lo : Int) + 1 - lo) = 1 := by rw [w64 (by omega) (by omega)]; omega
     have w5 : (lo : Int) + 1 - lo = 1 := by omega
     have c1 := o_vi lo (by omega)
     have hyl : y * lo ≤ r2 := by rw [Nat.mul_comm]; exact h3
     have hylN : y * lo < 10000 ^ (N + 1) := Nat.lt_of_le_of_lt hyl (Nat.lt_trans hr2' hy1)
     have c2 := o_vs y lo (by omega) (Nat.le_trans (o_vt (show lo < 10000 ^ 2 by omega)) (by omega))
     have c3 := o_vn r2 (y * lo) hyl (Nat.le_trans (o_vt (Nat.lt_trans hr2' hy1)) (by omega)) (Nat.le_trans (o_vt hylN) (by omega))
     have hset : (out.map fun x : Nat => V.d (D.int .i64 x)).set m (.d (.int .i64 (lo : Nat))) = (out.set m lo).map fun x : Nat => V.d (D.int .i64 x) := by rw [List.map_set]
     have hnr : r2 - y * lo < y := by
      rw [Nat.add_mul, Nat.one_mul, Nat.mul_comm lo y] at h4
      omega
     have hnv : dval ((out.set m lo).drop m) * y + (r2 - y * lo) = dval (a.drop m) := by
      rw [o_vv hmo, hda, ← hov, hr2d, Nat.add_mul, Nat.mul_add, Nat.mul_comm lo y, Nat.mul_assoc]
      generalize dval (List.drop (m + 1) out) * y = t at *
      omega
     have hs2 := hos.set m lo (by omega)
     have hl2 : (out.set m lo).length = a.length := by simpa using hol
     have w6 : IntKind.i64.wrap 1 = 1 := by decide
     generalize y * lo = yl at *
     generalize r2 - yl = r3 at *
     generalize out.set m lo = out2 at *
     refine A13 (fs w1 (fs w1' (fs w5 (fs w6 (fs hm (fs hmo (fs hol (fs hset ewm)))))))) c1 c2 c3 ?_; try with_reducible exact tt
     exact ⟨m, r3, out2, ⟨by omega, hnr, hl2, hs2, hnv⟩, by omega, ⟨Sub1.refl _, Sub1.refl _⟩, Subs.refl _⟩
   ·have hlr : (decs r).length ≠ 0 := fun h => hr0 (o_va.1 (List.eq_nil_of_length_eq_zero h))
    have hlp : 0 < (decs r).length := by omega
    rw [show nD r = .sl (decs r).length ((decs r).map fun x : Nat => D.int .i64 x) from rfl]
    have hsb : ((decs r).length : Int) + 1 ≤ 17592186044416 := by unfold sizeD at sr; omega
    have hrl : ((decs r).map fun x : Nat => D.int .i64 x).length = (decs r).length := by simp
    generalize (decs r).map (fun x : Nat => D.int .i64 x) = RD at *
    generalize (decs r).length = L at *
    have htk : (D.int .i64 am :: RD).take (1 + L) = .int .i64 am :: RD := List.take_of_length_le (by simp; omega)
    rw [Nat.add_comm L 1, ← htk] at ht
    refine A10 (fs hm (fs ga (fs ewm (fs hlr (fs hlp (fs hsb hrl)))))) ?_; try with_reducible exact tt
    refine CallS.pf 2 1 ⟨3, ([D.int .i64 am] ++ RD).map V.d⟩ ([D.int .i64 am] ++ RD) (ht) (by first | rfl | (simp; done)) (R0 ?_); try with_reducible exact tt
    refine A00 ?_; try with_reducible exact tt
    refine AW.loopT (α := Nat × Nat) 3 (fun s => [(9, .d (.int .i64 (s.1 : Nat))), (10, .d (.int .i64 (s.2 : Nat)))]) (fun s => []) (fun s => s.1 < s.2 ∧ s.2 ≤ 10000 ∧ s.1 * y ≤ r2 ∧ r2 < s.2 * y) (fun s => s.2 - s.1) (0, 10000) ?_ ?_ ⟨by decide, by decide, by omega, hr2⟩ ?_ ?_ ?_
    ·simp
    ·simp
    ·simp
    ·simp
    rintro ⟨lo, hi⟩ ⟨h1, h2, h3, h4⟩
    simp only at h1 h2 h3 h4
    simp
    by_cases hs : 1 < hi - lo
    ·obtain ⟨mid, hmid⟩ : ∃ mid, mid = (lo + hi) / 2 := ⟨_, rfl⟩
     have w1 : IntKind.i64.wrap ((hi : Int) - lo) = ((hi - lo : Nat) : Int) := by rw [w64 (by omega) (by omega)]; omega
     have w2 : IntKind.i64.wrap ((lo : Int) + hi) = ((lo + hi : Nat) : Int) := by rw [w64 (by omega) (by omega)]; omega
     have w3 : ((lo : Int) + hi).tdiv 2 = (mid : Int) := by rw [Int.tdiv_eq_ediv_of_nonneg (by omega)]; omega
     have w4 : IntKind.i64.wrap (mid : Int) = (mid : Int) := w64 (by omega) (by omega)
     have hs' : (1 : Int) < ((hi - lo : Nat) : Int) := by omega
     have c1 := o_vi mid (by omega)
     have hym : y * mid < 10000 ^ (N + 1) := by
      refine Nat.lt_of_le_of_lt (Nat.mul_le_mul_left y (show mid ≤ 10000 by omega)) ?_
      rw [Nat.mul_comm]; exact hy1
     have c2 := o_vs y mid (by omega) (Nat.le_trans (o_vt (show mid < 10000 ^ 2 by omega)) (by omega))
     have c3 := o_vm (y * mid) r2 (Nat.le_trans (o_vt hym) (by omega)) (Nat.le_trans (o_vt (Nat.lt_trans hr2' hy1)) (by omega))
     have d1 : lo < mid ∧ mid < hi := by omega
     clear hmid
     by_cases hle : y * mid ≤ r2
     ·have hz : ¬ 0 < cmpZ (y * mid) r2 := by unfold cmpZ; split <;> (try split) <;> omega
      have hz' : cmpZ (y * mid) r2 ≤ 0 := by omega
      generalize cmpZ (y * mid) r2 = z at *
      generalize hq : hi - lo = q at *
      refine A13 (fs w1 (fs hs (fs hs' (fs w2 (fs w3 (fs w4 (fs hz hz'))))))) c1 c2 c3 ?_; try with_reducible exact tt
      exact ⟨mid, hi, ⟨by omega, h2, by rw [Nat.mul_comm]; exact hle, h4⟩, by omega, ⟨Sub1.refl _, Sub1.refl _⟩⟩
     ·have hz : 0 < cmpZ (y * mid) r2 := by unfold cmpZ; rw [if_neg (by omega), if_pos (by omega)]; decide
      have hz' : ¬ cmpZ (y * mid) r2 ≤ 0 := by omega
      generalize cmpZ (y * mid) r2 = z at *
      generalize hq : hi - lo = q at *
      refine A13 (fs w1 (fs hs (fs hs' (fs w2 (fs w3 (fs w4 (fs hz hz'))))))) c1 c2 c3 ?_; try with_reducible exact tt
      exact ⟨lo, mid, ⟨by omega, by omega, h3, by rw [Nat.mul_comm]; omega⟩, by omega, ⟨Sub1.refl _, Sub1.refl _⟩⟩
    ·have hhi : hi = lo + 1 := by omega
     subst hhi
     have w1 : IntKind.i64.wrap (((lo + 1 : Nat) : Int) - lo) = 1 := by rw [w64 (by omega) (by omega)]; omega
     have w1' : IntKind.i64.wrap ((lo : Int) + 1 - lo) = 1 := by rw [w64 (by omega) (by omega)]; omega
     have w5 : (lo : Int) + 1 - lo = 1 := by omega
     have c1 := o_vi lo (by omega)
     have hyl : y * lo ≤ r2 := by rw [Nat.mul_comm]; exact h3
     have hylN : y * lo < 10000 ^ (N + 1) := Nat.lt_of_le_of_lt hyl (Nat.lt_trans hr2' hy1)
     have c2 := o_vs y lo (by omega) (Nat.le_trans (o_vt (show lo < 10000 ^ 2 by omega)) (by omega))
     have c3 := o_vn r2 (y * lo) hyl (Nat.le_trans (o_vt (Nat.lt_trans hr2' hy1)) (by omega)) (Nat.le_trans (o_vt hylN) (by omega))
     have hset : (out.map fun x : Nat => V.d (D.int .i64 x)).set m (.d (.int .i64 (lo : Nat))) = (out.set m lo).map fun x : Nat => V.d (D.int .i64 x) := by rw [List.map_set]
     have hnr : r2 - y * lo < y := by
      rw [Nat.add_mul, Nat.one_mul, Nat.mul_comm lo y] at h4
      omega
     have hnv : dval ((out.set m lo).drop m) * y + (r2 - y * lo) = dval (a.drop m) := by
      rw [o_vv hmo, hda, ← hov, hr2d, Nat.add_mul, Nat.mul_add, Nat.mul_comm lo y, Nat.mul_assoc]
      generalize dval (List.drop (m + 1) out) * y = t at *
      omega
     have hs2 := hos.set m lo (by omega)
     have hl2 : (out.set m lo).length = a.length := by simpa using hol
     have w6 : IntKind.i64.wrap 1 = 1 := by decide
     generalize y * lo = yl at *
     generalize r2 - yl = r3 at *
     generalize out.set m lo = out2 at *
     refine A13 (fs w1 (fs w1' (fs w5 (fs w6 (fs hm (fs hmo (fs hol (fs hset ewm)))))))) c1 c2 c3 ?_; try with_reducible exact tt
     exact ⟨m, r3, out2, ⟨by omega, hnr, hl2, hs2, hnv⟩, by omega, ⟨Sub1.refl _, Sub1.refl _⟩, Subs.refl _⟩
end
end Go.Proofs.YtlelpbaeplcfiaaGreatDoor.Am
namespace Go.Proofs.YtlelpbaeplcfiaaGreatDoor.Am
section
open Go.RowKit
theorem o_vx {w m : Nat} (h : w < 18446744073709551616) (hm : 5 ≤ m) : sizeD w ≤ m :=
 Nat.le_trans (o_vt (m := 5) (Nat.lt_trans h (by decide))) hm
theorem o_vy (B hi lo w : Nat) (hB : B ≤ 4294967296) (h1 : hi ≤ 4294967296) (h2 : lo ≤ 4294967296) (hw : hi * B + lo = w) : ∃ N0 N1 N2 N3 N4 N5 : D, Eqn Tryz.prog o_al [.d (.int .i64 B)] [] (.d N3) [] ∧ Eqn Tryz.prog o_8l [.d N3, .d N3] [] (.d N1) [] ∧ Eqn Tryz.prog o_8l [.d .nilsl, .d N1] [] (.d N0) [] ∧ Eqn Tryz.prog o_al [.d (.int .i64 hi)] [] (.d N4) [] ∧ Eqn Tryz.prog o_al [.d (.int .i64 lo)] [] (.d N5) [] ∧ Eqn Tryz.prog o_8l [.d N4, .d N3] [] (.d N2) [] ∧ Eqn Tryz.prog o_8i [.d N2, .d N5] [] (.d (nD w)) [] ∧ Eqn Tryz.prog o_8i [.d N0, .d (nD w)] [] (.d (nD w)) [] := by
 have sz : ∀ x, x ≤ 4294967296 → sizeD x ≤ 100000 := fun x hx => Nat.le_trans (o_vt (show x < 10000 ^ 3 by omega)) (by omega)
 have bb : ∀ x y, x ≤ 4294967296 → y ≤ 4294967296 → x * y < 10000 ^ 6 := fun x y hx hy => Nat.lt_of_le_of_lt (Nat.mul_le_mul hx hy) (by decide)
 have szm : ∀ x y, x ≤ 4294967296 → y ≤ 4294967296 → sizeD (x * y) ≤ 100000 := fun x y hx hy => Nat.le_trans (o_vt (bb x y hx hy)) (by omega)
 have sw : sizeD w ≤ 100000 := Nat.le_trans (o_vt (m := 7) (by have := bb hi B h1 hB; omega)) (by omega)
 refine ⟨nD (0 * (B * B)), nD (B * B), nD (hi * B), nD B, nD hi, nD lo, o_vi B (by omega), o_vs B B (sz B hB) (sz B hB), (o_vs 0 (B * B) (sz 0 (by omega)) (szm B B hB hB)).sub (Subs.cons Sub1.nil (Subs.refl _)), o_vi hi (by omega), o_vi lo (by omega), o_vs hi B (sz hi h1) (sz B hB), ?_, ?_⟩
 ·have := o_vl (hi * B) lo (szm hi B h1 hB) (sz lo h2)
  rwa [hw] at this
 ·have := o_vl (0 * (B * B)) w (by rw [Nat.zero_mul]; exact sz 0 (by omega)) sw
  rwa [show 0 * (B * B) + w = w by rw [Nat.zero_mul, Nat.zero_add]] at this
theorem o_vz (w : Nat) (h : w < 18446744073709551616) : Eqn Tryz.prog o_8o [.d (.sl 1 [.int .u64 w])] [] (.d (nD w)) [] := by
 refine Eqn.pure o_8q Plain.ok ?_
 obtain ⟨hi, hhi⟩ : ∃ x, x = w / 4294967296 := ⟨_, rfl⟩
 obtain ⟨lo, hlo⟩ : ∃ x, x = w % 4294967296 := ⟨_, rfl⟩
 have hw : hi * 4294967296 + lo = w := by omega
 have e1 : (w : Int).tdiv 4294967296 = (hi : Int) := by rw [Int.tdiv_eq_ediv_of_nonneg (by omega)]; omega
 have e2 : (w : Int).tmod 4294967296 = (lo : Int) := by rw [Int.tmod_eq_emod_of_nonneg (by omega)]; omega
 have e3 : IntKind.i64.wrap (hi : Int) = (hi : Int) := w64 (by omega) (by omega)
 have e4 : IntKind.i64.wrap (lo : Int) = (lo : Int) := w64 (by omega) (by omega)
 have e5 : IntKind.u64.wrap (hi : Int) = (hi : Int) := by rw [IntKind.wrap_u64]; omega
 obtain ⟨N0, N1, N2, N3, N4, N5, s0, m0, m1, s1, s2, m2, a1, a2⟩ := o_vy 4294967296 hi lo w (by omega) (by omega) (by omega) hw
 have m9 : IntKind.i64.wrap (-1) = -1 := by decide
 have m8 : IntKind.i64.wrap (0 - 1) = -1 := by decide
 clear hhi hlo hw
 generalize nD w = N6 at *
 simp only [o_8p]
 refine A02 s0 m0 ?_; try with_reducible exact tt
 refine AW.rounds 2 ?_
 refine A18 (fs e1 (fs e2 (fs e3 (fs e4 (fs e5 (fs m8 m9)))))) s1 s2 s0 m1 m2 a1 a2 a2 ?_; try with_reducible exact tt

theorem o_w0 (l : List Nat) (j : Nat) : dval (l.drop j) ≤ dval l := by
 rcases Nat.lt_or_ge j l.length with h | h
 ·have := o_um (l.take j) (l.drop j)
  rw [List.take_append_drop] at this
  have hp : 10000 ^ 0 ≤ 10000 ^ (l.take j).length := Nat.pow_le_pow_right (by omega) (Nat.zero_le _)
  rw [Nat.pow_zero] at hp
  have := Nat.mul_le_mul_right (dval (l.drop j)) hp
  omega
 ·rw [List.drop_of_length_le h]; exact Nat.zero_le _
theorem o_w1 (x m N : Nat) (h0 : 0 < m) (hm : m < 18446744073709551616) (hN : 5 ≤ N) (hN2 : N ≤ 50000) (hx : x < 10000 ^ N) : Eqn Tryz.prog o_8f [.d (nD x), .d (.int .u64 m)] [] (.d (.int .u64 (x % m : Nat))) [] := by
 refine Eqn.pure o_8h Plain.ok ?_
 have h1 := o_vz m hm
 have h2 := o_vw x m N h0 hN2 hx (Nat.lt_of_lt_of_le (show m < 10000 ^ 5 by omega) (Nat.pow_le_pow_right (by omega) hN))
 have hr : x % m < m := Nat.mod_lt _ h0
 generalize x % m = r at *
 have hsz : (decs r).length ≤ 5 := o_us (o_v8 r) (by rw [o_v6]; omega)
 have hs := o_v7 r
 have hv := o_v6 r
 have hle := o_w0 (decs r)
 rw [hv] at hle
 rw [show nD r = .sl (decs r).length ((decs r).map fun x : Nat => D.int .i64 x) from rfl] at h2
 generalize decs r = l at *
 generalize nD (x / m) = Q at *
 generalize nD x = X at *
 generalize nD m = M at *
 have ew0 : IntKind.i64.wrap ((l.length : Int) - 1) = (l.length : Int) - 1 := w64 (by omega) (by omega)
 simp only [o_8g]
 refine G0 ?_; try with_reducible exact tt
 refine CallS.pf 0 1 ⟨44, [.d (.int .u64 m)]⟩ [.int .u64 m] (h1) (by first | rfl | (simp; done)) (R0 ?_); try with_reducible exact tt
 refine A11 ew0 h2 ?_; try with_reducible exact tt
 refine AW.loopT (α := Nat) 1 (fun j => [(8, .d (.int .i64 ((j : Int) - 1))), (7, .d (.int .u64 (dval (l.drop j) : Nat)))]) (fun j => []) (fun j => j ≤ l.length) (fun j => j) l.length ?_ ?_ (Nat.le_refl _) ?_ ?_ ?_
 ·simp
 ·simp
 ·simp [dval]
 ·simp
 rintro j hj
 rcases j with _ | i
 ·simp
  rw [hv]
  refine A00 ?_; try with_reducible exact tt
 ·have hi : i < l.length := by omega
  have hd := o_vu hi
  have gi := hs.getD i
  have gl : l[i] = l.getD i 0 := by simp [List.getD, hi]
  have hd1 := hle i
  have ewi : IntKind.i64.wrap ((i : Int) - 1) = (i : Int) - 1 := w64 (by omega) (by omega)
  generalize l.getD i 0 = d at *
  have e1 : IntKind.u64.wrap (10000 * (dval (l.drop (i + 1)) : Int)) = ((10000 * dval (l.drop (i + 1)) : Nat) : Int) := by rw [IntKind.wrap_u64]; omega
  have e2 : IntKind.u64.wrap (d : Int) = (d : Int) := by rw [IntKind.wrap_u64]; omega
  generalize hB : dval (l.drop (i + 1)) = B at *
  have e3 : IntKind.u64.wrap (10000 * (B : Int) + d) = (dval (l.drop i) : Int) := by rw [IntKind.wrap_u64, hd]; omega
  generalize hC : dval (l.drop i) = C2 at *
  simp
  refine A10 (fs hi (fs gl (fs ewi (fs e1 (fs e2 e3))))) ?_; try with_reducible exact tt
  exact ⟨i, by omega, by omega, by rw [hC]; exact Sub1.refl _, Sub1.refl _⟩
theorem o_w2 (a b key : Nat) (ha : a < hP) (hb : b < hP) (hk : key < hP) : Eqn Tryz.prog o_63 [.d (.int .u64 a), .d (.int .u64 b), .d (.int .u64 key)] [] (.d (.int .u64 (hsum a b key : Nat))) [] := by
 refine Eqn.pure o_65 Plain.ok ?_
 unfold hP at ha hb hk
 have o1 := o_vz a (by omega)
 have o2 := o_vz key (by omega)
 have o3 := o_vz b (by omega)
 have m1 := o_vs a key (o_vx (by omega) (by omega)) (o_vx (by omega) (by omega))
 have hak : a * key < 10000 ^ 10 := Nat.lt_of_le_of_lt (Nat.mul_le_mul (show a ≤ 10000 ^ 5 - 1 by omega) (show key ≤ 10000 ^ 5 - 1 by omega)) (by decide)
 have a1 := o_vl (a * key) b (Nat.le_trans (o_vt hak) (by omega)) (o_vx (by omega) (by omega))
 have h11 : a * key + b < 10000 ^ 11 := by
  have : 10000 ^ 11 = 10000 * 10000 ^ 10 := by decide
  omega
 have r1 := o_w1 (a * key + b) 2305843009213693951 11 (by omega) (by omega) (by omega) (by omega) h11
 rw [show (a * key + b) % 2305843009213693951 = hsum a b key from (o_s2 a b key).symm] at r1
 generalize hsum a b key = z at *
 generalize nD (a * key + b) = N1 at *
 generalize nD (a * key) = N2 at *
 generalize nD a = N3 at *
 generalize nD key = N4 at *
 generalize nD b = N5 at *
 simp only [o_64]
 refine G0 ?_; try with_reducible exact tt
 refine CallS.pf 0 1 ⟨44, [.d (.int .u64 a)]⟩ [.int .u64 a] (o1) (by first | rfl | (simp; done)) (R0 ?_); try with_reducible exact tt
 refine CallS.pf 1 1 ⟨44, [.d (.int .u64 key)]⟩ [.int .u64 key] (o2) (by first | rfl | (simp; done)) (R0 ?_); try with_reducible exact tt
 refine A01 m1 ?_; try with_reducible exact tt
 refine CallS.pf 2 1 ⟨44, [.d (.int .u64 b)]⟩ [.int .u64 b] (o3) (by first | rfl | (simp; done)) (R0 ?_); try with_reducible exact tt
 refine A02 a1 r1 ?_; try with_reducible exact tt
end
end Go.Proofs.YtlelpbaeplcfiaaGreatDoor.Am
namespace Go.Proofs.YtlelpbaeplcfiaaGreatDoor.Am
section
open Go.RowKit
theorem o_w3 {a w : Nat} (h : GoodC 2 a w) (x : Nat) (hx : x ≤ 2 ^ w - 1) : Eqn Tryz.prog o_do [.d (parD 2 a w), .d (.int .i64 x)] [] (.tup [.d (rD ((valF a x : Nat) : Rat)), .d (.int .i64 0)]) [] := by
 refine Eqn.pure o_dq Plain.ok ?_
 have hat := o_mz ((2 : Nat) : Int) a w h.2.2 x (by omega) (by omega) (o_nx h)
 have hkd := o_l6 ((2 : Nat) : Int) a w
 have h10 : 2 ^ w ≤ 2 ^ 10 := Nat.pow_le_pow_right (by omega) h.2.2
 obtain ⟨hc, -⟩ := h
 have a1 : a ≤ 8 := by omega
 have hv := o_sw a x a1 (by omega)
 simp only [o_dp, parD] at hat ⊢
 rw [show kindD ((2 : Nat) : Int) a = .ifc 229 (.int .i64 a) from rfl] at hkd
 generalize ((valF a x : Nat) : Rat) = v at *
 simp only [rD] at hv ⊢
 refine G0 ?_; try with_reducible exact tt
 refine CallS.pf 2 1 ⟨3, _⟩ [.int .i64 x] (hat) (by first | rfl | (simp; done)) (R0 ?_); try with_reducible exact tt
 refine AW.cond rfl (fun h => ?_) (fun h => ?_)
 ·simp at h
 refine G0 ?_; try with_reducible exact tt
 refine CallS.pu (hkd) (R0 ?_); try with_reducible exact tt
 refine ⟨_, o_sv, ?_⟩
 refine CallS.pu (hv) (R0 ?_); try with_reducible exact tt
theorem o_w4 {a b y : Nat} {f : Bool} (h : GoodR 2 a b) (hw : WellR 2 a b y 0 f) : Eqn Tryz.prog o_ao [.d (parD 2 a b), .d (tsD y 0 f)] [] (.tup [.d (rD ((valF a y : Nat) : Rat)), .d (.int .i64 0)]) [] := by
 refine Eqn.pure o_aq Plain.ok ?_
 have hwr := o_pq h hw
 replace h : GoodC 2 a b := by
  rcases h with ⟨h, -⟩ | ⟨-, h⟩
  ·exact absurd h (by decide)
  ·exact h
 have hy : y ≤ 2 ^ b - 1 := by
  rcases hw with ⟨h, -⟩ | ⟨-, -, h, -⟩
  ·exact absurd h (by decide)
  ·exact h
 have h1 := o_pi ((2 : Nat) : Int) a b
 have h3 := o_w3 h y hy
 generalize ((valF a y : Nat) : Rat) = q at *
 simp only [o_ap, parD, tsD, rD] at hwr h1 h3 ⊢
 refine G0B ?_; try with_reducible exact tt
 refine CallS.pf 3 3 ⟨54, _⟩ [.int .i64 y, .int .i64 (0 : Nat), .bool f] (hwr) (by first | rfl | (simp [-Bool.exists_bool]; done)) (R0B ?_); try with_reducible exact tt
 refine AW.cond rfl (fun h => ?_) (fun h => ?_)
 ·simp at h
 refine G0B ?_; try with_reducible exact tt
 refine AW.cond rfl (fun h => ?_) (fun h => ?_)
 ·simp at h
 ·refine G0B ?_; try with_reducible exact tt
  refine CallS.pu (h1) (R0B ?_); try with_reducible exact tt
  refine CallS.pu (h3) (R0B ?_); try with_reducible exact tt
theorem o_w5 (n : Nat) (h : n < 100) : Eqn Tryz.prog o_70 [.d (rD ((n : Nat) : Rat))] [] (.d (.str (smallS n))) [] := by
 refine Eqn.pure o_72 Plain.ok ?_
 have h1 := o_kb n h
 have hz := o_j2 0
 have e : rD ((n : Nat) : Rat) = .agg [natW n, .bool false, natW 0] := by
  unfold rD
  rw [Rat.num_natCast, Rat.den_natCast, Int.natAbs_natCast]
  congr 4
 rw [e]
 simp only [o_71]
 have hwh : Eqn Tryz.prog o_ac [.d (.agg [natW n, .bool false, natW 0])] [] (.d (.bool true)) [] := by
  refine Eqn.pure o_ae Plain.ok ?_
  simp only [o_ad]
  refine A01 hz ?_; try with_reducible exact tt
 refine A02 hwh h1 ?_; try with_reducible exact tt
theorem o_w6 {a b T : Nat} (h : GoodR 2 a b) (y : Nat) (hw : WellR 2 a b y 0 false) (key : Nat) (hk : key < hP) :
  Eqn Tryz.prog o_73 [.p 0 0, .d (.int .u64 key)] [skO 1 1 2 a b [⟨1, 0, [(y, 0, false)]⟩] T] (.tup [.d (rD ((valF a y : Nat) : Rat)), .d (.int .i64 0)]) [skO 1 1 2 a b [⟨1, 0, [(y, 0, false)]⟩] T] := by
 refine Eqn.gen [0] o_75 (by simp) (by simp) (by rfl) (by decide) (by simp) (by simp [skO, skD]) ?_
 have hof := o_s8 1 0 key 1 (by decide) (by decide) hk (by omega) (by omega)
 rw [Nat.mod_one] at hof
 have hget := o_rw [(y, 0, false)] 0 h (by intro s hs; simp at hs; subst hs; exact hw) (by simp) (by simp)
 have hval := o_w4 h hw
 simp only [o_74, skO, skD, rowsD, rowD, List.map_cons, List.map_nil, List.flatMap_cons, List.flatMap_nil, List.append_nil, List.length_cons, List.length_nil, hD, tsD, parD, List.getD_cons_zero] at hof hget hval ⊢
 generalize ((valF a y : Nat) : Rat) = q at *
 simp only [rD] at hval ⊢
 generalize arrD 2 a b [(y, 0, false)] = AD at *
 refine G0 ?_; try with_reducible exact tt
 refine AW.rounds 2 ?_
 refine A03 hof hget hval ?_; try with_reducible exact tt
set_option maxHeartbeats 1000000 in
theorem o_w7 : Eqn Tryz.prog o_5c [] [] (.d (.bool true)) [] := by
 refine Eqn.pure o_5e Plain.ok ?_
 have hg : GoodR 2 3 4 := .inr ⟨by omega, .inr (.inl ⟨rfl, by omega⟩), by omega, by omega⟩
 have hP1 : GoodP 1 1 2 3 4 := ⟨by omega, by omega, by omega, by omega, hg⟩
 have hw := o_se hP1 [(1, 0)] rfl (by simp [hP])
 have hc : ∀ key, colOf 1 1 0 key = 0 := fun key => Nat.mod_one _
 have hr0 : GoodRow 1 2 3 4 ⟨1, 0, [(0, 0, false)]⟩ := ⟨by decide, by decide, rfl, o_rh hg 1⟩
 have hr1 : GoodRow 1 2 3 4 ⟨1, 0, [(3, 0, false)]⟩ := ⟨by decide, by decide, rfl, by intro s hs; simp at hs; subst hs; exact .inr ⟨by omega, rfl, by simp, by simp⟩⟩
 have hr2 : GoodRow 1 2 3 4 ⟨1, 0, [(5, 0, false)]⟩ := ⟨by decide, by decide, rfl, by intro s hs; simp at hs; subst hs; exact .inr ⟨by omega, rfl, by simp, by simp⟩⟩
 have hu1 := o_sj (T := 0) hg (by omega) (by omega) 1 0 [(0, 0, false)] hr0 [] 5 3 0 false (by decide) (by omega) (by omega) (Nat.le_refl _) (by simp) ⟨0, 3, 0, false, 0, false⟩ (by rw [hc]; kernel_rfl)
 have hu2 := o_sj (T := 3) hg (by omega) (by omega) 1 0 [(3, 0, false)] hr1 [] 9 2 0 false (by decide) (by omega) (by omega) (Nat.le_refl _) (by simp) ⟨0, 5, 0, false, 0, false⟩ (by rw [hc]; kernel_rfl)
 have hq := o_w6 (T := 5) hg 5 (.inr ⟨by omega, rfl, by simp, by simp⟩) 77 (by decide)
 rw [show valF 3 5 = 5 from rfl] at hq
 have htx := o_kb 5 (by omega)
 have hnw : Eqn Tryz.prog o_5r [.d .nilsl] [] (.p 0 0) [tapeO [] 0 false] := by
  have := o_mo [] (by simp)
  exact this.sub (Subs.cons Sub1.nil (Subs.refl _))
 have htot := o_to (R := 1) (C := 1) (k := 2) (a := 3) (b := 4) (T := 5) [⟨1, 0, [(5, 0, false)]⟩]
 rw [show ([(1, 0)] : List (Nat × Nat)).map (newRow 1) = [⟨1, 0, [(0, 0, false)]⟩] from rfl] at hw
 simp only [o_5d, cpD, hashesD, skO, skD, rowsD, rowD, List.map_cons, List.map_nil, List.flatMap_cons, List.flatMap_nil, List.append_nil, List.length_cons, List.length_nil, if_true, List.set_cons_zero, hc] at hw hu1 hu2 hq htot ⊢
 have hrt := o_w5 5 (by omega)
 generalize arrD 2 3 4 [(0, 0, false)] = AD0 at *
 generalize arrD 2 3 4 [(3, 0, false)] = AD3 at *
 generalize arrD 2 3 4 [(5, 0, false)] = AD5 at *
 generalize ((5 : Nat) : Rat) = q5 at *
 simp only [rD] at hq hrt
 refine G0 ?_; try with_reducible exact tt
 refine CallS.gf 0 2 ⟨52, [.d (.int .u64 (1 : Nat)), .d (.int .u64 (0 : Nat))]⟩ [.int .u64 (1 : Nat), .int .u64 (0 : Nat)] [] (hw) (R0 ?_); try with_reducible exact tt
 refine CallS.n1 (hnw) (R0 ?_); try with_reducible exact tt
 refine CallS.g [1, 2] (hu1) (R0 ?_); try with_reducible exact tt
 refine CallS.n1 (hnw) (R0 ?_); try with_reducible exact tt
 refine CallS.g [1, 3] (hu2) (R0 ?_); try with_reducible exact tt
 refine A00 ?_; try with_reducible exact tt
 refine CallS.g [1] (hq) (R0 ?_); try with_reducible exact tt
 have hs5 : (smallS 5).toList = [53] := by kernel_rfl
 refine A11 hs5 hrt ?_; try with_reducible exact tt
 refine CallS.g [1] (htot) (R0 ?_); try with_reducible exact tt
end
end Go.Proofs.YtlelpbaeplcfiaaGreatDoor.Am
namespace Go.Proofs.YtlelpbaeplcfiaaGreatDoor.Am
section
open Go.RowKit
def mrgC (r : Rw) (Z : MR) (U : UR) : UR := if Z.e = 0 then ⟨U.e, ⟨r.a, r.b, Z.l⟩ :: U.rs, U.p, U.d⟩ else ⟨Z.e, [], Z.p, Z.d⟩
def mrgM (cs : List Bool) (C k a b : Nat) : List Rw → List Rw → Nat → Bool → UR
 | r :: rs, m :: ms, p, d => mrgC r (mergeUp cs k a b r.l m.l p d C) (mrgM cs C k a b rs ms (mergeUp cs k a b r.l m.l p d C).p (mergeUp cs k a b r.l m.l p d C).d)
 | _, _, p, d => ⟨0, [], p, d⟩
end
end Go.Proofs.YtlelpbaeplcfiaaGreatDoor.Am
namespace Go.Proofs.YtlelpbaeplcfiaaGreatDoor.Am
section
open Go.RowKit
def rowP (cs : List Bool) (C k a b : Nat) : List Rw → List Rw → Nat → Bool → Nat → Nat × Bool
 | r :: rs, m :: ms, p, d, j + 1 => rowP cs C k a b rs ms (mergeUp cs k a b r.l m.l p d C).p (mergeUp cs k a b r.l m.l p d C).d j
 | _, _, p, d, _ => (p, d)
@[simp] theorem o_w8 {cs : List Bool} {C k a b : Nat} (rs ms : List Rw) (p : Nat) (d : Bool) : rowP cs C k a b rs ms p d 0 = (p, d) := by
 unfold rowP; cases rs <;> cases ms <;> rfl
def rowZ (cs : List Bool) (C k a b : Nat) (rs ms : List Rw) (p : Nat) (d : Bool) (j : Nat) : MR :=
 mergeUp cs k a b (rs.getD j ⟨0, 0, []⟩).l (ms.getD j ⟨0, 0, []⟩).l (rowP cs C k a b rs ms p d j).1 (rowP cs C k a b rs ms p d j).2 C
def cellR (cs : List Bool) (k a b : Nat) (l m : List ST) (p : Nat) (d : Bool) (c : Nat) : TR :=
 mergeRM cs k a b (l.getD c (0, 0, false)).1 (l.getD c (0, 0, false)).2.1 (l.getD c (0, 0, false)).2.2 (m.getD c (0, 0, false)).1 (m.getD c (0, 0, false)).2.1 (m.getD c (0, 0, false)).2.2 (mergeUp cs k a b l m p d c).p (mergeUp cs k a b l m p d c).d
end
end Go.Proofs.YtlelpbaeplcfiaaGreatDoor.Am
namespace Go.Proofs.YtlelpbaeplcfiaaGreatDoor.Am
section
open Go.RowKit
theorem o_w9 : ∀ (c l : List V) (off : Nat), off + c.length ≤ l.length → setMany l off c = l.take off ++ (c ++ l.drop (off + c.length))
 | [], l, off, h => by simp [setMany]
 | x :: c, l, off, h => by
  rw [List.length_cons] at h
  rw [setMany, o_w9 c _ _ (by rw [List.length_set]; omega)]
  have h1 : (l.set off x).take (off + 1) = l.take off ++ [x] := by
   rw [List.take_add_one, List.take_set_of_le (Nat.le_refl _), List.getElem?_set_self (by omega)]; rfl
  have h2 : (l.set off x).drop (off + 1 + c.length) = l.drop (off + (x :: c).length) := by
   rw [List.drop_set_of_lt (by omega), List.length_cons]; congr 1; omega
  rw [h1, h2, List.append_assoc]; rfl
theorem o_wa {α : Type} {f : α → List V} {n : Nat} (hf : ∀ x, (f x).length = n) (l : List α) (i : Nat) (h : i < l.length) (s : α) : setMany (l.flatMap f) (i * n) (f s) = (l.set i s).flatMap f := by
 have hl := o_s9 hf l
 have hb : i * n + n ≤ l.length * n := by
  have := Nat.mul_le_mul_right n (show i + 1 ≤ l.length from h)
  rw [Nat.add_mul] at this; omega
 rw [o_w9 _ _ _ (by rw [hf, hl]; exact hb), hf]
 rw [List.set_eq_take_append_cons_drop, if_pos h, List.flatMap_append, List.flatMap_cons]
 have h1 : (l.flatMap f).take (i * n) = (l.take i).flatMap f := by
  have := List.take_append_drop i l
  conv => lhs; rw [← this, List.flatMap_append]
  rw [List.take_append_of_le_length (by rw [o_s9 hf, List.length_take, Nat.min_eq_left (Nat.le_of_lt h)]; exact Nat.le_refl _)]
  exact List.take_of_length_le (by rw [o_s9 hf, List.length_take, Nat.min_eq_left (Nat.le_of_lt h)]; exact Nat.le_refl _)
 have h2 := o_sa hf l (i + 1)
 rw [Nat.add_mul, Nat.one_mul] at h2
 rw [h1, h2]

def stW (l : List ST) : List V := l.flatMap fun s => [.d (.int .i64 s.1), .d (.int .i64 s.2.1), .d (.bool s.2.2)]
theorem o_wb (l : List ST) : (stW l).length = l.length * 3 := o_s9 (fun x => by simp) l
theorem o_wc (l : List ST) (i : Nat) (h : i < l.length) : ((stW l).drop (i * 3)).take 3 = [.d (.int .i64 l[i].1), .d (.int .i64 l[i].2.1), .d (.bool l[i].2.2)] := o_sb (f := fun s : ST => [V.d (.int .i64 s.1), V.d (.int .i64 s.2.1), V.d (.bool s.2.2)]) (fun x => by simp) l i h
theorem o_wd (l : List ST) (i : Nat) (h : i < l.length) (s : ST) : setMany (stW l) (i * 3) [.d (.int .i64 s.1), .d (.int .i64 s.2.1), .d (.bool s.2.2)] = stW (l.set i s) := o_wa (f := fun s : ST => [V.d (.int .i64 s.1), V.d (.int .i64 s.2.1), V.d (.bool s.2.2)]) (fun x => by simp) l i h s
end
end Go.Proofs.YtlelpbaeplcfiaaGreatDoor.Am
