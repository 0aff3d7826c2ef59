/- Parts of the proof: PcE, PcF, PmfEb, PcG, PcL. -/
import Derived.Test.YtmpjlkclkhnpfaaGreatDoorPg
set_option linter.unusedVariables false
set_option linter.unusedSimpArgs false
set_option maxRecDepth 100000
namespace Go.Proofs.YtmpjlkclkhnpfaaGreatDoor.Am
section
open Go.RowKit
def t1C (k a w x n i : Nat) (f : Bool) : List V := setS (List.replicate 108 .junk) [(1, .d (.int .i64 x)), (2, .d (.bool f)), (3, .d (.int .i64 n)), (4, .p 0 0), (8, .p 1 0), (9, .d (.int .i64 (topC w : Nat))), (10, .p 2 0), (11, .d (.int .i64 (i : Nat)))]
def h1C (k a w i : Nat) : List (Option Ob) := [some ⟨50, [.d (.int .i64 k), .d (.int .i64 a), .d (.int .i64 w)]⟩, some ⟨82, [.d .nilsl, .d .nilsl, .d .nilsl, .d .nilsl]⟩, some ⟨82, [if i = 0 then .d .nilsl else .own 3 3 i, .d .nilsl, .d .nilsl, .d .nilsl]⟩] ++ if i = 0 then [] else [some ⟨46, rT (List.replicate i zero3)⟩]
theorem o_12d (l : List T3) (t : T3) : rT (l ++ [t]) = rT l ++ qv t := by simp [rT, qc, qv]
@[simp] theorem o_12e (n : Nat) (l : List T3) : V.lowl n (rT l) = true := o_5w _ _
@[simp] theorem o_12f (θ : Nat → Nat) (l : List T3) : V.rens θ (rT l) = rT l := o_5v _ _
theorem o_12g {E : Nat} {x y : T3} (hx : BT E x) (hy : BT E y) (hE : E ≤ 50000) : Eqn Tryz.prog o_ad [.d (.agg (qc x)), .d (.agg (qc y))] [] (.d (.agg (qc (add3 x y)))) [] := o_wg _ _ _ _ _ _ E hE hx.1 hx.2.1 hx.2.2.1 hy.1 hy.2.1 hy.2.2.1
theorem o_12h {E : Nat} {x y : T3} (hx : BT E x) (hy : BT E y) (hE : E ≤ 50000) : Eqn Tryz.prog o_am [.d (.agg (qc x)), .d (.agg (qc y))] [] (.d (.agg (qc (mul3 x y)))) [] := o_wh _ _ _ _ _ _ E hE hx.1 hx.2.1 hx.2.2.1 hy.1 hy.2.1 hy.2.2.1
theorem o_12i (x : T3) : Eqn Tryz.prog o_ag [.d (.agg (qc x))] [] (.d (.agg (qc (turn3 x)))) [] := o_wi _ _ _
theorem qc3 (t : T3) : ∃ a b c, qc t = [a, b, c] ∧ qv t = [.d a, .d b, .d c] := ⟨_, _, _, rfl, rfl⟩
theorem flat3 {α : Type} (x : α) : ∀ n : Nat, (List.replicate n [x, x, x]).flatten = List.replicate (n * 3) x
 | 0 => rfl
 | n + 1 => by
  rw [List.replicate_succ, List.flatten_cons, flat3 x n, show (n + 1) * 3 = n * 3 + 1 + 1 + 1 by omega, List.replicate_succ, List.replicate_succ, List.replicate_succ]; rfl
def w3 (R : List D) (o : Nat) (a b c : D) : List D := ((R.set o a).set (o + 1) b).set (o + 1 + 1) c
theorem o_12j (R : List D) (o : Nat) (a b c : D) : (w3 R o a b c).length = R.length := by simp [w3]
theorem o_12k (R : List D) (o : Nat) (a b c : D) : (((R.map V.d).set o (.d a)).set (o + 1) (.d b)).set (o + 1 + 1) (.d c) = (w3 R o a b c).map V.d := by simp [w3, List.map_set]
theorem o_12l (R : List D) (o : Nat) (a b c : D) : (w3 R o a b c).map V.d = setMany (R.map V.d) o [.d a, .d b, .d c] := by rw [← o_12k]; rfl
theorem o_12m (R : List D) (o : Nat) (a b c a' b' c' : D) (h : o + 3 ≤ R.length) : w3 (w3 R o a b c) o a' b' c' = w3 R o a' b' c' := by
 have h1 : ((w3 (w3 R o a b c) o a' b' c').map V.d) = (w3 R o a' b' c').map V.d := by
  rw [o_12l, o_12l R, o_12l, o_12b (R := R.map V.d) (o := o) (c := [.d a, .d b, .d c]) (d := [.d a', .d b', .d c']) (by simpa using h) rfl]
 exact (List.map_inj_right fun x y h => V.d.inj h).1 h1
theorem o_12n (R : List D) (o : Nat) (a b c : D) (h : o + 3 ≤ R.length) : (((w3 R o a b c).map V.d).drop o).take 3 = [.d a, .d b, .d c] := by
 rw [o_12l]
 exact o_127 (c := [.d a, .d b, .d c]) (by simpa using h)
set_option maxHeartbeats 8000000 in
theorem o_12o {k a w : Nat} (h : GoodS k a w) (x n : Nat) (f : Bool) (hx : x ≤ topC w) (hn : n ≤ 7) : Eqn Tryz.prog o_7v [.d (.agg [.int .i64 k, .int .i64 a, .int .i64 w]), .d (.int .i64 x), .d (.bool f), .d (.int .i64 n)] [] (.d (.agg (.sl (topC w + 1) ((atT (topC w) k a x f n).flatMap qc) :: qc (fulT (topC w) k a x f n)))) [] := by
 refine Eqn.pure o_7x Plain.ok ?_
 have h15 : topC w ≤ 15 := by have := Nat.pow_le_pow_right (n := 2) (by omega) h.2.2; unfold topC; omega
 have htop := o_115 k a w (by have := h.2.2; omega)
 have hz := o_wj 0 (by decide)
 have ho := o_wj 1 (by decide)
 have e0 : ((0 : Nat) : Int) = 0 := rfl
 have e1 : ((1 : Nat) : Int) = 1 := rfl
 obtain ⟨TP, hTP⟩ : ∃ TP, TP = topC w := ⟨_, rfl⟩
 have hqz : qv zero3 = [.d (nD 0), .d (nD 0), .d (nD 1)] := rfl
 have hqo : qv one3 = [.d (nD 1), .d (nD 0), .d (nD 1)] := rfl
 simp only [o_7w, qD3, e0, e1] at hz ho ⊢
 obtain ⟨n0, l0, q0⟩ : ∃ n l, nD 0 = D.sl n l := ⟨_, _, rfl⟩
 obtain ⟨n1, l1, q1⟩ : ∃ n l, nD 1 = D.sl n l := ⟨_, _, rfl⟩
 rw [q0, q1] at hz ho hqz hqo
 refine A01 htop ?_; try with_reducible exact tt
 refine AW.loopG (α := Nat) (fun i => t1C k a w x n i f) (fun i => h1C k a w i) (fun i => i ≤ topC w + 1) (fun i => topC w + 1 - i) 0 ?_ (Nat.zero_le _) ?_ ?_ ?_
 ·intro i hi; unfold h1C; split <;> simp
 ·simp [t1C, h1C]
 ·simp [h1C]
 rintro i hi
 by_cases hi2 : i ≤ topC w
 ·have hi3 : (i : Int) ≤ ((topC w : Nat) : Int) := by omega
  have ew : IntKind.i64.wrap ((i : Int) + 1) = ((i + 1 : Nat) : Int) := by rw [w64 (by omega) (by omega)]; omega
  rw [← hTP] at hi2 hi3
  by_cases h0 : i = 0
  ·subst h0
   simp only [t1C, h1C, if_true, ← hTP]
   simp
   refine A11 (fs hi2 (fs hi3 ew)) hz ?_; try with_reducible exact tt
   refine ⟨1, 3, 4, ⟨by omega, by omega⟩, by omega, by omega, ?_, ?_⟩
   ·simp [t1C, h1C, swT, swH, sw, Ob.sw, V.ren, V.rens]
   ·have hrs : rT (List.replicate 1 zero3) = [.d (.sl n0 l0), .d (.sl n0 l0), .d (.sl n1 l1)] := by
     rw [← hqz]; simp [rT, qv, qc]
    rw [hrs]
    simp [t1C, h1C, swT, swH, sw, Ob.sw, V.ren, V.rens]
  ·have hrl := o_129 (List.replicate i zero3)
   rw [List.length_replicate] at hrl
   simp only [t1C, h1C, if_neg h0, ← hTP]
   simp
   refine A11 (fs hi2 (fs hi3 (fs ew hrl))) hz ?_; try with_reducible exact tt
   have hrs : rT (List.replicate (i + 1) zero3) = rT (List.replicate i zero3) ++ [.d (.sl n0 l0), .d (.sl n0 l0), .d (.sl n1 l1)] := by
    rw [List.replicate_succ', o_12d, hqz]
   refine ⟨i + 1, 3, 5, ⟨by omega, by omega⟩, by omega, by omega, ?_, ?_⟩
   ·simp [t1C, h1C, swT, swH, sw, Ob.sw, V.ren, V.rens]
   ·rw [← hrs]
    simp [t1C, h1C, swT, swH, sw, Ob.sw, V.ren, V.rens]
 ·have h2 : i = topC w + 1 := by omega
  subst h2
  clear hi
  have hst0 : ∀ b : Bool, b = true → startT (topC w) x b = List.replicate (topC w + 1) zero3 := fun b hb => by
   subst hb
   unfold startT
   simp [List.map_const']
  have hst1 : setMany (rT (List.replicate (topC w + 1) zero3)) (x * 3) (qv one3) = rT (startT (topC w) x false) := by
   have hl : (rT (List.replicate (topC w + 1) zero3)).length = (topC w + 1) * 3 := by rw [o_129, List.length_replicate]
   refine holdT.eq (m := topC w + 1) (g := fun j => if false = false ∧ j = x then one3 else zero3) ⟨by rw [o_5, hl], fun i hi => ?_⟩
   have h3 : (qv one3).length = 3 := rfl
   show _ = qv (if false = false ∧ i = x then one3 else zero3)
   by_cases e : i = x
   ·subst e
    rw [if_pos ⟨rfl, rfl⟩]
    exact o_127 (o := i * 3) (c := qv one3) (by rw [h3, hl]; omega)
   ·rw [if_neg (fun e' => e e'.2), o_128 (o := x * 3) (by rw [h3, hl]; omega) (by rw [h3]; omega), o_12a _ _ (by rw [List.length_replicate]; exact hi)]
    rw [List.getD_eq_getElem?_getD, List.getElem?_replicate, if_pos hi]; rfl
  have hn0 : ¬ topC w + 1 = 0 := by omega
  have hin : ¬ ((topC w + 1 : Nat) : Int) ≤ ((topC w : Nat) : Int) := by omega
  have hin2 : ¬ ((topC w : Nat) : Int) + 1 ≤ ((topC w : Nat) : Int) := by omega
  have hrl := o_129 (List.replicate (topC w + 1) zero3)
  rw [List.length_replicate] at hrl
  rw [hqo] at hst1
  have hx6 : x * 3 + 3 ≤ (topC w + 1) * 3 := by omega
  have hx7 : (x : Int) < ((topC w : Nat) : Int) + 1 := by omega
  have hx8 : x < topC w + 1 := by omega
  have hx9 : x * 3 < (topC w + 1) * 3 := by omega
  simp only [t1C, h1C, if_neg hn0, ← hTP]
  rw [← hTP] at hin hin2 hrl hst0 hst1 hx6 hx7 hx8 hx9 h15 htop hx
  simp
  refine A12 (fs hin hin2) hz ho ?_; try with_reducible exact tt
  refine AW.meet (setS (List.replicate 108 .junk) [(3, .d (.int .i64 n)), (4, .p 0 0), (8, .p 1 0), (9, .d (.int .i64 TP)), (10, .p 2 0)]) [some ⟨50, [.d (.int .i64 k), .d (.int .i64 a), .d (.int .i64 w)]⟩, some ⟨82, [.d .nilsl, .d .nilsl, .d .nilsl, .d .nilsl]⟩, some ⟨82, .own 3 3 (TP + 1) :: qv (fulT TP k a x f 0)⟩, some ⟨46, rT (atT TP k a x f 0)⟩] (Nat.zero_le _) ?_ ?_
  ·simp only [atT, fulT]
   cases f with
   | true =>
    refine A01 ho ?_; try with_reducible exact tt
    first | done | simp [hst0 true rfl, hqo]
   | false =>
    refine A11 (fs hrl (fs hx6 (fs hx7 (fs hx8 hx9)))) ho ?_; try with_reducible exact tt
    simp only [setMany] at hst1
    rw [← hst1]
    simp [hqz]
    try (rw [hst1]; exact o_12e _ _)
    all_goals (rw [hst1]; simp)
  refine A00 ?_; try with_reducible exact tt
  refine AW.loopG (α := Nat) (fun m => setS (List.replicate 108 .junk) [(3, .d (.int .i64 n)), (4, .p 0 0), (8, .p 1 0), (9, .d (.int .i64 TP)), (10, .p 2 0), (12, .d (.int .i64 (m : Nat)))]) (fun m => [some ⟨50, [.d (.int .i64 k), .d (.int .i64 a), .d (.int .i64 w)]⟩, some ⟨82, [.d .nilsl, .d .nilsl, .d .nilsl, .d .nilsl]⟩, some ⟨82, .own 3 3 (TP + 1) :: qv (fulT TP k a x f m)⟩, some ⟨46, rT (atT TP k a x f m)⟩]) (fun m => m ≤ n) (fun m => n - m) 0 ?_ (Nat.zero_le _) ?_ ?_ ?_
  ·intro m hm; simp
  ·simp
  ·simp [qv]
  rintro m hm
  obtain ⟨F1, F2, F3, hF⟩ : ∃ F1 F2 F3, qc (fulT TP k a x f m) = [F1, F2, F3] := ⟨_, _, _, rfl⟩
  have hFv : qv (fulT TP k a x f m) = [.d F1, .d F2, .d F3] := congrArg (List.map V.d) hF
  have hlA := o_11v TP k a x f m
  have hrA := o_129 (atT TP k a x f m)
  rw [hlA] at hrA
  by_cases hm2 : m < n
  ·have hm3 : (m : Int) < n := by omega
   have hE := eB_le m (by omega)
   have hbA := o_122 (x := x) (f := f) h m
   have hbF := o_123 (x := x) (f := f) h m
   have hgA := fun j (hj : j < TP + 1) => o_12a (atT TP k a x f m) j (by rw [hlA]; exact hj)
   rw [← hTP] at hbA hbF
   obtain ⟨Y1, Y2, Y3, hY⟩ : ∃ F1 F2 F3, qc (fulT TP k a x f (m + 1)) = [F1, F2, F3] := ⟨_, _, _, rfl⟩
   have hYv : qv (fulT TP k a x f (m + 1)) = [.d Y1, .d Y2, .d Y3] := congrArg (List.map V.d) hY
   obtain ⟨A1, A2, A3, hA⟩ : ∃ F1 F2 F3, qc ((atT TP k a x f m).getD TP zero3) = [F1, F2, F3] := ⟨_, _, _, rfl⟩
   have hAv := hgA TP (by omega)
   rw [show qv ((atT TP k a x f m).getD TP zero3) = [.d A1, .d A2, .d A3] from congrArg (List.map V.d) hA] at hAv
   have had := o_wg _ _ _ _ _ _ (eB m) (by omega) hbF.1 hbF.2.1 hbF.2.2.1 (hbA TP).1 (hbA TP).2.1 (hbA TP).2.2.1
   have had' : Eqn Tryz.prog o_ad [.d (.agg [F1, F2, F3]), .d (.agg [A1, A2, A3])] [] (.d (.agg [Y1, Y2, Y3])) [] := by
    rw [← hF, ← hA, ← hY]; exact had
   have t6 : TP * 3 + 3 ≤ (TP + 1) * 3 := by omega
   have t7 : TP * 3 < (TP + 1) * 3 := by omega
   have ewm : IntKind.i64.wrap ((m : Int) + 1) = ((m + 1 : Nat) : Int) := by rw [w64 (by omega) (by omega)]; omega
   have ewT : IntKind.i64.wrap ((TP : Int) + 1) = ((TP + 1 : Nat) : Int) := by rw [w64 (by omega) (by omega)]; omega
   have hstep : atT TP k a x f (m + 1) = stepT TP k a (atT TP k a x f m) := rfl
   clear had hF hA hY
   generalize atT TP k a x f m = L at *
   rw [hFv]
   have hRAl := fun n => o_12e n L
   have hRAr := fun θ => o_12f θ L
   generalize hRA : rT L = RA at *
   simp
   refine A11 (fs hm2 (fs hm3 (fs hrA (fs hAv (fs t6 (fs t7 ewT)))))) had' ?_; try with_reducible exact tt
   rw [flat3]
   refine AW.loopG (α := Nat × List D) (fun z => setS (List.replicate 108 .junk) [(3, .d (.int .i64 n)), (4, .p 0 0), (8, .p 1 0), (9, .d (.int .i64 TP)), (10, .p 2 0), (12, .d (.int .i64 (m : Nat))), (13, .own 4 3 (TP + 1)), (14, .d (.int .i64 (z.1 : Nat)))]) (fun z => [some ⟨50, [.d (.int .i64 k), .d (.int .i64 a), .d (.int .i64 w)]⟩, some ⟨82, [.d .nilsl, .d .nilsl, .d .nilsl, .d .nilsl]⟩, some ⟨82, [.own 3 3 (TP + 1), .d Y1, .d Y2, .d Y3]⟩, some ⟨46, RA⟩, some ⟨46, z.2.map .d⟩]) (fun z => z.1 ≤ TP + 1 ∧ holdT (z.2.map .d) (TP + 1) (nxT TP k a L) z.1) (fun z => TP + 1 - z.1) (0, List.replicate ((TP + 1) * 3) .nilsl) ?_ ⟨Nat.zero_le _, by simp, fun i hi => by omega⟩ ?_ ?_ ?_
   ·intro z hz; simp
   ·simp
   ·simp [hRAl]
   rintro ⟨j, R⟩ ⟨hj, hR⟩
   simp only at hj hR
   simp
   have hRl : R.length = (TP + 1) * 3 := by have := hR.1; simpa using this
   by_cases hj2 : j ≤ TP
   ·have hj3 : (j : Int) ≤ TP := by omega
    have ewj : IntKind.i64.wrap ((j : Int) + 1) = ((j + 1 : Nat) : Int) := by rw [w64 (by omega) (by omega)]; omega
    have b6 : j * 3 + 3 ≤ (TP + 1) * 3 := by omega
    have b7 : (j : Int) < (TP : Int) + 1 := by omega
    have b8 : j < TP + 1 := by omega
    have b9 : j * 3 < (TP + 1) * 3 := by omega
    have hLj := hgA j (by omega)
    have hset := hR.set (by omega : j < TP + 1)
    obtain ⟨g1, g2, g3, hg, hgv⟩ := qc3 (nxT TP k a L j)
    rw [hgv, ← o_12l] at hset
    have fz := o_12k R (j * 3) (.sl n0 l0) (.sl n0 l0) (.sl n1 l1)
    have fzl := o_12j R (j * 3) (.sl n0 l0) (.sl n0 l0) (.sl n1 l1)
    rw [hRl] at fzl
    have fzg := o_12n R (j * 3) (.sl n0 l0) (.sl n0 l0) (.sl n1 l1) (by omega)
    have fzt : ∀ a b c, w3 (w3 R (j * 3) (.sl n0 l0) (.sl n0 l0) (.sl n1 l1)) (j * 3) a b c = w3 R (j * 3) a b c := fun a b c => o_12m _ _ _ _ _ _ _ _ (by omega)
    generalize w3 R (j * 3) (.sl n0 l0) (.sl n0 l0) (.sl n1 l1) = R1 at *
    obtain ⟨x1, x2, x3, hX, hXv⟩ := qc3 (L.getD j zero3)
    rw [hXv] at hLj
    by_cases hjt : j < TP
    ·have hjt3 : (j : Int) < TP := by omega
     have hch := o_117 h (show j < topC w by omega)
     have hcb := (o_11u h (show j ≤ 15 by omega)).2
     have htu := o_12i (chT k a j)
     have hb1 := (BT.one (E := 65) (by omega)).add hcb.turn
     have had1 := o_12g (BT.one (E := 65) (by omega)) hcb.turn (by omega)
     have hmu := o_12h ((hbA j).up (F := eB m + 131) (by omega)) (hb1.up (F := eB m + 131) (by omega)) (by omega)
     have hb2 := (hbA j).mul hb1
     have hbs : baseT TP k a L j = mul3 (L.getD j zero3) (add3 one3 (turn3 (chT k a j))) := if_pos hjt
     rw [← hbs] at hmu hb2
     rw [hX] at hmu
     obtain ⟨c1, c2, c3, hC, -⟩ := qc3 (chT k a j)
     obtain ⟨u1, u2, u3, hU, -⟩ := qc3 (turn3 (chT k a j))
     obtain ⟨v1, v2, v3, hV, -⟩ := qc3 (add3 one3 (turn3 (chT k a j)))
     obtain ⟨w1, w2, w3', hW, -⟩ := qc3 (baseT TP k a L j)
     have hch' : Eqn Tryz.prog o_aj [.d (.agg [.int .i64 k, .int .i64 a, .int .i64 w]), .d (.int .i64 j)] [] (.d (.agg [c1, c2, c3])) [] := by
      rw [← hC]; exact hch
     have hq1 : qc one3 = [.sl n1 l1, .sl n0 l0, .sl n1 l1] := by
      show [nD 1, nD 0, nD 1] = _
      rw [q0, q1]
     rw [hC, hU] at htu
     rw [hq1, hU, hV] at had1
     rw [hV, hW] at hmu
     have fb := o_12k R1 (j * 3) w1 w2 w3'
     have fbl := o_12j R1 (j * 3) w1 w2 w3'
     have fbg := o_12n R1 (j * 3) w1 w2 w3' (by omega)
     rw [fzl] at fbl
     rw [fzt] at fb fbl fbg
     by_cases hj0 : 0 < j
     ·have hj03 : (0 : Int) < j := by omega
      obtain ⟨j1, hj1⟩ : ∃ j1, j = j1 + 1 := ⟨j - 1, by omega⟩
      have ewj1 : IntKind.i64.wrap ((j : Int) - 1) = (j1 : Int) := by rw [w64 (by omega) (by omega)]; omega
      have hLk := hgA j1 (by omega)
      obtain ⟨y1, y2, y3, hYy, hYyv⟩ := qc3 (L.getD j1 zero3)
      rw [hYyv] at hLk
      have hch2 := o_117 h (show j1 < topC w by omega)
      have hcb2 := (o_11u h (show j1 ≤ 15 by omega)).2
      have hmu2 := o_12h ((hbA j1).up (F := eB m + 65) (by omega)) (hcb2.up (F := eB m + 65) (by omega)) (by omega)
      have hb3 := (hbA j1).mul hcb2
      have had2 := o_12g (hb2.up (F := eB m + 135) (by omega)) (hb3.up (F := eB m + 135) (by omega)) (by omega)
      have hnx : nxT TP k a L j = add3 (baseT TP k a L j) (mul3 (L.getD j1 zero3) (chT k a j1)) := by
       unfold nxT
       rw [if_pos hj0, show j - 1 = j1 by omega]
      rw [← hnx, hg, hW] at had2
      obtain ⟨d1, d2, d3, hD, -⟩ := qc3 (chT k a j1)
      obtain ⟨e1', e2', e3', hE', -⟩ := qc3 (mul3 (L.getD j1 zero3) (chT k a j1))
      have hch2' : Eqn Tryz.prog o_aj [.d (.agg [.int .i64 k, .int .i64 a, .int .i64 w]), .d (.int .i64 j1)] [] (.d (.agg [d1, d2, d3])) [] := by
       rw [← hD]; exact hch2
      rw [hYy, hD, hE'] at hmu2
      rw [hE'] at had2
      have k6 : j1 * 3 + 3 ≤ (TP + 1) * 3 := by omega
      have k7 : (j1 : Int) < (TP : Int) + 1 := by omega
      have k8 : j1 < TP + 1 := by omega
      have k9 : j1 * 3 < (TP + 1) * 3 := by omega
      have fc := o_12k (w3 R (j * 3) w1 w2 w3') (j * 3) g1 g2 g3
      rw [o_12m _ _ _ _ _ _ _ _ (by omega)] at fc
      generalize w3 R (j * 3) w1 w2 w3' = R2 at *
      generalize w3 R (j * 3) g1 g2 g3 = R3 at *
      clear hX hC hU hV hW hYy hD hE' hb1 hb2 hb3 hcb hcb2 hbs hnx hch hch2 hg hgv hXv hYyv hbA hgA hR
      refine A110 (fs hj2 (fs hj3 (fs hRl (fs fz (fs fzl (fs fb (fs fbl (fs fbg (fs fc (fs hjt (fs hjt3 (fs hj0 (fs hj03 (fs b6 (fs b7 (fs b8 (fs b9 (fs hLj (fs hLk (fs ewj1 (fs k6 (fs k7 (fs k8 (fs k9 (fs hrA ewj))))))))))))))))))))))))) hz ho hch' htu had1 hmu hch2' hmu2 had2 had2 ?_; try with_reducible exact tt
      refine ⟨j + 1, R3, 4, 4, ⟨by omega, by omega⟩, ⟨by omega, hset⟩, by omega, ?_, ?_⟩
      ·simp [swT, swH, sw, Ob.sw, V.ren, V.rens]
      ·simp [swT, swH, sw, Ob.sw, V.ren, V.rens, hRAl, hRAr]
     ·have hj03 : ¬ (0 : Int) < j := by omega
      have hnx : nxT TP k a L j = baseT TP k a L j := if_neg hj0
      rw [hnx, hW] at hg
      obtain ⟨rfl, rfl, rfl⟩ : w1 = g1 ∧ w2 = g2 ∧ w3' = g3 := by simpa using hg
      generalize w3 R (j * 3) w1 w2 w3' = R2 at *
      clear hX hC hU hV hW hb1 hb2 hcb hbs hnx hch hg hgv hXv hbA hgA hR
      refine A16 (fs hj2 (fs hj3 (fs hRl (fs fz (fs fzl (fs fb (fs fbl (fs fbg (fs hjt (fs hjt3 (fs hj0 (fs hj03 (fs b6 (fs b7 (fs b8 (fs b9 (fs hLj (fs hrA ewj)))))))))))))))))) hz ho hch' htu had1 hmu ?_; try with_reducible exact tt
      refine ⟨j + 1, R2, 4, 4, ⟨by omega, by omega⟩, ⟨by omega, hset⟩, by omega, ?_, ?_⟩
      ·simp [swT, swH, sw, Ob.sw, V.ren, V.rens]
      ·simp [swT, swH, sw, Ob.sw, V.ren, V.rens, hRAl, hRAr]
    ·have hjt3 : ¬ (j : Int) < TP := by omega
     have hTP1 : 1 ≤ TP := by
      have := Nat.pow_le_pow_right (n := 2) (by omega) h.2.1
      rw [hTP]; unfold topC; omega
     have hj0 : 0 < j := by omega
     have hj03 : (0 : Int) < j := by omega
     obtain ⟨j1, hj1⟩ : ∃ j1, j = j1 + 1 := ⟨j - 1, by omega⟩
     have ewj1 : IntKind.i64.wrap ((j : Int) - 1) = (j1 : Int) := by rw [w64 (by omega) (by omega)]; omega
     have hLk := hgA j1 (by omega)
     obtain ⟨y1, y2, y3, hYy, hYyv⟩ := qc3 (L.getD j1 zero3)
     rw [hYyv] at hLk
     have hch2 := o_117 h (show j1 < topC w by omega)
     have hcb2 := (o_11u h (show j1 ≤ 15 by omega)).2
     have hmu2 := o_12h ((hbA j1).up (F := eB m + 65) (by omega)) (hcb2.up (F := eB m + 65) (by omega)) (by omega)
     have hb3 := (hbA j1).mul hcb2
     have had2 := o_12g (BT.zero (E := eB m + 135) (by omega)) (hb3.up (F := eB m + 135) (by omega)) (by omega)
     have hnx : nxT TP k a L j = add3 zero3 (mul3 (L.getD j1 zero3) (chT k a j1)) := by
      unfold nxT baseT
      rw [if_pos hj0, if_neg hjt, show j - 1 = j1 by omega]
     have hq0 : qc zero3 = [.sl n0 l0, .sl n0 l0, .sl n1 l1] := by
      show [nD 0, nD 0, nD 1] = _
      rw [q0, q1]
     rw [← hnx, hg, hq0] at had2
     obtain ⟨d1, d2, d3, hD, -⟩ := qc3 (chT k a j1)
     obtain ⟨e1', e2', e3', hE', -⟩ := qc3 (mul3 (L.getD j1 zero3) (chT k a j1))
     have hch2' : Eqn Tryz.prog o_aj [.d (.agg [.int .i64 k, .int .i64 a, .int .i64 w]), .d (.int .i64 j1)] [] (.d (.agg [d1, d2, d3])) [] := by
      rw [← hD]; exact hch2
     rw [hYy, hD, hE'] at hmu2
     rw [hE'] at had2
     have k6 : j1 * 3 + 3 ≤ (TP + 1) * 3 := by omega
     have k7 : (j1 : Int) < (TP : Int) + 1 := by omega
     have k8 : j1 < TP + 1 := by omega
     have k9 : j1 * 3 < (TP + 1) * 3 := by omega
     have fc := o_12k R1 (j * 3) g1 g2 g3
     rw [fzt] at fc
     generalize w3 R (j * 3) g1 g2 g3 = R3 at *
     clear hX hYy hD hE' hb3 hcb2 hnx hch2 hg hgv hXv hYyv hbA hgA hR
     refine A14 (fs hj2 (fs hj3 (fs hRl (fs fz (fs fzl (fs fzg (fs fc (fs hjt (fs hjt3 (fs hj0 (fs hj03 (fs b6 (fs b7 (fs b8 (fs b9 (fs hLj (fs hLk (fs ewj1 (fs k6 (fs k7 (fs k8 (fs k9 (fs hrA ewj))))))))))))))))))))))) hz hch2' hmu2 had2 ?_; try with_reducible exact tt
     refine ⟨j + 1, R3, 4, 4, ⟨by omega, by omega⟩, ⟨by omega, hset⟩, by omega, ?_, ?_⟩
     ·simp [swT, swH, sw, Ob.sw, V.ren, V.rens]
     ·simp [swT, swH, sw, Ob.sw, V.ren, V.rens, hRAl, hRAr]
   ·have h2 : j = TP + 1 := by omega
    subst h2
    have hRe := hR.eq
    have hstp : (List.range (TP + 1)).map (nxT TP k a L) = stepT TP k a L := rfl
    rw [hstp, ← hstep] at hRe
    have hj3 : ¬ ((TP + 1 : Nat) : Int) ≤ TP := by omega
    have hj4 : ¬ ((TP : Nat) : Int) + 1 ≤ TP := by omega
    rw [hRe]
    refine A10 (fs hj3 (fs hj4 ewm)) ?_; try with_reducible exact tt
    refine ⟨m + 1, 3, 4, ⟨by omega, by omega⟩, by omega, by omega, ?_, ?_⟩
    ·simp [swT, swH, sw, Ob.sw, V.ren, V.rens]
    ·rw [hYv]
     simp [swT, swH, sw, Ob.sw, V.ren, V.rens]
  ·have h2 : m = n := by omega
   subst h2
   rw [hFv, hF]
   generalize hLL : atT TP k a x f m = L at *
   have hfl : (L.flatMap qc).length = (TP + 1) * 3 := by rw [← hrA, rT, List.length_map]
   have htk : (L.flatMap qc).take ((TP + 1) * 3) = L.flatMap qc := List.take_of_length_le (by omega)
   refine AW.freeze 3 3 ⟨46, rT L⟩ (L.flatMap qc) (by simp) rfl ?_
   simp [frzH, htk]
   refine A00 ?_; try with_reducible exact tt
   done
end
section
open Go.RowKit
theorem o_12p {k a w : Nat} (h : GoodS k a w) (w3 : w ≤ 3) {s : St} (hs : okQ (topC w) s) (n : Nat) (hn : n ≤ 15) : ∃ G C, 0 < G ∧ 1 ≤ C ∧ (∀ p ∈ dstQ k a w s n, Gr G C p.2) ∧ size (1000 * C * G) ≤ 1000 := by
 have h8 : 2 ^ w ≤ 8 := Nat.pow_le_pow_right (n := 2) (by omega) w3
 have h7 : topC w ≤ 7 := by unfold topC; omega
 obtain ⟨c0, c1⟩ := o_111 h
 obtain ⟨G0, hG, hG63, hc⟩ := o_10e h
 refine ⟨G0 ^ n, 80 ^ n, Nat.pow_pos hG, Nat.pow_pos (by decide), o_11c (by omega) c0 c1 (fun x hx => hc x (by omega)) hs n, ?_⟩
 have sG : size G0 ≤ 1 := o_lv (Nat.lt_of_le_of_lt hG63 (by decide))
 have s24 : size 80 ≤ 1 := o_lv (by decide)
 have := o_110 G0 sG n
 have := o_110 80 s24 n
 have := o_qq (1000 * 80 ^ n) (G0 ^ n)
 have := o_qq 1000 (80 ^ n)
 have : size 1000 ≤ 1 := o_lv (by decide)
 omega
theorem o_12q {k a w : Nat} (h : GoodS k a w) (w3 : w ≤ 3) {s : St} (hs : okQ (topC w) s) (n : Nat) (hn : n ≤ 15) : Eqn Tryz.prog o_7s [.d (parD k a w), .d (.sl (atQ (dstQ k a w s n)).length (spD rcD (atQ (dstQ k a w s n))))] [] (.d (.bool true)) [] ∧ (atQ (dstQ k a w s n)).length ≤ 9 ∧ ∀ t, RS (getQ (dstQ k a w s n) t) 1000 := by
 obtain ⟨G, C, Gp, Cp, hg, hsz⟩ := o_12p h w3 hs n hn
 obtain ⟨c0, c1⟩ := o_111 h
 have hok := o_yl (c := chP k a) c0 c1 hs n
 have hu := o_yb (stepQ (topC w) (chP k a)) s n
 have h8 : 2 ^ w ≤ 8 := Nat.pow_le_pow_right (n := 2) (by omega) w3
 have h7 : topC w ≤ 7 := by unfold topC; omega
 have hl : (atQ (dstQ k a w s n)).length ≤ 9 := Nat.le_trans (o_10n _) (Nat.le_trans (o_11g hu hok) (by omega))
 have sz : ∀ K, K ≤ 1000 * C → size (K * G) ≤ 1000 := fun K hK => Nat.le_trans (o_ld (Nat.mul_le_mul_right G hK)) hsz
 have hga : ∀ p ∈ atQ (dstQ k a w s n), Gr G C p.2 := fun p hp => hg p (List.mem_filter.1 ((o_xz _).mem_iff.1 hp)).1
 refine ⟨o_11a (.inr ⟨by have := h.1; omega, o_u3 h⟩) _ (by omega) (fun p hp => wellQ h (o_yh hok p hp).1) (o_11k hok) (fun i hi => o_11h hu i hi) (fun p hp => ((hga p hp).rs Gp Cp (sz _ (by omega))).le (by omega)) (fun i hi => (((o_11j hga i hi).le (C := 1000 * C) (Nat.mul_le_mul_right C (by omega))).rs Gp (by omega) (sz _ (Nat.le_refl _))).le (by omega)) (by rw [o_11i, o_y0]; exact o_ym _ _), hl, fun t => (o_10i hg t).rs Gp Cp (sz _ (by omega))⟩
theorem o_12r (K A B : Nat) (h : SmallR K A B) : ∃ K' A' B' w : Nat, (if K = 4 then (K' = 2 ∧ A' = 1 ∧ B' = 3) else (K' = K ∧ A' = A ∧ B' = B)) ∧ w = 1 + B' % 3 ∧ GoodS K' A' w ∧ w ≤ 3 := by
 by_cases h4 : K = 4
 ·refine ⟨2, 1, 3, 1, by simp [h4], by decide, ⟨.inr (.inl ⟨rfl, by omega⟩), by omega, by omega⟩, by omega⟩
 ·rcases h with ⟨h, -⟩ | ⟨-, h⟩
  ·exact absurd h h4
  ·refine ⟨K, A, B, 1 + B % 3, by simp [h4], rfl, ⟨h.1, by omega, by omega⟩, by omega⟩
end
section
open Go.RowKit
theorem o_12s : Eqn Tryz.prog o_7d [] [] (.d (.bool true)) [] := by
 refine Eqn.pure o_7f Plain.ok ?_
 have hG : GoodS 1 1 2 := ⟨.inl ⟨rfl, by omega, by omega⟩, by omega, by omega⟩
 have hof := o_11e hG (by omega) (0, 0, false) (.inr ⟨by omega, rfl, by simp, by simp⟩) ⟨Nat.zero_le _, rfl, by simp⟩ 2 (by omega)
 rw [dst2] at hof
 have hsp : spD rcD [(((1, 0, false) : St), hf2), ((2, 0, false), hf2)] = [.int .i64 1, .int .i64 0, .bool false, natW 1, .bool false, natW 1, .int .i64 2, .int .i64 0, .bool false, natW 1, .bool false, natW 1] := by rfl
 rw [hsp] at hof
 have ht := o_vs hf2 ⟨by decide +kernel, by decide +kernel⟩
 have hr : rD hf2 = .agg [natW 1, .bool false, natW 1] := by rfl
 rw [hr] at ht
 have hs : (txtQ hf2).toList = [49, 47, 50] := by kernel_rfl
 simp only [o_7e, parD, stD] at hof ⊢
 generalize natW 1 = N1 at *
 generalize txtQ hf2 = SS at *
 simp at hof
 refine A00 ?_; try with_reducible exact tt
 refine CallS.pu (hof) (R0 ?_); try with_reducible exact tt
 refine CallS.pu (ht) (R1 hs ?_); try with_reducible exact tt
 refine CallS.pu (ht) (R1 hs ?_); try with_reducible exact tt
end
section
open Go.RowKit
theorem is7T {x : Rat} {t : T3} {E : Nat} (hx : vT t = x) (hs : RS x 1000) (hE : E ≤ 50000) (hb : BT E t) : Eqn Tryz.prog o_74 [.d (rD x), .d (.agg (qc t))] [] (.d (.bool true)) [] :=
 o_wq x t.1 t.2.1 t.2.2 E hx.symm hs hE hb.1 hb.2.1 hb.2.2.1 hb.2.2.2
set_option maxHeartbeats 8000000 in
theorem o_12t (k a b y t : Int) (f : Bool) (n : Int) : Eqn Tryz.prog o_6j [.d (parD k a b), .d (.agg [.int .i64 y, .int .i64 t, .bool f]), .d (.int .i64 n)] [] (.d (.bool true)) [] := by
 refine Eqn.pure o_6l Plain.ok ?_
 obtain ⟨K, A, B, hsr, hsm⟩ := o_xa k a b
 obtain ⟨Y, T, F, hw, hs1⟩ := hsm y t f
 obtain ⟨n', hn, hn7, -⟩ := o_ts n 7 (by omega)
 replace hn : bits BinOp.and IntKind.i64 n 7 = n' := hn
 obtain ⟨m, hm, hm7, -⟩ := o_ts (Y : Int) 7 (by omega)
 replace hm : bits BinOp.and IntKind.i64 (Y : Int) 7 = m := hm
 obtain ⟨K', A', B', w, hK, hwB, hG, w3⟩ := o_12r K A B hsr
 -- the state it starts from
 obtain ⟨y0, f0, hyf⟩ : ∃ (y0 : Nat) (f0 : Bool), if K = 4 then (y0 = m ∧ f0 = if m = 7 then F else false) else (y0 = Y ∧ f0 = F) := by
  by_cases h4 : K = 4
  ·exact ⟨m, if m = 7 then F else false, by rw [if_pos h4]; exact ⟨rfl, rfl⟩⟩
  ·exact ⟨Y, F, by rw [if_neg h4]; exact ⟨rfl, rfl⟩⟩
 have hT0 : K ≠ 4 → T = 0 := fun h4 => by
  rcases hw with ⟨h, -⟩ | ⟨-, h, -⟩
  ·exact absurd h h4
  ·exact h
 obtain ⟨TP, hTP⟩ : ∃ TP, TP = topC w := ⟨_, rfl⟩
 obtain ⟨y', hy'⟩ : ∃ y', y' = min y0 TP := ⟨_, rfl⟩
 obtain ⟨f', hf'⟩ : ∃ f' : Bool, f' = (f0 && decide (y' = TP)) := ⟨_, rfl⟩
 have hok : okQ (topC w) (y', 0, f') := by
  rw [← hTP]
  refine ⟨by simp only; omega, rfl, fun h => ?_⟩
  simp only at h ⊢
  rw [hf'] at h
  simpa using (Bool.and_eq_true_iff.1 h).2
 have hwl : WellR K' A' w y' 0 f' := wellQ hG hok
 have of1 := o_11e hG (by omega) (y', 0, f') hwl hok n' (by omega)
 obtain ⟨hord, lL, rsL⟩ := o_12q hG w3 hok n' (by omega)
 have href := o_12o hG y' n' f' hok.1 (by omega)
 obtain ⟨va, vf⟩ := o_126 hG hok n'
 have hbA := o_122 (x := y') (f := f') hG n'
 have hbF := o_123 (x := y') (f := f') hG n'
 have hE := eB_le n' (by omega)
 have hlA := o_11v (topC w) K' A' y' f' n'
 have hu := o_yb (stepQ (topC w) (chP K' A')) (y', 0, f') n'
 have ga := fun s => o_y6 (l := dstQ K' A' w (y', 0, f') n') (h := hu) s
 have fi1 := fun y1 y3 => o_11n (atQ (dstQ K' A' w (y', 0, f') n')) (by omega) y1 0 y3
 simp only [ga] at fi1
 have isA : ∀ j, j ≤ topC w → Eqn Tryz.prog o_74 [.d (rD (getQ (dstQ K' A' w (y', 0, f') n') (j, 0, false))), .d (.agg (qc ((atT (topC w) K' A' y' f' n').getD j zero3)))] [] (.d (.bool true)) [] := fun j hj => is7T (va j hj) (rsL _) (by omega) (hbA j)
 have isF := is7T vf (rsL _) (by omega) hbF
 have hgA : ∀ j, j < topC w + 1 → (((atT (topC w) K' A' y' f' n').flatMap qc).drop (j * 3)).take 3 = qc ((atT (topC w) K' A' y' f' n').getD j zero3) := fun j hj => by
  rw [o_wt (n := 3) (f := qc) (fun _ => rfl) _ j (by rw [hlA]; exact hj), List.getD_eq_getElem?_getD, List.getElem?_eq_getElem (by rw [hlA]; exact hj)]; rfl
 have hfl : ((atT (topC w) K' A' y' f' n').flatMap qc).length = (topC w + 1) * 3 := by rw [o_wr (n := 3) (f := qc) (fun _ => rfl), hlA]
 have hwn := o_x6 K' A' w
 have hst := o_x7 y' 0 f'
 have h8 : 2 ^ w ≤ 8 := Nat.pow_le_pow_right (n := 2) (by omega) w3
 have e2 : (2 : Int) ^ w = (2 ^ w : Nat) := by rw [Int.natCast_pow]; rfl
 have e0 : ((0 : Nat) : Int) = 0 := rfl
 have hpw : 0 < 2 ^ w := Nat.two_pow_pos w
 have hWT : 2 ^ w = TP + 1 := by rw [hTP]; unfold topC; omega
 obtain ⟨G1, G2, G3, hGf, -⟩ := qc3 (fulT (topC w) K' A' y' f' n')
 rw [hGf] at href isF
 rw [hWT] at e2 h8
 rw [← hTP] at href isA isF hgA hfl va vf hbA hbF hlA
 generalize dstQ K' A' w (y', 0, f') n' = L at *
 generalize atT TP K' A' y' f' n' = AT at *
 clear va vf hbA hbF hlA hu ga hok hwl rsL hE hGf
 generalize hRR : AT.flatMap qc = RR at *
 have ewW : IntKind.i64.wrap ((TP + 1 : Nat) : Int) = ((TP + 1 : Nat) : Int) := w64 (by omega) (by omega)
 have ewW2 : IntKind.i64.wrap (1 * ((TP + 1 : Nat) : Int)) = ((TP + 1 : Nat) : Int) := by rw [w64 (by omega) (by omega)]; omega
 have ewT : IntKind.i64.wrap (((TP + 1 : Nat) : Int) - 1) = (TP : Int) := by rw [w64 (by omega) (by omega)]; omega
 have ew1 : IntKind.i64.wrap (1 + ((B' % 3 : Nat) : Int)) = (w : Int) := by rw [w64 (by omega) (by omega)]; omega
 have ew2 : (B' : Int).tmod 3 = ((B' % 3 : Nat) : Int) := rfl
 generalize hB3 : B' % 3 = B3 at *
 have g0 : ¬ (w : Int) < 0 := by omega
 have emin : min (y0 : Int) (TP : Int) = (y' : Int) := by omega
 simp only [o_6k, parD, tsD, stD, e0] at hs1 of1 hord hwn hst fi1 href ⊢
 have hmid : (if K = 4 then ((K' : Int) = 2 ∧ (A' : Int) = 1 ∧ (B' : Int) = 3) else (K' = K ∧ A' = A ∧ B' = B)) := by
  by_cases h4 : K = 4
  ·rw [if_pos h4] at hK ⊢; omega
  ·rw [if_neg h4] at hK ⊢; exact hK
 refine A01 o_12s ?_; try with_reducible exact tt
 refine CallS.pu (hs1) (R0 ?_); try with_reducible exact tt
 refine AW.meet (setS (List.replicate 119 .junk) [(2, .d (.int .i64 n)), (3, .p 0 0), (4, .p 1 0)]) [some ⟨68, [.d (.int .i64 K'), .d (.int .i64 A'), .d (.int .i64 B')]⟩, some ⟨70, [.d (.int .i64 y0), .d (.int .i64 0), .d (.bool f0)]⟩] (Nat.zero_le _) ?_ ?_
 ·by_cases hk4 : K = 4
  ·have hk4' : (K : Int) = 4 := by omega
   rw [if_pos hk4] at hmid hyf
   obtain ⟨k1, k2, k3⟩ := hmid
   obtain ⟨rfl, hf0⟩ := hyf
   by_cases hm7' : y0 = 7
   ·have hm7i : (y0 : Int) = 7 := by omega
    rw [if_pos hm7'] at hf0
    subst hf0
    have hm4 : bits BinOp.and IntKind.i64 (Y : Int) 7 = 7 := by rw [hm, hm7i]
    refine A10 (fs hk4 (fs hk4' hm4)) ?_; try with_reducible exact tt
    simp [k1, k2, k3, hm7i]
   ·have hm7i : ¬ (y0 : Int) = 7 := by omega
    rw [if_neg hm7'] at hf0
    subst hf0
    refine A10 (fs hk4 (fs hk4' (fs hm (fs hm7i hm7')))) ?_; try with_reducible exact tt
    simp [k1, k2, k3]
  ·have hk4' : ¬ (K : Int) = 4 := by omega
   rw [if_neg hk4] at hmid hyf
   obtain ⟨rfl, rfl, rfl⟩ := hmid
   obtain ⟨rfl, rfl⟩ := hyf
   have hT := hT0 hk4
   subst hT
   refine A10 (fs hk4 hk4') ?_; try with_reducible exact tt
 repeat (first | refine AW.seq ?_ | refine AW.block ?_)
 refine AW.reg mix ?_
 (simp -implicitDefEqProofs [ew2, ew1]; try simp (disch := omega) only [w64, wu64])
 try refine need.of (by first | omega | kernel_rfl) ?_
 repeat (first | refine AW.seq ?_ | refine AW.block ?_)
 refine AW.reg mix ?_
 (simp -implicitDefEqProofs [g0, e2, ewW, ewW2, ewT]; try simp (disch := omega) only [w64, wu64])
 try refine need.of (by first | omega | kernel_rfl) ?_
 repeat (first | refine AW.seq ?_ | refine AW.block ?_)
 refine AW.reg mix ?_
 (simp -implicitDefEqProofs [emin]; try simp (disch := omega) only [w64, wu64])
 try refine need.of (by first | omega | kernel_rfl) ?_
 refine AW.seq ?_
 refine AW.meet (setS (List.replicate 119 .junk) [(2, .d (.int .i64 n)), (3, .p 0 0), (4, .p 1 0), (7, .d (.int .i64 TP))]) [some ⟨68, [.d (.int .i64 K'), .d (.int .i64 A'), .d (.int .i64 w)]⟩, some ⟨70, [.d (.int .i64 y'), .d (.int .i64 0), .d (.bool f')]⟩] (Nat.zero_le _) ?_ ?_
 ·cases f0 with
  | false =>
   have hff : f' = false := by rw [hf']; rfl
   subst hff
   refine A00 ?_; try with_reducible exact tt
  | true =>
   by_cases hyT : y' = TP
   ·have hff : f' = true := by rw [hf']; simp [hyT]
    subst hff
    subst hyT
    refine A00 ?_; try with_reducible exact tt
   ·have hyT' : ¬ (y' : Int) = TP := by omega
    have hff : f' = false := by rw [hf']; simp [hyT]
    subst hff
    have hyB : ((y' : Int) == (TP : Int)) = false := by simp; omega
    refine A10 (fs hyB (fs hyT' hyT)) ?_; try with_reducible exact tt
 refine A10 hn ?_; try with_reducible exact tt
 refine CallS.pu (hwn) (R1 hn ?_); try with_reducible exact tt
 refine A10 hn ?_; try with_reducible exact tt
 refine CallS.pu (hst) (R1 hn ?_); try with_reducible exact tt
 refine CallS.pu (of1) (R0 ?_); try with_reducible exact tt
 refine CallS.pu (hord) (R0 ?_); try with_reducible exact tt
 refine A00 ?_; try with_reducible exact tt
 refine CallS.pu (href) (R0 ?_); try with_reducible exact tt
 refine A10 hfl ?_; try with_reducible exact tt
 refine AW.loopG (α := Nat) (fun i => setS (List.replicate 119 .junk) [(7, .d (.int .i64 TP)), (9, .d (.sl (atQ L).length (spD rcD (atQ L)))), (11, .p 3 0), (97, .d (.sl (TP + 1) RR)), (98, .d (.int .i64 ((TP + 1 : Nat) : Int))), (99, .d (.int .i64 (i : Nat)))]) (fun i => [none, none, none, some ⟨82, [.d (.sl (TP + 1) RR), .d G1, .d G2, .d G3]⟩]) (fun i => i ≤ TP + 1) (fun i => TP + 1 - i) 0 ?_ (Nat.zero_le _) ?_ ?_ ?_
 ·intro i hi; simp
 ·simp
 ·simp
 rintro i hi
 simp
 by_cases hi2 : i < TP + 1
 ·have hi3 : (i : Int) < (TP : Int) + 1 := by omega
  have f1 := fi1 i false
  have hI := isA i (by omega)
  have hg := hgA i hi2
  obtain ⟨u1, u2, u3, hU, -⟩ := qc3 (AT.getD i zero3)
  rw [hU] at hg hI
  have ewi : IntKind.i64.wrap ((i : Int) + 1) = ((i + 1 : Nat) : Int) := by rw [w64 (by omega) (by omega)]; omega
  have gen : ∀ q, ∃ u v z, rcD q = [u, v, z] := fun q => ⟨_, _, _, rfl⟩
  simp only [o_yp] at f1 hI
  obtain ⟨x1, x2, x3, hx⟩ := gen (getQ L (i, 0, false))
  rw [hx] at f1 hI
  have c6 : i * 3 + 3 ≤ (TP + 1) * 3 := by omega
  have c7 : i * 3 < (TP + 1) * 3 := by omega
  refine A12 (fs hi2 (fs hi3 (fs hg (fs hfl (fs c6 (fs c7 ewi)))))) f1 hI ?_; try with_reducible exact tt
  refine ⟨i + 1, 3, 3, ⟨by omega, by omega⟩, by omega, by omega, ?_, ?_⟩
  ·simp [swT, swH, sw, Ob.sw, V.ren, V.rens]
  ·simp [swT, swH, sw, Ob.sw, V.ren, V.rens]
 ·have h2 : i = TP + 1 := by omega
  subst h2
  have f1 := fi1 TP true
  simp only [o_yp] at f1 isF
  have gen : ∀ q, ∃ u v z, rcD q = [u, v, z] := fun q => ⟨_, _, _, rfl⟩
  obtain ⟨x1, x2, x3, hx⟩ := gen (getQ L (TP, 0, true))
  rw [hx] at f1 isF
  refine A02 f1 isF ?_; try with_reducible exact tt
end
section
open Go.RowKit

theorem pch_walk {W : World} (ht : Tabs (memW W)) {k a b y t n : Int} {f : Bool} : Calls Tryz.prog o_6j #[.agg #[.int .i64 k, .int .i64 a, .int .i64 b], .agg #[.int .i64 y, .int .i64 t, .bool f], .int .i64 n] W (fun e W' => e = .returned (.bool true) ∧ Same W W') :=
 o_xc o_6l (o_12t k a b y t f n) (V.reps_cons.2 ⟨o_xd (by simp [Value.oneCell']) (by simp [D.reps_cons, D.rep_int]), V.reps_cons.2 ⟨o_xd (by simp [Value.oneCell']) (by simp [D.reps_cons, D.rep_int, D.rep_bool]), V.reps_cons.2 ⟨V.rep_int.2 rfl, V.reps_nil.2 rfl⟩⟩⟩) ht
end
end Go.Proofs.YtmpjlkclkhnpfaaGreatDoor.Am
