/- Parts of the proof: CmsU, RepL, UpdL. -/
import Derived.Test.YtlelpbaeplcfiaaGreatDoorPf
set_option linter.unusedVariables false
set_option linter.unusedSimpArgs false
set_option maxRecDepth 100000
namespace Go.Proofs.YtlelpbaeplcfiaaGreatDoor.Am
section
open Go.RowKit
theorem o_we (l m : List ST) : stW (l ++ m) = stW l ++ stW m := by simp [stW]
theorem o_wf (x : List V) (h : x = stW (List.replicate 64 (0, 0, false))) : ∀ n, (List.replicate n x).flatten = stW (List.replicate (n * 64) (0, 0, false))
 | 0 => by simp [stW]
 | n + 1 => by
  rw [List.replicate_succ, List.flatten_cons, o_wf x h n, h, ← o_we, List.replicate_append_replicate]
  congr 2; omega
@[simp] theorem o_wg (n : Nat) : ∀ l : List ST, V.lowl n (stW l) = true
 | [] => rfl
 | x :: l => by
  have := o_wg n l
  unfold stW at this ⊢
  rw [List.flatMap_cons, o_rv, this]; rfl
@[simp] theorem o_wh (θ : Nat → Nat) : ∀ l : List ST, V.rens θ (stW l) = stW l
 | [] => rfl
 | x :: l => by
  have := o_wh θ l
  unfold stW at this ⊢
  rw [List.flatMap_cons, o_ru, this]; rfl
def nxt (cs : List Bool) (C k a b key n : Nat) (rs : List Rw) (p : Nat) (d : Bool) (L : List ST) : Nat → List ST
 | 0 => L
 | i + 1 => (nxt cs C k a b key n rs p d L i).set (i * 64 + colOf C (rs.getD i ⟨0, 0, []⟩).a (rs.getD i ⟨0, 0, []⟩).b key) ((updZ cs C k a b key n rs p d i).y, (updZ cs C k a b key n rs p d i).t, (updZ cs C k a b key n rs p d i).f)
theorem o_wi {cs : List Bool} {C k a b key n : Nat} {rs : List Rw} {p : Nat} {d : Bool} {L : List ST} : ∀ i, (nxt cs C k a b key n rs p d L i).length = L.length
 | 0 => rfl
 | i + 1 => by rw [nxt, List.length_set, o_wi i]
theorem o_wj {cs : List Bool} {C k a b key n : Nat} {rs : List Rw} {p : Nat} {d : Bool} {L : List ST} (hC : 1 ≤ C) (hC2 : C ≤ 64) (r c : Nat) (hc : c < 64) (hL : rs.length * 64 ≤ L.length) : ∀ i, i ≤ rs.length → (nxt cs C k a b key n rs p d L i).getD (r * 64 + c) (0, 0, false) = if r < i ∧ c = colOf C (rs.getD r ⟨0, 0, []⟩).a (rs.getD r ⟨0, 0, []⟩).b key then ((updZ cs C k a b key n rs p d r).y, (updZ cs C k a b key n rs p d r).t, (updZ cs C k a b key n rs p d r).f) else L.getD (r * 64 + c) (0, 0, false)
 | 0, _ => by simp [nxt]
 | i + 1, hi => by
  have ih := o_wj (cs := cs) (k := k) (a := a) (b := b) (key := key) (n := n) (p := p) (d := d) hC hC2 r c hc hL i (by omega)
  have hcol : colOf C (rs.getD i ⟨0, 0, []⟩).a (rs.getD i ⟨0, 0, []⟩).b key < 64 := Nat.lt_of_lt_of_le (Nat.mod_lt _ (by omega)) hC2
  rw [nxt]
  by_cases hri : r = i
  ·subst hri
   by_cases hcc : c = colOf C (rs.getD r ⟨0, 0, []⟩).a (rs.getD r ⟨0, 0, []⟩).b key
   ·rw [if_pos ⟨by omega, hcc⟩, ← hcc, List.getD_eq_getElem?_getD, List.getElem?_set_self (by rw [o_wi]; omega)]
    rfl
   ·rw [if_neg (fun h => hcc h.2), List.getD_eq_getElem?_getD, List.getElem?_set_ne (by omega), ← List.getD_eq_getElem?_getD, ih, if_neg (fun h => hcc h.2)]
  ·rw [List.getD_eq_getElem?_getD, List.getElem?_set_ne (by omega), ← List.getD_eq_getElem?_getD, ih]
   by_cases h : r < i ∧ c = colOf C (rs.getD r ⟨0, 0, []⟩).a (rs.getD r ⟨0, 0, []⟩).b key
   ·rw [if_pos h, if_pos ⟨by omega, h.2⟩]
   ·rw [if_neg h, if_neg (fun g => h ⟨by omega, g.2⟩)]
def Rel (C : Nat) (rs : List Rw) (L : List ST) : Prop := L.length = rs.length * 64 ∧ ∀ r c, r < rs.length → c < C → L.getD (r * 64 + c) (0, 0, false) = (rs.getD r ⟨0, 0, []⟩).l.getD c (0, 0, false)
theorem o_wk {cs : List Bool} {C k a b key n : Nat} {rs : List Rw} {p : Nat} {d : Bool} {L : List ST} (hC : 1 ≤ C) (hC2 : C ≤ 64) (h : Rel C rs L) (hr : ∀ r ∈ rs, GoodRow C k a b r) (he : (updM cs C k a b key n rs p d).e = 0) : Rel C (updM cs C k a b key n rs p d).rs (nxt cs C k a b key n rs p d L rs.length) := by
 obtain ⟨h1, h2⟩ := h
 obtain ⟨o1, -, o3⟩ := o_u0 rs p d he
 refine ⟨by rw [o_wi, h1, o1], fun r c hr' hc => ?_⟩
 rw [o1] at hr'
 rw [o_wj hC hC2 r c (by omega) (by omega) _ (Nat.le_refl _), (o3 r hr').2]
 simp only [updL]
 have hlen : (rs.getD r ⟨0, 0, []⟩).l.length = C := by
  rw [List.getD_eq_getElem?_getD, List.getElem?_eq_getElem hr']
  exact (hr _ (List.getElem_mem _)).2.2.1
 by_cases hcc : c = colOf C (rs.getD r ⟨0, 0, []⟩).a (rs.getD r ⟨0, 0, []⟩).b key
 ·rw [if_pos ⟨hr', hcc⟩, ← hcc, List.getD_eq_getElem?_getD, List.getElem?_set_self (by omega)]
  rfl
 ·rw [if_neg (fun h => hcc h.2), List.getD_eq_getElem?_getD (l := List.set _ _ _), List.getElem?_set_ne (fun h => hcc h.symm), ← List.getD_eq_getElem?_getD]
  exact h2 r c hr' hc
theorem o_wl {C : Nat} (hs : List (Nat × Nat)) (hC : C ≤ 64) : Rel C (hs.map (newRow C)) (List.replicate (hs.length * 64) (0, 0, false)) := by
 refine ⟨by simp, fun r c hr hc => ?_⟩
 simp only [List.length_map] at hr
 have h1 : r * 64 + c < hs.length * 64 := by omega
 simp [List.getD, newRow, hr, hc, h1]
theorem o_wm (cs : List Bool) {k a b y t : Nat} {f : Bool} (hw : WellR k a b y t f) (p : Nat) (d : Bool) : addRM cs k a b 0 y t f p d = ⟨0, y, t, f, p, d⟩ := by
 unfold addRM
 rcases hw with ⟨rfl, -⟩ | ⟨hk, rfl, -, -⟩
 ·rw [if_pos rfl]; simp [addTM]
 ·rw [if_neg hk]; simp [addL]
theorem o_wn {cs : List Bool} {C k a b key : Nat} (hC : 1 ≤ C) : ∀ (rs : List Rw) (p : Nat) (d : Bool), (∀ r ∈ rs, GoodRow C k a b r) → updM cs C k a b key 0 rs p d = ⟨0, rs, p, d⟩
 | [], p, d, _ => rfl
 | r :: rs, p, d, h => by
  obtain ⟨-, -, h3, h4⟩ := h r (by simp)
  have hcol : colOf C r.a r.b key < r.l.length := by rw [h3]; exact Nat.mod_lt _ (by omega)
  have hz : updR cs C k a b key 0 r p d = ⟨0, (r.l.getD (colOf C r.a r.b key) (0, 0, false)).1, (r.l.getD (colOf C r.a r.b key) (0, 0, false)).2.1, (r.l.getD (colOf C r.a r.b key) (0, 0, false)).2.2, p, d⟩ := o_wm cs (o_rc h4 hcol) p d
  rw [updM, hz]
  simp only
  rw [o_wn hC rs p d fun x hx => h x (by simp [hx])]
  unfold updC
  simp only [if_true]
  have hs : r.l.set (colOf C r.a r.b key) ((r.l.getD (colOf C r.a r.b key) (0, 0, false)).1, (r.l.getD (colOf C r.a r.b key) (0, 0, false)).2.1, (r.l.getD (colOf C r.a r.b key) (0, 0, false)).2.2) = r.l := by
   rw [List.getD_eq_getElem?_getD, List.getElem?_eq_getElem hcol]
   exact List.set_getElem_self hcol
  rw [hs]
set_option maxHeartbeats 100000000 in
theorem o_wo (r c k a b : Int) (ws : List Nat) (us : List (Nat × Int)) (cs : List Bool) (hws : ws.length ≤ 9223372036854775807) (hus : us.length ≤ 9223372036854775807) (hkey : ∀ u ∈ us, u.1 < 18446744073709551616) (hn : cs.length ≤ 9223372036854775807) :
  Eqn Tryz.prog o_59 [.d (drD r c k a b ws), .d (.sl us.length (updD us)), .d (BL cs)] [] (.d (.bool true)) [] := by
 refine Eqn.pure o_5b Plain.ok ?_
 obtain ⟨R, C, K, A, B, hgp, hR0, hpar⟩ := o_td r c k a b ws
 have hhs := o_tg r c k a b ws hws R hR0 hgp.1 hgp.2.1
 have hlt := o_te ws hgp.2.1
 have hlen : (drawH ws R).length = R := by simp [drawH]
 have hwith := o_se hgp (drawH ws R) hlen hlt
 obtain ⟨hr1, hr4, hC1, hC64, hg⟩ := hgp
 have hgd : ∀ r ∈ (drawH ws R).map (newRow C), GoodRow C K A B r := by
  intro x hx
  obtain ⟨y, hy, rfl⟩ := List.mem_map.1 hx
  exact o_tw hg y (hlt y hy)
 have hl0 : ((drawH ws R).map (newRow C)).length = R := by simp [hlen]
 have hrel0 := o_wl (C := C) (drawH ws R) hC64
 rw [hlen] at hrel0
 have hhg := o_sf (drawH ws R)
 have hhl := o_sg (drawH ws R)
 rw [hlen] at hhl
 have hhm : ((drawH ws R).map (newRow C)).map (fun r => (r.a, r.b)) = drawH ws R := by rw [List.map_map]; simp [newRow, Function.comp_def]
 generalize (drawH ws R).map (newRow C) = rs0 at *
 generalize hHS : drawH ws R = HS at *
 have hul : (updD us).length = us.length * 2 := o_s9 (fun x => by simp) us
 have hug : ∀ i (h : i < us.length), ((updD us).drop (i * 2)).take 2 = [.int .u64 us[i].1, .int .i64 us[i].2] := o_sb (f := fun u : Nat × Int => [D.int .u64 u.1, D.int .i64 u.2]) (fun x => by simp) us
 have hfew := o_mq cs 300 hn (by omega)
 have hx : (cs.take 300).length ≤ 300 := by rw [List.length_take]; omega
 generalize cs.take 300 = xs at hfew hx
 have hnw : Eqn Tryz.prog o_5r [.d (.sl xs.length (xs.map .bool))] [] (.p 0 0) [tapeO xs 0 false] := o_mo xs (by omega)
 generalize hashesD HS = HD at *
 have hht : HD.take (R * 2) = HD := List.take_of_length_le (by omega)
 simp only [o_5a, drD, cpD, skO, skD, List.map_cons, List.map_nil, hl0, BL] at hpar hhs hwith hfew ⊢
 generalize hWD : (ws.map fun x : Nat => D.int .u64 x) = WD at *
 generalize updD us = UD at *
 have hRb : (R : Int) * 1536 ≤ 281474976710656 ∧ (R : Int) ≤ 281474976710656 := by omega
 have hR0n : R ≠ 0 := by omega
 refine A02B o_w7 hpar ?_; try with_reducible exact tt
 refine CallS.g [] (hhs) ?_
 (simp -implicitDefEqProofs [-Bool.exists_bool]; try simp (disch := omega) only [w64, wu64])
 refine need.of (by first | omega | kernel_rfl) ?_
 refine AW.freeze 1 2 ⟨52, HD.map V.d⟩ HD (by simp) rfl ?_
 simp [frzH, hht, -Bool.exists_bool]
 refine A01B hfew ?_; try with_reducible exact tt
 refine CallS.g [] (hwith) (R0B ?_); try with_reducible exact tt
 refine A10B (fs hRb hR0n) ?_; try with_reducible exact tt
 refine CallS.n1 (hnw) (R0B ?_); try with_reducible exact tt
 refine CallS.n1 (hnw) (R0B ?_); try with_reducible exact tt
 refine A00B ?_; try with_reducible exact tt
 rw [o_wf _ (by rfl) R]
 refine AW.loopG (α := Nat × List Rw × Nat × Nat × Bool × List ST) (fun s => setS (List.replicate 244 .junk) [(1, .d (.sl us.length UD)), (7, .p 2 0), (8, .d (.sl R HD)), (9, .p 3 0), (11, .own 4 192 R), (12, .p 5 0), (13, .p 6 0), (14, .d (.int .i64 (s.2.2.1 : Nat))), (15, .d (.int .i64 (s.1 : Nat)))]) (fun s => [some ⟨26, [.d (.int .i64 r), .d (.int .i64 c), .d (.int .i64 k), .d (.int .i64 a), .d (.int .i64 b), .d (.sl ws.length WD)]⟩, none, some ⟨32, [.d (.int .i64 R), .d (.int .i64 C), .d (.int .i64 K), .d (.int .i64 A), .d (.int .i64 B)]⟩, some ⟨125, [.d (.int .i64 R), .d (.int .i64 C), .d (.int .i64 K), .d (.int .i64 A), .d (.int .i64 B), .d (.sl R (rowsD K A B s.2.1)), .d (.int .i64 (s.2.2.1 : Nat))]⟩, some ⟨57, stW s.2.2.2.2.2⟩, some (tapeO xs s.2.2.2.1 s.2.2.2.2.1), some (tapeO xs s.2.2.2.1 s.2.2.2.2.1)]) (fun s => s.1 ≤ us.length ∧ s.1 ≤ 20 ∧ s.2.1.length = R ∧ (∀ r ∈ s.2.1, GoodRow C K A B r) ∧ s.2.1.map (fun r => (r.a, r.b)) = HS ∧ s.2.2.1 ≤ 40 * s.1 ∧ s.2.2.2.1 ≤ xs.length ∧ Rel C s.2.1 s.2.2.2.2.2) (fun s => us.length - s.1) (0, rs0, 0, 0, false, List.replicate (R * 64) (0, 0, false)) ?_ ⟨Nat.zero_le _, by simp, hl0, hgd, hhm, by simp, Nat.zero_le _, hrel0⟩ ?_ ?_ ?_
 ·intro s hs; simp
 ·simp [hht, -Bool.exists_bool]
 ·simp [-Bool.exists_bool]
 rintro ⟨i, rs, T, p, d, L⟩ ⟨hi, hi20, hrl, hgr, hmp, hT, hp, hrel⟩
 simp only at hi hi20 hrl hgr hmp hT hp hrel
 simp [-Bool.exists_bool]
 have ew : IntKind.i64.wrap ((i : Int) + 1) = (i : Int) + 1 := w64 (by omega) (by omega)
 by_cases h30 : i < us.length ∧ i < 20
 ·obtain ⟨h1, h2⟩ := h30
  have h1' : (i : Int) < us.length := by omega
  have h2' : (i : Int) < 20 := by omega
  have hug1 := hug i h1
  have hub : i * 2 + 2 ≤ us.length * 2 := by omega
  have hky := hkey _ (List.getElem_mem h1)
  generalize us[i] = u at *
  obtain ⟨key, n0⟩ := u
  simp only at hug1 hky
  have hcl := o_uc (T := T) hg hC1 hC64 rs hrl hr1 hr4 hgr
  have hsm := o_ul (R := R) (C := C) (k := K) (a := A) (b := B) (T := T) (V := T) rs rs hg hC1 hC64 hgr hgr (by omega) (by omega) rfl
  rw [decide_eq_true (show rs = rs ∧ T = T from ⟨rfl, rfl⟩)] at hsm
  simp only [skO, skD, List.map_cons, List.map_nil, hrl] at hcl hsm
  by_cases m1 : 40 < n0
  ·by_cases m2 : n0 ≤ 1048576
   ·obtain ⟨m, mb, m31, -⟩ := o_nh n0 31 (by omega)
    replace mb : bits BinOp.and IntKind.i64 n0 31 = m := mb
    by_cases hkP : hP ≤ key
    ·have hbad := o_u4 (R := R) (C := C) (k := K) (a := A) (b := B) (T := T) rs xs key (m : Int) p d (.inl hkP)
     have hkn : 2305843009213693951 ≤ key := by unfold hP at hkP; omega
     have hkP' : (2305843009213693951 : Int) ≤ key := by omega
     as_aux_lemma =>
      simp only [skO, skD, List.map_cons, List.map_nil, hrl] at hbad
      refine A10B (fs h1 (fs h1' (fs h2 (fs h2' (fs hug1 (fs hub hul)))))) ?_; try with_reducible exact tt
      refine CallS.g [3] (hcl) (R1B (fs m1 (fs m2 mb)) ?_); try with_reducible exact tt
      refine A10B (fs m1 (fs m2 mb)) ?_; try with_reducible exact tt
      refine CallS.g [3, 5] (hbad) (R1B (fs hkn hkP') ?_); try with_reducible exact tt
      refine A10B (fs hkn hkP') ?_; try with_reducible exact tt
      refine CallS.g [3, 8] (hsm) (R1B ew ?_); try with_reducible exact tt
      refine A10B ew ?_; try with_reducible exact tt
      refine ⟨i + 1, rs, T, p, d, L, 4, 4, by simp, ⟨by omega, by omega, hrl, hgr, hmp, by omega, hp, hrel⟩, by omega, ?_, ?_⟩
      ·simp [swT, swH, sw, Ob.sw, V.ren, V.rens, -Bool.exists_bool]
      ·simp [swT, swH, sw, Ob.sw, V.ren, V.rens, hrl, -Bool.exists_bool]
    ·have hm40 : m ≤ 40 := by omega
     have hkP' : ¬ (2305843009213693951 : Int) ≤ key := by unfold hP at hkP; omega
     have hkn : ¬ 2305843009213693951 ≤ key := by unfold hP at hkP; omega
     have g3 : ¬ (m : Int) < 0 := by omega
     have g4 : ¬ (1048576 : Int) < m := by omega
     have g5 : ¬ 1048576 < m := by omega
     have hup := o_tn (T := T) hg hC1 hC64 rs hrl hr1 hr4 hgr xs key m p d (by omega) (by omega) (by omega) hp (by omega) _ rfl
     obtain ⟨U, hU⟩ : ∃ U, U = updM xs C K A B key m rs p d := ⟨_, rfl⟩
     rw [← hU] at hup
     by_cases hue : U.e = 0
     ·as_aux_lemma =>
       obtain ⟨o1, o2, o3⟩ := o_u0 rs p d (show (updM xs C K A B key m rs p d).e = 0 by rw [← hU]; exact hue)
       obtain ⟨-, gd1, gd2⟩ := (o_tv (key := key) (n := m) hg hC1 (by omega) rs p d hgr hp).2 (by rw [← hU]; exact hue)
       have hpU := (o_tv (key := key) (n := m) hg hC1 (by omega) rs p d hgr hp).1
       have hreln := o_wk hC1 hC64 hrel hgr (show (updM xs C K A B key m rs p d).e = 0 by rw [← hU]; exact hue)
       rw [← hU] at o1 o2 o3 gd1 gd2 hpU hreln
       replace o1 := o1.trans hrl
       simp only [if_pos hue, hue, skO, skD, List.map_cons, List.map_nil, hrl, o1] at hup
       have hsl : (stW L).length = R * 192 := by rw [o_wb, hrel.1, hrl]; omega
       have htkL : (stW L).take (R * 192) = stW L := List.take_of_length_le (by omega)
       refine A10B (fs h1 (fs h1' (fs h2 (fs h2' (fs hug1 (fs hub hul)))))) ?_; try with_reducible exact tt
       refine CallS.g [3] (hcl) (R1B (fs m1 (fs m2 mb)) ?_); try with_reducible exact tt
       refine A10B (fs m1 (fs m2 mb)) ?_; try with_reducible exact tt
       refine CallS.g [3, 5] (hup) (R1B (fs hkP' (fs hkn (fs g3 (fs g4 g5)))) ?_); try with_reducible exact tt
       refine A10B (fs hR0n (fs hsl htkL)) ?_; try with_reducible exact tt
       refine AW.loopT (α := Nat) 10 (fun q => [(21, .d (.int .i64 0)), (22, .d (.int .i64 (q : Nat)))]) (fun q => [(6, tapeO xs (updP xs C K A B key m rs p d q).1 (updP xs C K A B key m rs p d q).2), (9, ⟨57, stW (nxt xs C K A B key m rs p d L q)⟩)]) (fun q => q ≤ R) (fun q => R - q) 0 ?_ ?_ (Nat.zero_le _) ?_ ?_ ?_
       ·simp
       ·simp
       ·simp [-Bool.exists_bool]
       ·simp [nxt, -Bool.exists_bool]
       rintro q hq
       simp [-Bool.exists_bool]
       by_cases hqR : q < R
       ·as_aux_lemma =>
         have hqR' : (q : Int) < R := by omega
         have hqrs : q < rs.length := by omega
         have ewq : IntKind.i64.wrap ((q : Int) + 1) = ((q + 1 : Nat) : Int) := by rw [w64 (by omega) (by omega)]; omega
         obtain ⟨ra, rb, rl, rw'⟩ := hgr rs[q] (List.getElem_mem _)
         have hHq : HS[q]'(by omega) = (rs[q].a, rs[q].b) := by simp [← hmp]
         have hgi := hhg q (by omega)
         rw [hHq] at hgi
         obtain ⟨hgi1, hgi3, hgi2, hgi4⟩ := seg2 hgi
         have hb2 : q * 2 + 2 ≤ R * 2 := by omega
         have hsu := o_w2 rs[q].a rs[q].b key ra rb (by omega)
         have hcol : colOf C rs[q].a rs[q].b key < C := Nat.mod_lt _ (by omega)
         have e7 : IntKind.u64.wrap (C : Int) = C := by rw [IntKind.wrap_u64]; omega
         have e9 : (hsum rs[q].a rs[q].b key : Int).tmod C = (colOf C rs[q].a rs[q].b key : Int) := by rw [Int.tmod_eq_emod_of_nonneg (by omega)]; rfl
         have hgd : rs.getD q ⟨0, 0, []⟩ = rs[q] := by simp [List.getD, hqrs]
         have hrl2 := hrel.2 q (colOf C rs[q].a rs[q].b key) hqrs hcol
         rw [hgd] at hrl2
         have hag := o_wc L (q * 64 + colOf C rs[q].a rs[q].b key) (by rw [hrel.1]; omega)
         rw [show L[q * 64 + colOf C rs[q].a rs[q].b key]'(by rw [hrel.1]; omega) = rs[q].l.getD (colOf C rs[q].a rs[q].b key) (0, 0, false) by rw [← hrl2, List.getD_eq_getElem?_getD, List.getElem?_eq_getElem (by rw [hrel.1]; omega)]; rfl, show (q * 64 + colOf C rs[q].a rs[q].b key) * 3 = q * 192 + colOf C rs[q].a rs[q].b key * 3 by omega] at hag
         have hPl := o_u3 (key := key) (n := m) (d := d) hg hC1 (by omega) hgr hp q (by omega)
         have hra := o_ps xs K A B _ _ _ m _ (updP xs C K A B key m rs p d q).2 hg (o_rc rw' (show colOf C rs[q].a rs[q].b key < rs[q].l.length by omega)) (by omega) hPl (by omega) _ rfl
         have hzd : updZ xs C K A B key m rs p d q = addRM xs K A B m (rs[q].l.getD (colOf C rs[q].a rs[q].b key) (0, 0, false)).1 (rs[q].l.getD (colOf C rs[q].a rs[q].b key) (0, 0, false)).2.1 (rs[q].l.getD (colOf C rs[q].a rs[q].b key) (0, 0, false)).2.2 (updP xs C K A B key m rs p d q).1 (updP xs C K A B key m rs p d q).2 := by
          unfold updZ; rw [hgd]; rfl
         rw [← hzd] at hra
         have hpn := o_tz (cs := xs) (C := C) (k := K) (a := A) (b := B) (key := key) (n := m) rs p d q hqrs
         have hnx : nxt xs C K A B key m rs p d L (q + 1) = (nxt xs C K A B key m rs p d L q).set (q * 64 + colOf C rs[q].a rs[q].b key) ((updZ xs C K A B key m rs p d q).y, (updZ xs C K A B key m rs p d q).t, (updZ xs C K A B key m rs p d q).f) := by rw [nxt, hgd]
         have hNl : (nxt xs C K A B key m rs p d L q).length = R * 64 := by rw [o_wi, hrel.1, hrl]
         have hset := fun s => o_wd (nxt xs C K A B key m rs p d L q) (q * 64 + colOf C rs[q].a rs[q].b key) (by rw [hNl]; omega) s
         rw [show (q * 64 + colOf C rs[q].a rs[q].b key) * 3 = q * 192 + colOf C rs[q].a rs[q].b key * 3 by omega] at hset
         have hNs : (stW (nxt xs C K A B key m rs p d L q)).length = R * 192 := by rw [o_wb, hNl]; omega
         have hb192 : q * 192 + 192 ≤ R * 192 := by omega
         have hcb : (colOf C rs[q].a rs[q].b key : Int) < 64 := by omega
         have hcb' : q * 192 + colOf C rs[q].a rs[q].b key * 3 + 3 ≤ R * 192 := by omega
         clear hzd hrl2 hgd
         obtain ⟨Z, hZ⟩ : ∃ Z, Z = updZ xs C K A B key m rs p d q := ⟨_, rfl⟩
         rw [← hZ] at hra hpn hnx
         generalize colOf C rs[q].a rs[q].b key = col at *
         generalize hsum rs[q].a rs[q].b key = hs at *
         generalize rs[q].l.getD col (0, 0, false) = st at *
         obtain ⟨sy, stt, sf⟩ := st
         simp only at hag hra
         have hz0 : Z.e = 0 := by rw [hZ]; exact (o3 q hqrs).1
         clear hZ
         obtain ⟨e, zy, zt, zf, zp, zd⟩ := Z
         simp only at hz0 hnx hset hra hpn
         subst hz0
         simp only [stR, if_true, parD, tsD] at hra
         refine A10B (fs hqR (fs hqR' (fs hgi1 (fs hgi2 (fs hgi3 (fs hgi4 (fs hhl hb2))))))) ?_; try with_reducible exact tt
         refine A11B (fs e7 (fs e9 (fs hag (fs hb192 (fs hsl (fs hcb (fs hcb' hNs))))))) hsu ?_; try with_reducible exact tt
         refine CallS.o1 6 (hra) (R1B (fs hb192 (fs hsl (fs hcb (fs hcb' (fs hNs (fs hqR hqR')))))) ?_); try with_reducible exact tt
         refine A10B ewq ?_; try with_reducible exact tt
         have has := hset (zy, zt, zf)
         simp only [setMany] at has
         exact ⟨q + 1, by omega, by omega, Sub1.int (by omega), Subs.of (by simp [hpn, -Bool.exists_bool]), Subs.of (by rw [hnx]; exact has)⟩
       ·as_aux_lemma =>
         have h2 : q = R := by omega
         subst h2
         have hqP : updP xs C K A B key m rs p d q = (U.p, U.d) := by rw [o2, hrl]
         have hqN : (nxt xs C K A B key m rs p d L q).length = q * 64 := by rw [o_wi, hrel.1, hrl]
         rw [hrl] at hreln
         rw [hqP]
         generalize nxt xs C K A B key m rs p d L q = NL at *
         refine A00B ?_; try with_reducible exact tt
         refine CallS.o1 5 (o_mp xs U.p U.d) (R0B ?_); try with_reducible exact tt
         refine CallS.o1 6 (o_mp xs U.p U.d) (R0B ?_); try with_reducible exact tt
         have et : IntKind.i64.wrap ((T : Int) + m) = ((T + m : Nat) : Int) := by rw [w64 (by omega) (by omega)]; omega
         have hNs := o_wb NL
         have hsz : (stW NL).length = q * 192 := by rw [hNs, hqN]; omega
         refine A10B et ?_; try with_reducible exact tt
         refine AW.loopT (α := Nat) 10 (fun v => [(178, .d (.int .i64 (v : Nat)))]) (fun v => []) (fun v => v ≤ q) (fun v => q - v) 0 ?_ ?_ (Nat.zero_le _) ?_ ?_ ?_
         ·simp
         ·simp
         ·simp [-Bool.exists_bool]
         ·simp [-Bool.exists_bool]
         rintro v hv
         simp [-Bool.exists_bool]
         by_cases hvR : v < q
         ·have hvR' : (v : Int) < q := by omega
          have ewv : IntKind.i64.wrap ((v : Int) + 1) = ((v + 1 : Nat) : Int) := by rw [w64 (by omega) (by omega)]; omega
          refine A10B (fs hvR hvR') ?_; try with_reducible exact tt
          refine AW.loopT (α := Nat) 10 (fun w => [(183, .d (.int .i64 (w : Nat)))]) (fun w => []) (fun w => w ≤ C) (fun w => C - w) 0 ?_ ?_ (Nat.zero_le _) ?_ ?_ ?_
          ·simp
          ·simp
          ·simp [-Bool.exists_bool]
          ·simp [-Bool.exists_bool]
          rintro w hw
          simp [-Bool.exists_bool]
          by_cases hwC : w < C
          ·as_aux_lemma =>
            have hwC' : (w : Int) < C := by omega
            have hwC2 : (w : Int) < 64 := by omega
            have eww : IntKind.i64.wrap ((w : Int) + 1) = ((w + 1 : Nat) : Int) := by rw [w64 (by omega) (by omega)]; omega
            have hce := o_tc (R := q) (C := C) (k := K) (a := A) (b := B) (T := T + m) hg U.rs hC64 v w (by omega) (by omega) (gd1 _ (List.getElem_mem _)) hwC
            have hag := o_wc NL (v * 64 + w) (by omega)
            have hrv := hreln.2 v w (by omega) hwC
            rw [show U.rs.getD v ⟨0, 0, []⟩ = U.rs[v]'(by omega) by simp [List.getD, show v < U.rs.length by omega]] at hrv
            rw [show NL[v * 64 + w]'(by omega) = (U.rs[v]'(by omega)).l.getD w (0, 0, false) by rw [← hrv, List.getD_eq_getElem?_getD, List.getElem?_eq_getElem (by omega)]; rfl, show (v * 64 + w) * 3 = v * 192 + w * 3 by omega] at hag
            have hb1 : v * 192 + 192 ≤ q * 192 := by omega
            have hb3 : v * 192 + w * 3 + 3 ≤ q * 192 := by omega
            simp only [skO, skD, List.map_cons, List.map_nil, o1, tsD] at hce
            generalize (U.rs[v]'(by omega)).l.getD w (0, 0, false) = st at *
            obtain ⟨sy, stt, sf⟩ := st
            simp only at hce hag
            refine A10B (fs hwC hwC') ?_; try with_reducible exact tt
            refine CallS.g [3] (hce) (R1B (fs hwC2 (fs hag (fs hb1 (fs hb3 (fs hsz (fs hvR hvR')))))) ?_); try with_reducible exact tt
            refine A10B (fs eww (fs hwC2 (fs hag (fs hb1 (fs hb3 (fs hsz (fs hvR hvR'))))))) ?_; try with_reducible exact tt
            exact ⟨w + 1, by omega, by omega, Sub1.int (by omega)⟩
          ·have h3 : w = C := by omega
           subst h3
           refine A10B ewv ?_; try with_reducible exact tt
           exact ⟨v + 1, by omega, by omega, Sub1.int (by omega)⟩
         ·as_aux_lemma =>
           have h3 : v = q := by omega
           subst h3
           have htt := o_to (R := v) (C := C) (k := K) (a := A) (b := B) (T := T + m) U.rs
           have hs1 := o_ul (R := v) (C := C) (k := K) (a := A) (b := B) (T := T + m) (V := T) U.rs rs hg hC1 hC64 gd1 hgr (by omega) (by omega) (by omega)
           have hs2 := o_ul (R := v) (C := C) (k := K) (a := A) (b := B) (T := T) (V := T + m) rs U.rs hg hC1 hC64 hgr gd1 (by omega) (by omega) (by omega)
           simp only [skO, skD, List.map_cons, List.map_nil, o1, hrl] at htt hs1 hs2
           by_cases hm0 : m = 0
           ·as_aux_lemma =>
             have hUz : U.rs = rs := by
              rw [hU, hm0, o_wn hC1 rs p d hgr]
             rw [decide_eq_true (show U.rs = rs ∧ T + m = T from ⟨hUz, by omega⟩)] at hs1
             have hm0' : (m : Int) = 0 := by omega
             refine A00B ?_; try with_reducible exact tt
             refine CallS.g [3] (htt) (R0B ?_); try with_reducible exact tt
             refine CallS.g [3, 8] (hs1) (R1B (fs hm0 hm0') ?_); try with_reducible exact tt
             refine A10B (fs hm0 (fs hm0' ew)) ?_; try with_reducible exact tt
             refine ⟨i + 1, U.rs, T, U.p, U.d, NL, 4, 9, by simp, ⟨by omega, by omega, o1, gd1, gd2.trans hmp, by omega, hpU, hreln⟩, by omega, ?_, ?_⟩
             ·simp [swT, swH, sw, Ob.sw, V.ren, V.rens, -Bool.exists_bool]
             ·simp [swT, swH, sw, Ob.sw, V.ren, V.rens, o1, -Bool.exists_bool]
           ·as_aux_lemma =>
             rw [decide_eq_false (show ¬ (U.rs = rs ∧ T + m = T) from fun h => by omega)] at hs1
             rw [decide_eq_false (show ¬ (rs = U.rs ∧ T = T + m) from fun h => by omega)] at hs2
             have hm0' : ¬ (m : Int) = 0 := by omega
             refine A00B ?_; try with_reducible exact tt
             refine CallS.g [3] (htt) (R0B ?_); try with_reducible exact tt
             refine CallS.g [3, 8] (hs1) (R1B (fs hm0 hm0') ?_); try with_reducible exact tt
             refine CallS.g [8, 3] (hs2) (R1B (fs hm0 hm0') ?_); try with_reducible exact tt
             refine A10B (fs hm0 (fs hm0' ew)) ?_; try with_reducible exact tt
             refine ⟨i + 1, U.rs, T + m, U.p, U.d, NL, 4, 9, by simp, ⟨by omega, by omega, o1, gd1, gd2.trans hmp, by omega, hpU, hreln⟩, by omega, ?_, ?_⟩
             ·simp [swT, swH, sw, Ob.sw, V.ren, V.rens, -Bool.exists_bool]
             ·simp [swT, swH, sw, Ob.sw, V.ren, V.rens, o1, -Bool.exists_bool]
     ·as_aux_lemma =>
       simp only [if_neg hue, skO, skD, List.map_cons, List.map_nil, hrl] at hup
       have hsl : (stW L).length = R * 192 := by rw [o_wb, hrel.1, hrl]; omega
       have htkL : (stW L).take (R * 192) = stW L := List.take_of_length_le (by omega)
       refine A10B (fs h1 (fs h1' (fs h2 (fs h2' (fs hug1 (fs hub hul)))))) ?_; try with_reducible exact tt
       refine CallS.g [3] (hcl) (R1B (fs m1 (fs m2 mb)) ?_); try with_reducible exact tt
       refine A10B (fs m1 (fs m2 mb)) ?_; try with_reducible exact tt
       refine CallS.g [3, 5] (hup) (R1B (fs hkP' (fs hkn (fs g3 (fs g4 g5)))) ?_); try with_reducible exact tt
       refine A10B (fs hR0n (fs hsl htkL)) ?_; try with_reducible exact tt
       refine AW.loopT (α := Nat × Int × List ST) 10 (fun s => [(21, .d (.int .i64 s.2.1)), (22, .d (.int .i64 (s.1 : Nat)))]) (fun s => [(6, tapeO xs (updP xs C K A B key m rs p d s.1).1 (updP xs C K A B key m rs p d s.1).2), (9, ⟨57, stW s.2.2⟩)]) (fun s => s.1 ≤ R ∧ s.2.2.length = R * 64 ∧ ((s.2.1 = 0 ∧ ∀ j, j < s.1 → (updZ xs C K A B key m rs p d j).e = 0) ∨ (s.2.1 ≠ 0 ∧ s.2.1 = U.e ∧ updP xs C K A B key m rs p d s.1 = (U.p, U.d)))) (fun s => R - s.1) (0, 0, L) ?_ ?_ ⟨Nat.zero_le _, by rw [hrel.1, hrl], .inl ⟨rfl, by omega⟩⟩ ?_ ?_ ?_
       ·simp
       ·simp
       ·simp [-Bool.exists_bool]
       ·simp [-Bool.exists_bool]
       rintro ⟨q, fe, NN⟩ ⟨hq, hNl, hcase⟩
       simp only at hq hNl hcase
       simp [-Bool.exists_bool]
       rcases hcase with ⟨rfl, hall⟩ | ⟨hfe, hfu, hqP⟩
       ·by_cases hqR : q < R
        ·have hqR' : (q : Int) < R := by omega
         have hqrs : q < rs.length := by omega
         have ewq : IntKind.i64.wrap ((q : Int) + 1) = ((q + 1 : Nat) : Int) := by rw [w64 (by omega) (by omega)]; omega
         obtain ⟨ra, rb, rl, rw'⟩ := hgr rs[q] (List.getElem_mem _)
         have hHq : HS[q]'(by omega) = (rs[q].a, rs[q].b) := by simp [← hmp]
         have hgi := hhg q (by omega)
         rw [hHq] at hgi
         obtain ⟨hgi1, hgi3, hgi2, hgi4⟩ := seg2 hgi
         have hb2 : q * 2 + 2 ≤ R * 2 := by omega
         have hsu := o_w2 rs[q].a rs[q].b key ra rb (by omega)
         have hcol : colOf C rs[q].a rs[q].b key < C := Nat.mod_lt _ (by omega)
         have e7 : IntKind.u64.wrap (C : Int) = C := by rw [IntKind.wrap_u64]; omega
         have e9 : (hsum rs[q].a rs[q].b key : Int).tmod C = (colOf C rs[q].a rs[q].b key : Int) := by rw [Int.tmod_eq_emod_of_nonneg (by omega)]; rfl
         have hgd : rs.getD q ⟨0, 0, []⟩ = rs[q] := by simp [List.getD, hqrs]
         have hrl2 := hrel.2 q (colOf C rs[q].a rs[q].b key) hqrs hcol
         rw [hgd] at hrl2
         have hag := o_wc L (q * 64 + colOf C rs[q].a rs[q].b key) (by rw [hrel.1]; omega)
         rw [show L[q * 64 + colOf C rs[q].a rs[q].b key]'(by rw [hrel.1]; omega) = rs[q].l.getD (colOf C rs[q].a rs[q].b key) (0, 0, false) by rw [← hrl2, List.getD_eq_getElem?_getD, List.getElem?_eq_getElem (by rw [hrel.1]; omega)]; rfl, show (q * 64 + colOf C rs[q].a rs[q].b key) * 3 = q * 192 + colOf C rs[q].a rs[q].b key * 3 by omega] at hag
         have hPl := o_u3 (key := key) (n := m) (d := d) hg hC1 (by omega) hgr hp q (by omega)
         have hra := o_ps xs K A B _ _ _ m _ (updP xs C K A B key m rs p d q).2 hg (o_rc rw' (show colOf C rs[q].a rs[q].b key < rs[q].l.length by omega)) (by omega) hPl (by omega) _ rfl
         have hzd : updZ xs C K A B key m rs p d q = addRM xs K A B m (rs[q].l.getD (colOf C rs[q].a rs[q].b key) (0, 0, false)).1 (rs[q].l.getD (colOf C rs[q].a rs[q].b key) (0, 0, false)).2.1 (rs[q].l.getD (colOf C rs[q].a rs[q].b key) (0, 0, false)).2.2 (updP xs C K A B key m rs p d q).1 (updP xs C K A B key m rs p d q).2 := by
          unfold updZ; rw [hgd]; rfl
         rw [← hzd] at hra
         have hpn := o_tz (cs := xs) (C := C) (k := K) (a := A) (b := B) (key := key) (n := m) rs p d q hqrs
         have hset := fun s => o_wd (NN) (q * 64 + colOf C rs[q].a rs[q].b key) (by rw [hNl]; omega) s
         rw [show (q * 64 + colOf C rs[q].a rs[q].b key) * 3 = q * 192 + colOf C rs[q].a rs[q].b key * 3 by omega] at hset
         have hNs : (stW (NN)).length = R * 192 := by rw [o_wb, hNl]; omega
         have hb192 : q * 192 + 192 ≤ R * 192 := by omega
         have hcb : (colOf C rs[q].a rs[q].b key : Int) < 64 := by omega
         have hcb' : q * 192 + colOf C rs[q].a rs[q].b key * 3 + 3 ≤ R * 192 := by omega
         have herr := fun h => o_u1 (cs := xs) (C := C) (k := K) (a := A) (b := B) (key := key) (n := m) rs p d q hqrs hall h
         rw [← hU] at herr
         have hNset : ∀ s : ST, (NN.set (q * 64 + colOf C rs[q].a rs[q].b key) s).length = R * 64 := fun s => by rw [List.length_set, hNl]
         clear hzd hrl2 hgd
         obtain ⟨Z, hZ⟩ : ∃ Z, Z = updZ xs C K A B key m rs p d q := ⟨_, rfl⟩
         rw [← hZ] at hra hpn herr
         generalize colOf C rs[q].a rs[q].b key = col at *
         generalize hsum rs[q].a rs[q].b key = hs at *
         generalize rs[q].l.getD col (0, 0, false) = st at *
         obtain ⟨sy, stt, sf⟩ := st
         simp only at hag hra
         by_cases hz0 : Z.e = 0
         ·as_aux_lemma =>
           have hall2 : ∀ j, j < q + 1 → (updZ xs C K A B key m rs p d j).e = 0 := fun j hj => by
            by_cases hjq : j = q
            ·rw [hjq, ← hZ]; exact hz0
            ·exact hall j (by omega)
           clear hZ herr
           obtain ⟨e, zy, zt, zf, zp, zd⟩ := Z
           simp only at hz0 hra hpn
           subst hz0
           simp only [stR, if_true, parD, tsD] at hra
           refine A10B (fs hqR (fs hqR' (fs hgi1 (fs hgi2 (fs hgi3 (fs hgi4 (fs hhl hb2))))))) ?_; try with_reducible exact tt
           refine A11B (fs e7 (fs e9 (fs hag (fs hb192 (fs hsl (fs hcb (fs hcb' hNs))))))) hsu ?_; try with_reducible exact tt
           refine CallS.o1 6 (hra) (R1B (fs hb192 (fs hsl (fs hcb (fs hcb' (fs hNs (fs hqR hqR')))))) ?_); try with_reducible exact tt
           refine A10B ewq ?_; try with_reducible exact tt
           have has := hset (zy, zt, zf)
           simp only [setMany] at has
           exact ⟨q + 1, 0, _, ⟨by omega, hNset (zy, zt, zf), .inl ⟨rfl, hall2⟩⟩, by omega, ⟨Sub1.refl _, Sub1.int (by omega)⟩, Subs.of (by simp [hpn, -Bool.exists_bool]), Subs.of has⟩
         ·as_aux_lemma =>
           obtain ⟨r1, r2, r3⟩ := herr hz0
           clear hZ herr hall
           obtain ⟨e, zy, zt, zf, zp, zd⟩ := Z
           simp only at hz0 hra hpn r1 r2 r3
           simp only [stR, if_neg hz0, parD, tsD] at hra
           refine A10B (fs hqR (fs hqR' (fs hgi1 (fs hgi2 (fs hgi3 (fs hgi4 (fs hhl hb2))))))) ?_; try with_reducible exact tt
           refine A11B (fs e7 (fs e9 (fs hag (fs hb192 (fs hsl (fs hcb (fs hcb' hNs))))))) hsu ?_; try with_reducible exact tt
           refine CallS.o1 6 (hra) (R1B (fs hb192 (fs hsl (fs hcb (fs hcb' (fs hNs (fs hqR hqR')))))) ?_); try with_reducible exact tt
           refine A10B ewq ?_; try with_reducible exact tt
           have has := hset (sy, stt, sf)
           simp only [setMany] at has
           exact ⟨q + 1, e, _, ⟨by omega, hNset (sy, stt, sf), .inr ⟨hz0, r1.symm, by rw [hpn, r2, r3]⟩⟩, by omega, ⟨Sub1.refl _, Sub1.int (by omega)⟩, Subs.of (by simp [hpn, -Bool.exists_bool]), Subs.of has⟩
        ·exfalso
         refine hue ?_
         rw [hU]
         exact o_u2 rs p d fun j hj => hall j (by omega)
       ·rw [hqP]
        have hue' : ¬ U.e = 0 := hue
        rw [hfu]
        by_cases hqR : q < R
        ·as_aux_lemma =>
          have hqR' : (q : Int) < R := by omega
          refine A10B (fs hqR (fs hqR' hue')) ?_; try with_reducible exact tt
          refine CallS.o1 5 (o_mp xs U.p U.d) (R0B ?_); try with_reducible exact tt
          refine CallS.o1 6 (o_mp xs U.p U.d) (R0B ?_); try with_reducible exact tt
          refine A10B hue' ?_; try with_reducible exact tt
          refine CallS.g [3, 8] (hsm) (R0B ?_); try with_reducible exact tt
        ·as_aux_lemma =>
          have hqR' : ¬ (q : Int) < R := by omega
          refine A10B (fs hqR (fs hqR' hue')) ?_; try with_reducible exact tt
          refine CallS.o1 5 (o_mp xs U.p U.d) (R0B ?_); try with_reducible exact tt
          refine CallS.o1 6 (o_mp xs U.p U.d) (R0B ?_); try with_reducible exact tt
          refine A10B hue' ?_; try with_reducible exact tt
          refine CallS.g [3, 8] (hsm) (R0B ?_); try with_reducible exact tt
   ·have hbad := o_u4 (R := R) (C := C) (k := K) (a := A) (b := B) (T := T) rs xs key n0 p d (.inr (.inr (by omega)))
    have m3 : ¬ n0 < 0 := by omega
    have m4 : 1048576 < n0 := by omega
    by_cases hkn : 2305843009213693951 ≤ key
    ·have hkP' : (2305843009213693951 : Int) ≤ key := by omega
     as_aux_lemma =>
      simp only [skO, skD, List.map_cons, List.map_nil, hrl] at hbad
      refine A10B (fs h1 (fs h1' (fs h2 (fs h2' (fs hug1 (fs hub hul)))))) ?_; try with_reducible exact tt
      refine CallS.g [3] (hcl) (R1B (fs m1 m2) ?_); try with_reducible exact tt
      refine A10B (fs m1 m2) ?_; try with_reducible exact tt
      refine CallS.g [3, 5] (hbad) (R1B (fs hkn hkP') ?_); try with_reducible exact tt
      refine A10B (fs hkn hkP') ?_; try with_reducible exact tt
      refine CallS.g [3, 8] (hsm) (R1B ew ?_); try with_reducible exact tt
      refine A10B ew ?_; try with_reducible exact tt
      refine ⟨i + 1, rs, T, p, d, L, 4, 4, by simp, ⟨by omega, by omega, hrl, hgr, hmp, by omega, hp, hrel⟩, by omega, ?_, ?_⟩
      ·simp [swT, swH, sw, Ob.sw, V.ren, V.rens, -Bool.exists_bool]
      ·simp [swT, swH, sw, Ob.sw, V.ren, V.rens, hrl, -Bool.exists_bool]
    ·have hkP' : ¬ (2305843009213693951 : Int) ≤ key := by omega
     as_aux_lemma =>
      simp only [skO, skD, List.map_cons, List.map_nil, hrl] at hbad
      refine A10B (fs h1 (fs h1' (fs h2 (fs h2' (fs hug1 (fs hub hul)))))) ?_; try with_reducible exact tt
      refine CallS.g [3] (hcl) (R1B (fs m1 m2) ?_); try with_reducible exact tt
      refine A10B (fs m1 m2) ?_; try with_reducible exact tt
      refine CallS.g [3, 5] (hbad) (R1B (fs hkn (fs hkP' (fs m3 m4))) ?_); try with_reducible exact tt
      refine A10B (fs hkn (fs hkP' (fs m3 m4))) ?_; try with_reducible exact tt
      refine CallS.g [3, 8] (hsm) (R1B ew ?_); try with_reducible exact tt
      refine A10B ew ?_; try with_reducible exact tt
      refine ⟨i + 1, rs, T, p, d, L, 4, 4, by simp, ⟨by omega, by omega, hrl, hgr, hmp, by omega, hp, hrel⟩, by omega, ?_, ?_⟩
      ·simp [swT, swH, sw, Ob.sw, V.ren, V.rens, -Bool.exists_bool]
      ·simp [swT, swH, sw, Ob.sw, V.ren, V.rens, hrl, -Bool.exists_bool]
  ·by_cases m3 : n0 < 0
   ·have hbad := o_u4 (R := R) (C := C) (k := K) (a := A) (b := B) (T := T) rs xs key n0 p d (.inr (.inl (by omega)))
    by_cases hkn : 2305843009213693951 ≤ key
    ·have hkP' : (2305843009213693951 : Int) ≤ key := by omega
     as_aux_lemma =>
      simp only [skO, skD, List.map_cons, List.map_nil, hrl] at hbad
      refine A10B (fs h1 (fs h1' (fs h2 (fs h2' (fs hug1 (fs hub hul)))))) ?_; try with_reducible exact tt
      refine CallS.g [3] (hcl) (R1B m1 ?_); try with_reducible exact tt
      refine A10B m1 ?_; try with_reducible exact tt
      refine CallS.g [3, 5] (hbad) (R1B (fs hkn hkP') ?_); try with_reducible exact tt
      refine A10B (fs hkn hkP') ?_; try with_reducible exact tt
      refine CallS.g [3, 8] (hsm) (R1B ew ?_); try with_reducible exact tt
      refine A10B ew ?_; try with_reducible exact tt
      refine ⟨i + 1, rs, T, p, d, L, 4, 4, by simp, ⟨by omega, by omega, hrl, hgr, hmp, by omega, hp, hrel⟩, by omega, ?_, ?_⟩
      ·simp [swT, swH, sw, Ob.sw, V.ren, V.rens, -Bool.exists_bool]
      ·simp [swT, swH, sw, Ob.sw, V.ren, V.rens, hrl, -Bool.exists_bool]
    ·have hkP' : ¬ (2305843009213693951 : Int) ≤ key := by omega
     as_aux_lemma =>
      simp only [skO, skD, List.map_cons, List.map_nil, hrl] at hbad
      refine A10B (fs h1 (fs h1' (fs h2 (fs h2' (fs hug1 (fs hub hul)))))) ?_; try with_reducible exact tt
      refine CallS.g [3] (hcl) (R1B m1 ?_); try with_reducible exact tt
      refine A10B m1 ?_; try with_reducible exact tt
      refine CallS.g [3, 5] (hbad) (R1B (fs hkn (fs hkP' m3)) ?_); try with_reducible exact tt
      refine A10B (fs hkn (fs hkP' m3)) ?_; try with_reducible exact tt
      refine CallS.g [3, 8] (hsm) (R1B ew ?_); try with_reducible exact tt
      refine A10B ew ?_; try with_reducible exact tt
      refine ⟨i + 1, rs, T, p, d, L, 4, 4, by simp, ⟨by omega, by omega, hrl, hgr, hmp, by omega, hp, hrel⟩, by omega, ?_, ?_⟩
      ·simp [swT, swH, sw, Ob.sw, V.ren, V.rens, -Bool.exists_bool]
      ·simp [swT, swH, sw, Ob.sw, V.ren, V.rens, hrl, -Bool.exists_bool]
   ·obtain ⟨m, rfl⟩ : ∃ m : Nat, n0 = m := ⟨n0.toNat, by omega⟩
    have m1' : ¬ 40 < m := by omega
    by_cases hkP : hP ≤ key
    ·have hbad := o_u4 (R := R) (C := C) (k := K) (a := A) (b := B) (T := T) rs xs key (m : Int) p d (.inl hkP)
     have hkn : 2305843009213693951 ≤ key := by unfold hP at hkP; omega
     have hkP' : (2305843009213693951 : Int) ≤ key := by omega
     as_aux_lemma =>
      simp only [skO, skD, List.map_cons, List.map_nil, hrl] at hbad
      refine A10B (fs h1 (fs h1' (fs h2 (fs h2' (fs hug1 (fs hub hul)))))) ?_; try with_reducible exact tt
      refine CallS.g [3] (hcl) (R1B (fs m1 m1') ?_); try with_reducible exact tt
      refine A10B (fs m1 m1') ?_; try with_reducible exact tt
      refine CallS.g [3, 5] (hbad) (R1B (fs hkn hkP') ?_); try with_reducible exact tt
      refine A10B (fs hkn hkP') ?_; try with_reducible exact tt
      refine CallS.g [3, 8] (hsm) (R1B ew ?_); try with_reducible exact tt
      refine A10B ew ?_; try with_reducible exact tt
      refine ⟨i + 1, rs, T, p, d, L, 4, 4, by simp, ⟨by omega, by omega, hrl, hgr, hmp, by omega, hp, hrel⟩, by omega, ?_, ?_⟩
      ·simp [swT, swH, sw, Ob.sw, V.ren, V.rens, -Bool.exists_bool]
      ·simp [swT, swH, sw, Ob.sw, V.ren, V.rens, hrl, -Bool.exists_bool]
    ·have hm40 : m ≤ 40 := by omega
     have hkP' : ¬ (2305843009213693951 : Int) ≤ key := by unfold hP at hkP; omega
     have hkn : ¬ 2305843009213693951 ≤ key := by unfold hP at hkP; omega
     have g3 : ¬ (m : Int) < 0 := by omega
     have g4 : ¬ (1048576 : Int) < m := by omega
     have g5 : ¬ 1048576 < m := by omega
     have hup := o_tn (T := T) hg hC1 hC64 rs hrl hr1 hr4 hgr xs key m p d (by omega) (by omega) (by omega) hp (by omega) _ rfl
     obtain ⟨U, hU⟩ : ∃ U, U = updM xs C K A B key m rs p d := ⟨_, rfl⟩
     rw [← hU] at hup
     by_cases hue : U.e = 0
     ·as_aux_lemma =>
       obtain ⟨o1, o2, o3⟩ := o_u0 rs p d (show (updM xs C K A B key m rs p d).e = 0 by rw [← hU]; exact hue)
       obtain ⟨-, gd1, gd2⟩ := (o_tv (key := key) (n := m) hg hC1 (by omega) rs p d hgr hp).2 (by rw [← hU]; exact hue)
       have hpU := (o_tv (key := key) (n := m) hg hC1 (by omega) rs p d hgr hp).1
       have hreln := o_wk hC1 hC64 hrel hgr (show (updM xs C K A B key m rs p d).e = 0 by rw [← hU]; exact hue)
       rw [← hU] at o1 o2 o3 gd1 gd2 hpU hreln
       replace o1 := o1.trans hrl
       simp only [if_pos hue, hue, skO, skD, List.map_cons, List.map_nil, hrl, o1] at hup
       have hsl : (stW L).length = R * 192 := by rw [o_wb, hrel.1, hrl]; omega
       have htkL : (stW L).take (R * 192) = stW L := List.take_of_length_le (by omega)
       refine A10B (fs h1 (fs h1' (fs h2 (fs h2' (fs hug1 (fs hub hul)))))) ?_; try with_reducible exact tt
       refine CallS.g [3] (hcl) (R1B (fs m1 m1') ?_); try with_reducible exact tt
       refine A10B (fs m1 m1') ?_; try with_reducible exact tt
       refine CallS.g [3, 5] (hup) (R1B (fs hkP' (fs hkn (fs g3 (fs g4 g5)))) ?_); try with_reducible exact tt
       refine A10B (fs hR0n (fs hsl htkL)) ?_; try with_reducible exact tt
       refine AW.loopT (α := Nat) 10 (fun q => [(21, .d (.int .i64 0)), (22, .d (.int .i64 (q : Nat)))]) (fun q => [(6, tapeO xs (updP xs C K A B key m rs p d q).1 (updP xs C K A B key m rs p d q).2), (9, ⟨57, stW (nxt xs C K A B key m rs p d L q)⟩)]) (fun q => q ≤ R) (fun q => R - q) 0 ?_ ?_ (Nat.zero_le _) ?_ ?_ ?_
       ·simp
       ·simp
       ·simp [-Bool.exists_bool]
       ·simp [nxt, -Bool.exists_bool]
       rintro q hq
       simp [-Bool.exists_bool]
       by_cases hqR : q < R
       ·as_aux_lemma =>
         have hqR' : (q : Int) < R := by omega
         have hqrs : q < rs.length := by omega
         have ewq : IntKind.i64.wrap ((q : Int) + 1) = ((q + 1 : Nat) : Int) := by rw [w64 (by omega) (by omega)]; omega
         obtain ⟨ra, rb, rl, rw'⟩ := hgr rs[q] (List.getElem_mem _)
         have hHq : HS[q]'(by omega) = (rs[q].a, rs[q].b) := by simp [← hmp]
         have hgi := hhg q (by omega)
         rw [hHq] at hgi
         obtain ⟨hgi1, hgi3, hgi2, hgi4⟩ := seg2 hgi
         have hb2 : q * 2 + 2 ≤ R * 2 := by omega
         have hsu := o_w2 rs[q].a rs[q].b key ra rb (by omega)
         have hcol : colOf C rs[q].a rs[q].b key < C := Nat.mod_lt _ (by omega)
         have e7 : IntKind.u64.wrap (C : Int) = C := by rw [IntKind.wrap_u64]; omega
         have e9 : (hsum rs[q].a rs[q].b key : Int).tmod C = (colOf C rs[q].a rs[q].b key : Int) := by rw [Int.tmod_eq_emod_of_nonneg (by omega)]; rfl
         have hgd : rs.getD q ⟨0, 0, []⟩ = rs[q] := by simp [List.getD, hqrs]
         have hrl2 := hrel.2 q (colOf C rs[q].a rs[q].b key) hqrs hcol
         rw [hgd] at hrl2
         have hag := o_wc L (q * 64 + colOf C rs[q].a rs[q].b key) (by rw [hrel.1]; omega)
         rw [show L[q * 64 + colOf C rs[q].a rs[q].b key]'(by rw [hrel.1]; omega) = rs[q].l.getD (colOf C rs[q].a rs[q].b key) (0, 0, false) by rw [← hrl2, List.getD_eq_getElem?_getD, List.getElem?_eq_getElem (by rw [hrel.1]; omega)]; rfl, show (q * 64 + colOf C rs[q].a rs[q].b key) * 3 = q * 192 + colOf C rs[q].a rs[q].b key * 3 by omega] at hag
         have hPl := o_u3 (key := key) (n := m) (d := d) hg hC1 (by omega) hgr hp q (by omega)
         have hra := o_ps xs K A B _ _ _ m _ (updP xs C K A B key m rs p d q).2 hg (o_rc rw' (show colOf C rs[q].a rs[q].b key < rs[q].l.length by omega)) (by omega) hPl (by omega) _ rfl
         have hzd : updZ xs C K A B key m rs p d q = addRM xs K A B m (rs[q].l.getD (colOf C rs[q].a rs[q].b key) (0, 0, false)).1 (rs[q].l.getD (colOf C rs[q].a rs[q].b key) (0, 0, false)).2.1 (rs[q].l.getD (colOf C rs[q].a rs[q].b key) (0, 0, false)).2.2 (updP xs C K A B key m rs p d q).1 (updP xs C K A B key m rs p d q).2 := by
          unfold updZ; rw [hgd]; rfl
         rw [← hzd] at hra
         have hpn := o_tz (cs := xs) (C := C) (k := K) (a := A) (b := B) (key := key) (n := m) rs p d q hqrs
         have hnx : nxt xs C K A B key m rs p d L (q + 1) = (nxt xs C K A B key m rs p d L q).set (q * 64 + colOf C rs[q].a rs[q].b key) ((updZ xs C K A B key m rs p d q).y, (updZ xs C K A B key m rs p d q).t, (updZ xs C K A B key m rs p d q).f) := by rw [nxt, hgd]
         have hNl : (nxt xs C K A B key m rs p d L q).length = R * 64 := by rw [o_wi, hrel.1, hrl]
         have hset := fun s => o_wd (nxt xs C K A B key m rs p d L q) (q * 64 + colOf C rs[q].a rs[q].b key) (by rw [hNl]; omega) s
         rw [show (q * 64 + colOf C rs[q].a rs[q].b key) * 3 = q * 192 + colOf C rs[q].a rs[q].b key * 3 by omega] at hset
         have hNs : (stW (nxt xs C K A B key m rs p d L q)).length = R * 192 := by rw [o_wb, hNl]; omega
         have hb192 : q * 192 + 192 ≤ R * 192 := by omega
         have hcb : (colOf C rs[q].a rs[q].b key : Int) < 64 := by omega
         have hcb' : q * 192 + colOf C rs[q].a rs[q].b key * 3 + 3 ≤ R * 192 := by omega
         clear hzd hrl2 hgd
         obtain ⟨Z, hZ⟩ : ∃ Z, Z = updZ xs C K A B key m rs p d q := ⟨_, rfl⟩
         rw [← hZ] at hra hpn hnx
         generalize colOf C rs[q].a rs[q].b key = col at *
         generalize hsum rs[q].a rs[q].b key = hs at *
         generalize rs[q].l.getD col (0, 0, false) = st at *
         obtain ⟨sy, stt, sf⟩ := st
         simp only at hag hra
         have hz0 : Z.e = 0 := by rw [hZ]; exact (o3 q hqrs).1
         clear hZ
         obtain ⟨e, zy, zt, zf, zp, zd⟩ := Z
         simp only at hz0 hnx hset hra hpn
         subst hz0
         simp only [stR, if_true, parD, tsD] at hra
         refine A10B (fs hqR (fs hqR' (fs hgi1 (fs hgi2 (fs hgi3 (fs hgi4 (fs hhl hb2))))))) ?_; try with_reducible exact tt
         refine A11B (fs e7 (fs e9 (fs hag (fs hb192 (fs hsl (fs hcb (fs hcb' hNs))))))) hsu ?_; try with_reducible exact tt
         refine CallS.o1 6 (hra) (R1B (fs hb192 (fs hsl (fs hcb (fs hcb' (fs hNs (fs hqR hqR')))))) ?_); try with_reducible exact tt
         refine A10B ewq ?_; try with_reducible exact tt
         have has := hset (zy, zt, zf)
         simp only [setMany] at has
         exact ⟨q + 1, by omega, by omega, Sub1.int (by omega), Subs.of (by simp [hpn, -Bool.exists_bool]), Subs.of (by rw [hnx]; exact has)⟩
       ·as_aux_lemma =>
         have h2 : q = R := by omega
         subst h2
         have hqP : updP xs C K A B key m rs p d q = (U.p, U.d) := by rw [o2, hrl]
         have hqN : (nxt xs C K A B key m rs p d L q).length = q * 64 := by rw [o_wi, hrel.1, hrl]
         rw [hrl] at hreln
         rw [hqP]
         generalize nxt xs C K A B key m rs p d L q = NL at *
         refine A00B ?_; try with_reducible exact tt
         refine CallS.o1 5 (o_mp xs U.p U.d) (R0B ?_); try with_reducible exact tt
         refine CallS.o1 6 (o_mp xs U.p U.d) (R0B ?_); try with_reducible exact tt
         have et : IntKind.i64.wrap ((T : Int) + m) = ((T + m : Nat) : Int) := by rw [w64 (by omega) (by omega)]; omega
         have hNs := o_wb NL
         have hsz : (stW NL).length = q * 192 := by rw [hNs, hqN]; omega
         refine A10B et ?_; try with_reducible exact tt
         refine AW.loopT (α := Nat) 10 (fun v => [(178, .d (.int .i64 (v : Nat)))]) (fun v => []) (fun v => v ≤ q) (fun v => q - v) 0 ?_ ?_ (Nat.zero_le _) ?_ ?_ ?_
         ·simp
         ·simp
         ·simp [-Bool.exists_bool]
         ·simp [-Bool.exists_bool]
         rintro v hv
         simp [-Bool.exists_bool]
         by_cases hvR : v < q
         ·have hvR' : (v : Int) < q := by omega
          have ewv : IntKind.i64.wrap ((v : Int) + 1) = ((v + 1 : Nat) : Int) := by rw [w64 (by omega) (by omega)]; omega
          refine A10B (fs hvR hvR') ?_; try with_reducible exact tt
          refine AW.loopT (α := Nat) 10 (fun w => [(183, .d (.int .i64 (w : Nat)))]) (fun w => []) (fun w => w ≤ C) (fun w => C - w) 0 ?_ ?_ (Nat.zero_le _) ?_ ?_ ?_
          ·simp
          ·simp
          ·simp [-Bool.exists_bool]
          ·simp [-Bool.exists_bool]
          rintro w hw
          simp [-Bool.exists_bool]
          by_cases hwC : w < C
          ·as_aux_lemma =>
            have hwC' : (w : Int) < C := by omega
            have hwC2 : (w : Int) < 64 := by omega
            have eww : IntKind.i64.wrap ((w : Int) + 1) = ((w + 1 : Nat) : Int) := by rw [w64 (by omega) (by omega)]; omega
            have hce := o_tc (R := q) (C := C) (k := K) (a := A) (b := B) (T := T + m) hg U.rs hC64 v w (by omega) (by omega) (gd1 _ (List.getElem_mem _)) hwC
            have hag := o_wc NL (v * 64 + w) (by omega)
            have hrv := hreln.2 v w (by omega) hwC
            rw [show U.rs.getD v ⟨0, 0, []⟩ = U.rs[v]'(by omega) by simp [List.getD, show v < U.rs.length by omega]] at hrv
            rw [show NL[v * 64 + w]'(by omega) = (U.rs[v]'(by omega)).l.getD w (0, 0, false) by rw [← hrv, List.getD_eq_getElem?_getD, List.getElem?_eq_getElem (by omega)]; rfl, show (v * 64 + w) * 3 = v * 192 + w * 3 by omega] at hag
            have hb1 : v * 192 + 192 ≤ q * 192 := by omega
            have hb3 : v * 192 + w * 3 + 3 ≤ q * 192 := by omega
            simp only [skO, skD, List.map_cons, List.map_nil, o1, tsD] at hce
            generalize (U.rs[v]'(by omega)).l.getD w (0, 0, false) = st at *
            obtain ⟨sy, stt, sf⟩ := st
            simp only at hce hag
            refine A10B (fs hwC hwC') ?_; try with_reducible exact tt
            refine CallS.g [3] (hce) (R1B (fs hwC2 (fs hag (fs hb1 (fs hb3 (fs hsz (fs hvR hvR')))))) ?_); try with_reducible exact tt
            refine A10B (fs eww (fs hwC2 (fs hag (fs hb1 (fs hb3 (fs hsz (fs hvR hvR'))))))) ?_; try with_reducible exact tt
            exact ⟨w + 1, by omega, by omega, Sub1.int (by omega)⟩
          ·have h3 : w = C := by omega
           subst h3
           refine A10B ewv ?_; try with_reducible exact tt
           exact ⟨v + 1, by omega, by omega, Sub1.int (by omega)⟩
         ·as_aux_lemma =>
           have h3 : v = q := by omega
           subst h3
           have htt := o_to (R := v) (C := C) (k := K) (a := A) (b := B) (T := T + m) U.rs
           have hs1 := o_ul (R := v) (C := C) (k := K) (a := A) (b := B) (T := T + m) (V := T) U.rs rs hg hC1 hC64 gd1 hgr (by omega) (by omega) (by omega)
           have hs2 := o_ul (R := v) (C := C) (k := K) (a := A) (b := B) (T := T) (V := T + m) rs U.rs hg hC1 hC64 hgr gd1 (by omega) (by omega) (by omega)
           simp only [skO, skD, List.map_cons, List.map_nil, o1, hrl] at htt hs1 hs2
           by_cases hm0 : m = 0
           ·as_aux_lemma =>
             have hUz : U.rs = rs := by
              rw [hU, hm0, o_wn hC1 rs p d hgr]
             rw [decide_eq_true (show U.rs = rs ∧ T + m = T from ⟨hUz, by omega⟩)] at hs1
             have hm0' : (m : Int) = 0 := by omega
             refine A00B ?_; try with_reducible exact tt
             refine CallS.g [3] (htt) (R0B ?_); try with_reducible exact tt
             refine CallS.g [3, 8] (hs1) (R1B (fs hm0 hm0') ?_); try with_reducible exact tt
             refine A10B (fs hm0 (fs hm0' ew)) ?_; try with_reducible exact tt
             refine ⟨i + 1, U.rs, T, U.p, U.d, NL, 4, 9, by simp, ⟨by omega, by omega, o1, gd1, gd2.trans hmp, by omega, hpU, hreln⟩, by omega, ?_, ?_⟩
             ·simp [swT, swH, sw, Ob.sw, V.ren, V.rens, -Bool.exists_bool]
             ·simp [swT, swH, sw, Ob.sw, V.ren, V.rens, o1, -Bool.exists_bool]
           ·as_aux_lemma =>
             rw [decide_eq_false (show ¬ (U.rs = rs ∧ T + m = T) from fun h => by omega)] at hs1
             rw [decide_eq_false (show ¬ (rs = U.rs ∧ T = T + m) from fun h => by omega)] at hs2
             have hm0' : ¬ (m : Int) = 0 := by omega
             refine A00B ?_; try with_reducible exact tt
             refine CallS.g [3] (htt) (R0B ?_); try with_reducible exact tt
             refine CallS.g [3, 8] (hs1) (R1B (fs hm0 hm0') ?_); try with_reducible exact tt
             refine CallS.g [8, 3] (hs2) (R1B (fs hm0 hm0') ?_); try with_reducible exact tt
             refine A10B (fs hm0 (fs hm0' ew)) ?_; try with_reducible exact tt
             refine ⟨i + 1, U.rs, T + m, U.p, U.d, NL, 4, 9, by simp, ⟨by omega, by omega, o1, gd1, gd2.trans hmp, by omega, hpU, hreln⟩, by omega, ?_, ?_⟩
             ·simp [swT, swH, sw, Ob.sw, V.ren, V.rens, -Bool.exists_bool]
             ·simp [swT, swH, sw, Ob.sw, V.ren, V.rens, o1, -Bool.exists_bool]
     ·as_aux_lemma =>
       simp only [if_neg hue, skO, skD, List.map_cons, List.map_nil, hrl] at hup
       have hsl : (stW L).length = R * 192 := by rw [o_wb, hrel.1, hrl]; omega
       have htkL : (stW L).take (R * 192) = stW L := List.take_of_length_le (by omega)
       refine A10B (fs h1 (fs h1' (fs h2 (fs h2' (fs hug1 (fs hub hul)))))) ?_; try with_reducible exact tt
       refine CallS.g [3] (hcl) (R1B (fs m1 m1') ?_); try with_reducible exact tt
       refine A10B (fs m1 m1') ?_; try with_reducible exact tt
       refine CallS.g [3, 5] (hup) (R1B (fs hkP' (fs hkn (fs g3 (fs g4 g5)))) ?_); try with_reducible exact tt
       refine A10B (fs hR0n (fs hsl htkL)) ?_; try with_reducible exact tt
       refine AW.loopT (α := Nat × Int × List ST) 10 (fun s => [(21, .d (.int .i64 s.2.1)), (22, .d (.int .i64 (s.1 : Nat)))]) (fun s => [(6, tapeO xs (updP xs C K A B key m rs p d s.1).1 (updP xs C K A B key m rs p d s.1).2), (9, ⟨57, stW s.2.2⟩)]) (fun s => s.1 ≤ R ∧ s.2.2.length = R * 64 ∧ ((s.2.1 = 0 ∧ ∀ j, j < s.1 → (updZ xs C K A B key m rs p d j).e = 0) ∨ (s.2.1 ≠ 0 ∧ s.2.1 = U.e ∧ updP xs C K A B key m rs p d s.1 = (U.p, U.d)))) (fun s => R - s.1) (0, 0, L) ?_ ?_ ⟨Nat.zero_le _, by rw [hrel.1, hrl], .inl ⟨rfl, by omega⟩⟩ ?_ ?_ ?_
       ·simp
       ·simp
       ·simp [-Bool.exists_bool]
       ·simp [-Bool.exists_bool]
       rintro ⟨q, fe, NN⟩ ⟨hq, hNl, hcase⟩
       simp only at hq hNl hcase
       simp [-Bool.exists_bool]
       rcases hcase with ⟨rfl, hall⟩ | ⟨hfe, hfu, hqP⟩
       ·by_cases hqR : q < R
        ·have hqR' : (q : Int) < R := by omega
         have hqrs : q < rs.length := by omega
         have ewq : IntKind.i64.wrap ((q : Int) + 1) = ((q + 1 : Nat) : Int) := by rw [w64 (by omega) (by omega)]; omega
         obtain ⟨ra, rb, rl, rw'⟩ := hgr rs[q] (List.getElem_mem _)
         have hHq : HS[q]'(by omega) = (rs[q].a, rs[q].b) := by simp [← hmp]
         have hgi := hhg q (by omega)
         rw [hHq] at hgi
         obtain ⟨hgi1, hgi3, hgi2, hgi4⟩ := seg2 hgi
         have hb2 : q * 2 + 2 ≤ R * 2 := by omega
         have hsu := o_w2 rs[q].a rs[q].b key ra rb (by omega)
         have hcol : colOf C rs[q].a rs[q].b key < C := Nat.mod_lt _ (by omega)
         have e7 : IntKind.u64.wrap (C : Int) = C := by rw [IntKind.wrap_u64]; omega
         have e9 : (hsum rs[q].a rs[q].b key : Int).tmod C = (colOf C rs[q].a rs[q].b key : Int) := by rw [Int.tmod_eq_emod_of_nonneg (by omega)]; rfl
         have hgd : rs.getD q ⟨0, 0, []⟩ = rs[q] := by simp [List.getD, hqrs]
         have hrl2 := hrel.2 q (colOf C rs[q].a rs[q].b key) hqrs hcol
         rw [hgd] at hrl2
         have hag := o_wc L (q * 64 + colOf C rs[q].a rs[q].b key) (by rw [hrel.1]; omega)
         rw [show L[q * 64 + colOf C rs[q].a rs[q].b key]'(by rw [hrel.1]; omega) = rs[q].l.getD (colOf C rs[q].a rs[q].b key) (0, 0, false) by rw [← hrl2, List.getD_eq_getElem?_getD, List.getElem?_eq_getElem (by rw [hrel.1]; omega)]; rfl, show (q * 64 + colOf C rs[q].a rs[q].b key) * 3 = q * 192 + colOf C rs[q].a rs[q].b key * 3 by omega] at hag
         have hPl := o_u3 (key := key) (n := m) (d := d) hg hC1 (by omega) hgr hp q (by omega)
         have hra := o_ps xs K A B _ _ _ m _ (updP xs C K A B key m rs p d q).2 hg (o_rc rw' (show colOf C rs[q].a rs[q].b key < rs[q].l.length by omega)) (by omega) hPl (by omega) _ rfl
         have hzd : updZ xs C K A B key m rs p d q = addRM xs K A B m (rs[q].l.getD (colOf C rs[q].a rs[q].b key) (0, 0, false)).1 (rs[q].l.getD (colOf C rs[q].a rs[q].b key) (0, 0, false)).2.1 (rs[q].l.getD (colOf C rs[q].a rs[q].b key) (0, 0, false)).2.2 (updP xs C K A B key m rs p d q).1 (updP xs C K A B key m rs p d q).2 := by
          unfold updZ; rw [hgd]; rfl
         rw [← hzd] at hra
         have hpn := o_tz (cs := xs) (C := C) (k := K) (a := A) (b := B) (key := key) (n := m) rs p d q hqrs
         have hset := fun s => o_wd (NN) (q * 64 + colOf C rs[q].a rs[q].b key) (by rw [hNl]; omega) s
         rw [show (q * 64 + colOf C rs[q].a rs[q].b key) * 3 = q * 192 + colOf C rs[q].a rs[q].b key * 3 by omega] at hset
         have hNs : (stW (NN)).length = R * 192 := by rw [o_wb, hNl]; omega
         have hb192 : q * 192 + 192 ≤ R * 192 := by omega
         have hcb : (colOf C rs[q].a rs[q].b key : Int) < 64 := by omega
         have hcb' : q * 192 + colOf C rs[q].a rs[q].b key * 3 + 3 ≤ R * 192 := by omega
         have herr := fun h => o_u1 (cs := xs) (C := C) (k := K) (a := A) (b := B) (key := key) (n := m) rs p d q hqrs hall h
         rw [← hU] at herr
         have hNset : ∀ s : ST, (NN.set (q * 64 + colOf C rs[q].a rs[q].b key) s).length = R * 64 := fun s => by rw [List.length_set, hNl]
         clear hzd hrl2 hgd
         obtain ⟨Z, hZ⟩ : ∃ Z, Z = updZ xs C K A B key m rs p d q := ⟨_, rfl⟩
         rw [← hZ] at hra hpn herr
         generalize colOf C rs[q].a rs[q].b key = col at *
         generalize hsum rs[q].a rs[q].b key = hs at *
         generalize rs[q].l.getD col (0, 0, false) = st at *
         obtain ⟨sy, stt, sf⟩ := st
         simp only at hag hra
         by_cases hz0 : Z.e = 0
         ·as_aux_lemma =>
           have hall2 : ∀ j, j < q + 1 → (updZ xs C K A B key m rs p d j).e = 0 := fun j hj => by
            by_cases hjq : j = q
            ·rw [hjq, ← hZ]; exact hz0
            ·exact hall j (by omega)
           clear hZ herr
           obtain ⟨e, zy, zt, zf, zp, zd⟩ := Z
           simp only at hz0 hra hpn
           subst hz0
           simp only [stR, if_true, parD, tsD] at hra
           refine A10B (fs hqR (fs hqR' (fs hgi1 (fs hgi2 (fs hgi3 (fs hgi4 (fs hhl hb2))))))) ?_; try with_reducible exact tt
           refine A11B (fs e7 (fs e9 (fs hag (fs hb192 (fs hsl (fs hcb (fs hcb' hNs))))))) hsu ?_; try with_reducible exact tt
           refine CallS.o1 6 (hra) (R1B (fs hb192 (fs hsl (fs hcb (fs hcb' (fs hNs (fs hqR hqR')))))) ?_); try with_reducible exact tt
           refine A10B ewq ?_; try with_reducible exact tt
           have has := hset (zy, zt, zf)
           simp only [setMany] at has
           exact ⟨q + 1, 0, _, ⟨by omega, hNset (zy, zt, zf), .inl ⟨rfl, hall2⟩⟩, by omega, ⟨Sub1.refl _, Sub1.int (by omega)⟩, Subs.of (by simp [hpn, -Bool.exists_bool]), Subs.of has⟩
         ·as_aux_lemma =>
           obtain ⟨r1, r2, r3⟩ := herr hz0
           clear hZ herr hall
           obtain ⟨e, zy, zt, zf, zp, zd⟩ := Z
           simp only at hz0 hra hpn r1 r2 r3
           simp only [stR, if_neg hz0, parD, tsD] at hra
           refine A10B (fs hqR (fs hqR' (fs hgi1 (fs hgi2 (fs hgi3 (fs hgi4 (fs hhl hb2))))))) ?_; try with_reducible exact tt
           refine A11B (fs e7 (fs e9 (fs hag (fs hb192 (fs hsl (fs hcb (fs hcb' hNs))))))) hsu ?_; try with_reducible exact tt
           refine CallS.o1 6 (hra) (R1B (fs hb192 (fs hsl (fs hcb (fs hcb' (fs hNs (fs hqR hqR')))))) ?_); try with_reducible exact tt
           refine A10B ewq ?_; try with_reducible exact tt
           have has := hset (sy, stt, sf)
           simp only [setMany] at has
           exact ⟨q + 1, e, _, ⟨by omega, hNset (sy, stt, sf), .inr ⟨hz0, r1.symm, by rw [hpn, r2, r3]⟩⟩, by omega, ⟨Sub1.refl _, Sub1.int (by omega)⟩, Subs.of (by simp [hpn, -Bool.exists_bool]), Subs.of has⟩
        ·exfalso
         refine hue ?_
         rw [hU]
         exact o_u2 rs p d fun j hj => hall j (by omega)
       ·rw [hqP]
        have hue' : ¬ U.e = 0 := hue
        rw [hfu]
        by_cases hqR : q < R
        ·as_aux_lemma =>
          have hqR' : (q : Int) < R := by omega
          refine A10B (fs hqR (fs hqR' hue')) ?_; try with_reducible exact tt
          refine CallS.o1 5 (o_mp xs U.p U.d) (R0B ?_); try with_reducible exact tt
          refine CallS.o1 6 (o_mp xs U.p U.d) (R0B ?_); try with_reducible exact tt
          refine A10B hue' ?_; try with_reducible exact tt
          refine CallS.g [3, 8] (hsm) (R0B ?_); try with_reducible exact tt
        ·as_aux_lemma =>
          have hqR' : ¬ (q : Int) < R := by omega
          refine A10B (fs hqR (fs hqR' hue')) ?_; try with_reducible exact tt
          refine CallS.o1 5 (o_mp xs U.p U.d) (R0B ?_); try with_reducible exact tt
          refine CallS.o1 6 (o_mp xs U.p U.d) (R0B ?_); try with_reducible exact tt
          refine A10B hue' ?_; try with_reducible exact tt
          refine CallS.g [3, 8] (hsm) (R0B ?_); try with_reducible exact tt
 ·have hz : ¬ ((i : Int) < us.length ∧ (i : Int) < 20) := by omega
  have hce1 := o_u5 (R := R) (C := C) (k := K) (a := A) (b := B) (T := T) rs R 0 (by omega) (by omega)
  have hce2 := o_u7 (R := R) (C := C) (k := K) (a := A) (b := B) (T := T) rs 0 C (by omega) (by omega) (by rw [(hgr _ (List.getElem_mem _)).2.2.1]; exact Nat.le_refl _) (by omega)
  simp only [skO, skD, List.map_cons, List.map_nil, hrl] at hce1 hce2
  by_cases h1 : (i : Int) < us.length
  ·have h2 : ¬ (i : Int) < 20 := fun h => hz ⟨h1, h⟩
   have h1n : i < us.length := by omega
   have h2n : ¬ i < 20 := by omega
   refine A10B (fs h1 (fs h2 (fs h1n h2n))) ?_; try with_reducible exact tt
   refine CallS.g [3] (hce1) (R0B ?_); try with_reducible exact tt
   refine CallS.g [3] (hce2) (R0B ?_); try with_reducible exact tt
  ·have h1n : ¬ i < us.length := by omega
   refine A10B (fs h1 h1n) ?_; try with_reducible exact tt
   refine CallS.g [3] (hce1) (R0B ?_); try with_reducible exact tt
   refine CallS.g [3] (hce2) (R0B ?_); try with_reducible exact tt
end
end Go.Proofs.YtlelpbaeplcfiaaGreatDoor.Am
namespace Go.Proofs.YtlelpbaeplcfiaaGreatDoor.Am
section
open Go.RowKit

theorem o_wp {W : World} {v : Value} {L : List Int} {r c k a b : Int} (w : Cells W v 1 L.length (L.map fun a => [Value.int .u64 a]).flatten) (h : ∀ a ∈ L, (Lit.int .u64 a).wf = true) : ∃ ws : List Nat, ws.length = L.length ∧ V.rep (memW W) (.d (drD r c k a b ws)) (.agg #[.int .i64 r, .int .i64 c, .int .i64 k, .int .i64 a, .int .i64 b, v]) := by
 obtain ⟨ws, rfl, -⟩ := o_tr h
 refine ⟨ws, by simp, ?_⟩
 have hw : Cells W v 1 ws.length (ws.map fun n : Nat => Value.int .u64 n) := by
  have e : ((ws.map fun n : Nat => (n : Int)).map fun a => [Value.int .u64 a]).flatten = ws.map fun n : Nat => Value.int .u64 n := by
   rw [List.map_map]
   clear w h
   induction ws with
   | nil => rfl
   | cons x l ih => simp only [List.map_cons, List.flatten_cons, ih]; rfl
  rw [e, List.length_map] at w; exact w
 have hr := o_t5 (fun n : Nat => D.int .u64 n) (fun n : Nat => Value.int .u64 n) (fun _ => rfl) (fun _ => D.rep_int.2 rfl) hw
 refine o_t8 (vs := [.int .i64 r, .int .i64 c, .int .i64 k, .int .i64 a, .int .i64 b, v]) (fun z hz => ?_) ?_
 ·simp at hz
  rcases hz with rfl | rfl | rfl | rfl | rfl | rfl <;> first | rfl | exact o_tt w
 ·exact D.reps_cons.2 ⟨D.rep_int.2 rfl, D.reps_cons.2 ⟨D.rep_int.2 rfl, D.reps_cons.2 ⟨D.rep_int.2 rfl, D.reps_cons.2 ⟨D.rep_int.2 rfl, D.reps_cons.2 ⟨D.rep_int.2 rfl, D.reps_cons.2 ⟨V.rep_d.1 hr, D.reps_nil.2 rfl⟩⟩⟩⟩⟩⟩
theorem o_wq {W : World} {v : Value} {L : List (Int × Int)} (w : Cells W v 2 L.length (L.map fun a => [Value.int .u64 a.1, Value.int .i64 a.2]).flatten) (h : ∀ a ∈ L, (Lit.int .u64 a.1).wf = true ∧ (Lit.int .i64 a.2).wf = true) : ∃ us : List (Nat × Int), us.length = L.length ∧ (∀ u ∈ us, u.1 < 18446744073709551616) ∧ V.rep (memW W) (.d (.sl us.length (updD us))) v := by
 obtain ⟨us, rfl, hu⟩ := o_ts h
 refine ⟨us, by simp, hu, ?_⟩
 rw [List.map_map, List.length_map] at w
 exact o_tq (fun u : Nat × Int => [D.int .u64 u.1, D.int .i64 u.2]) (fun u : Nat × Int => [Value.int .u64 u.1, Value.int .i64 u.2]) (fun a u hu => by simp at hu; rcases hu with rfl | rfl <;> rfl) (fun a => by simp [D.reps_cons, D.rep_int]) w
end
end Go.Proofs.YtlelpbaeplcfiaaGreatDoor.Am
namespace Go.Proofs.YtlelpbaeplcfiaaGreatDoor.Am
section
open Go.RowKit

theorem cu_walk {W : World} {v0 v1 v2 : Value} {r c k a b : Int} {L0 : List Int} {L1 : List (Int × Int)} {cs : List Bool}
  (_ : (Lit.int .i64 r).wf = true) (_ : (Lit.int .i64 c).wf = true) (_ : (Lit.int .i64 k).wf = true) (_ : (Lit.int .i64 a).wf = true) (_ : (Lit.int .i64 b).wf = true)
  (w0 : Cells W v0 1 L0.length (L0.map fun a => [Value.int .u64 a]).flatten) (h0 : L0.length ≤ maxLen) (p0 : ∀ a ∈ L0, (Lit.int .u64 a).wf = true)
  (w1 : Cells W v1 2 L1.length (L1.map fun a => [Value.int .u64 a.1, Value.int .i64 a.2]).flatten) (h1 : L1.length ≤ maxLen) (p1 : ∀ a ∈ L1, (Lit.int .u64 a.1).wf = true ∧ (Lit.int .i64 a.2).wf = true) (w2 : Bools W v2 cs) :
  Calls Tryz.prog o_59 #[.agg #[.int .i64 r, .int .i64 c, .int .i64 k, .int .i64 a, .int .i64 b, v0], v1, v2] W (fun e W' => e = .returned (.bool true) ∧ Same W W') := by
 obtain ⟨ws, hws, hr0⟩ := o_wp (r := r) (c := c) (k := k) (a := a) (b := b) w0 p0
 obtain ⟨us, hus, hk, hr1⟩ := o_wq w1 p1
 have hb := o_t7 w2
 unfold maxLen at h0 h1 hb
 exact law_walk o_5b (o_wo r c k a b ws us cs (by omega) (by omega) hk (by omega)) (V.reps_cons.2 ⟨hr0, V.reps_cons.2 ⟨hr1, V.reps_cons.2 ⟨o_t6 w2, V.reps_nil.2 rfl⟩⟩⟩)
end
end Go.Proofs.YtlelpbaeplcfiaaGreatDoor.Am
